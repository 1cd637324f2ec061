/-
  DERIVED. GIVEN WITH THE SEED: THE CARDS: each row of YtmeekbjhpidcgaaGreatDoorRows.lean that lists a variable, with what it lists TIED to the program's text (the seventh form; the later family's looks); each row that meets fmt, with fmt's text TOLD by the authors' own Lean function (tested against real Go, not proved from fmt's source: count such statements apart). THE CARD IS WHAT COUNTS. Prove the row's statement (the work); the ties are given (YtmeekbjhpidcgaaGreatDoorTie.lean); close each card by the builder's one call (the guide's Derived/Test/ToyasCard.lean, 'card_holds'). Laid BY PROGRAM, IN A SANDBOX (cutbox-door.mjs). By AI agents, Wed Nov 11 2026. No macro, syntax, notation, axiom, sorry.
-/
import Derived.Test.YtmeekbjhpidcgaaGreatDoorRows
import GoSem.ClaimSeven
namespace Go.Proofs.YtmeekbjhpidcgaaGreatDoor
namespace Rows

/-- THE TIED CARD OF 'antiquarylaw32.ManifestReadsAsSpecified'. -/
def manifestReadsAsSpecifiedCard : Claim7 := { stood := { row := manifestReadsAsSpecifiedRow, standIns := [], harness := (true, "31af61688bd626de9495e88313189ad841fdb5b70829d6256c0db5dd49a33da0"), looks := false }, kinds := [], alts := [], laidByText := true, laidKinds := [.data], laidTests := true, laidLooks := .later }
def ManifestReadsAsSpecifiedCardSaid : Prop := Claim7.holds Tryz.pinned (.plain (OpenSpec.ofChange manifestReadsAsSpecifiedSpec)) manifestReadsAsSpecifiedCard

/-- THE TIED CARD OF 'antiquarylaw32.ManifestComparesAsSpecified'. -/
def manifestComparesAsSpecifiedCard : Claim7 := { stood := { row := manifestComparesAsSpecifiedRow, standIns := [], harness := (true, "31af61688bd626de9495e88313189ad841fdb5b70829d6256c0db5dd49a33da0"), looks := false }, kinds := [], alts := [], laidByText := true, laidKinds := [.data], laidTests := true, laidLooks := .later }
def ManifestComparesAsSpecifiedCardSaid : Prop := Claim7.holds Tryz.pinned (.plain (OpenSpec.ofChange manifestComparesAsSpecifiedSpec)) manifestComparesAsSpecifiedCard

/-- THE TIED CARD OF 'antiquarylaw32.ManifestBearsRot'. -/
def manifestBearsRotCard : Claim7 := { stood := { row := manifestBearsRotRow, standIns := [], harness := (true, "31af61688bd626de9495e88313189ad841fdb5b70829d6256c0db5dd49a33da0"), looks := false }, kinds := [], alts := [], laidByText := true, laidKinds := [.data], laidTests := true, laidLooks := .later }
def ManifestBearsRotCardSaid : Prop := Claim7.holds Tryz.pinned (.plain (OpenSpec.ofChange manifestBearsRotSpec)) manifestBearsRotCard

/-- THE SECOND FORM's CARD OF 'antiquarylaw32.ManifestReadsAsSpecified'. -/
def manifestReadsAsSpecifiedUptoCard : Claim7 := { stood := { row := manifestReadsAsSpecifiedUptoRow, standIns := [], harness := (true, "31af61688bd626de9495e88313189ad841fdb5b70829d6256c0db5dd49a33da0"), looks := false }, kinds := [], alts := [], laidByText := true, laidKinds := [.data], laidTests := true, laidLooks := .later }
def ManifestReadsAsSpecifiedUptoCardSaid : Prop := Claim7.holds Tryz.pinned (.plain (OpenSpec.upto manifestReadsAsSpecifiedSpec)) manifestReadsAsSpecifiedUptoCard

/-- THE SECOND FORM's CARD OF 'antiquarylaw32.ManifestComparesAsSpecified'. -/
def manifestComparesAsSpecifiedUptoCard : Claim7 := { stood := { row := manifestComparesAsSpecifiedUptoRow, standIns := [], harness := (true, "31af61688bd626de9495e88313189ad841fdb5b70829d6256c0db5dd49a33da0"), looks := false }, kinds := [], alts := [], laidByText := true, laidKinds := [.data], laidTests := true, laidLooks := .later }
def ManifestComparesAsSpecifiedUptoCardSaid : Prop := Claim7.holds Tryz.pinned (.plain (OpenSpec.upto manifestComparesAsSpecifiedSpec)) manifestComparesAsSpecifiedUptoCard

/-- THE SECOND FORM's CARD OF 'antiquarylaw32.ManifestBearsRot'. -/
def manifestBearsRotUptoCard : Claim7 := { stood := { row := manifestBearsRotUptoRow, standIns := [], harness := (true, "31af61688bd626de9495e88313189ad841fdb5b70829d6256c0db5dd49a33da0"), looks := false }, kinds := [], alts := [], laidByText := true, laidKinds := [.data], laidTests := true, laidLooks := .later }
def ManifestBearsRotUptoCardSaid : Prop := Claim7.holds Tryz.pinned (.plain (OpenSpec.upto manifestBearsRotSpec)) manifestBearsRotUptoCard
end Rows
end Go.Proofs.YtmeekbjhpidcgaaGreatDoor
