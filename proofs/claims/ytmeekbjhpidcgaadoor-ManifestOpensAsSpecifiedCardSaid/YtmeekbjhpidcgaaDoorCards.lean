/-
  DERIVED. GIVEN WITH THE SEED: THE CARDS: each row of YtmeekbjhpidcgaaDoorRows.lean that lists a variable, with what it lists TIED to the program's text (the seventh form; the later family's looks); each row that meets fmt, with fmt's text TOLD by the authors' own Lean function (tested against real Go, not proved from fmt's source: count such statements apart). THE CARD IS WHAT COUNTS. Prove the row's statement (the work); the ties are given (YtmeekbjhpidcgaaDoorTie.lean); close each card by the builder's one call (the guide's Derived/Test/ToyasCard.lean, 'card_holds'). Laid BY PROGRAM, IN A SANDBOX (cutbox-door.mjs). By AI agents, Wed Nov 11 2026. No macro, syntax, notation, axiom, sorry.
-/
import Derived.Test.YtmeekbjhpidcgaaDoorRows
import GoSem.ClaimSeven
namespace Go.Proofs.YtmeekbjhpidcgaaDoor
namespace Rows

/-- THE TIED CARD OF 'antiquarylaw32.ManifestOpensAsSpecified'. -/
def manifestOpensAsSpecifiedCard : Claim7 := { stood := { row := manifestOpensAsSpecifiedRow, standIns := [], harness := (true, "557bde60dcdd7640814f2738058ca2168842803ddfb5c4ae54cfad851f3cf217"), looks := false }, kinds := [], alts := [], laidByText := true, laidKinds := [.data], laidTests := true, laidLooks := .later }
def ManifestOpensAsSpecifiedCardSaid : Prop := Claim7.holds Tryd.pinned (.plain (OpenSpec.ofChange manifestOpensAsSpecifiedSpec)) manifestOpensAsSpecifiedCard

/-- THE SECOND FORM's CARD OF 'antiquarylaw32.ManifestOpensAsSpecified'. -/
def manifestOpensAsSpecifiedUptoCard : Claim7 := { stood := { row := manifestOpensAsSpecifiedUptoRow, standIns := [], harness := (true, "557bde60dcdd7640814f2738058ca2168842803ddfb5c4ae54cfad851f3cf217"), looks := false }, kinds := [], alts := [], laidByText := true, laidKinds := [.data], laidTests := true, laidLooks := .later }
def ManifestOpensAsSpecifiedUptoCardSaid : Prop := Claim7.holds Tryd.pinned (.plain (OpenSpec.upto manifestOpensAsSpecifiedSpec)) manifestOpensAsSpecifiedUptoCard
end Rows
end Go.Proofs.YtmeekbjhpidcgaaDoor
