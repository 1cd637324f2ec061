/-
  DERIVED. GIVEN WITH THE SEED: THE CARDS: each row of YtnjopfjmepbpoaaDoorRows.lean that lists a variable, with what it lists TIED to the program's text (the seventh form; the later family's looks); each row that meets fmt, with fmt's text TOLD by the authors' own Lean function (tested against real Go, not proved from fmt's source: count such statements apart). THE CARD IS WHAT COUNTS. Prove the row's statement (the work); the ties are given (YtnjopfjmepbpoaaDoorTie.lean); close each card by the builder's one call (the guide's Derived/Test/ToyasCard.lean, 'card_holds'). Laid BY PROGRAM, IN A SANDBOX (cutbox-door.mjs). By AI agents, Wed Nov 11 2026. No macro, syntax, notation, axiom, sorry.
-/
import Derived.Test.YtnjopfjmepbpoaaDoorRows
import GoSem.ClaimSeven
namespace Go.Proofs.YtnjopfjmepbpoaaDoor
namespace Rows

/-- THE TIED CARD OF 'antiquarylaw13.AttrCodesAsSpecified'. -/
def attrCodesAsSpecifiedCard : Claim7 := { stood := { row := attrCodesAsSpecifiedRow, standIns := [], harness := (true, "4f79586dcdad2771d8b7fb6c51578f3eda71b8a5787a80557615bd73ca5c4a65"), looks := false }, kinds := [], alts := [], laidByText := true, laidKinds := [.data, .data], laidTests := true, laidLooks := .later }
def AttrCodesAsSpecifiedCardSaid : Prop := Claim7.holds Tryd.pinned (.plain (OpenSpec.ofChange attrCodesAsSpecifiedSpec)) attrCodesAsSpecifiedCard

/-- THE TIED CARD OF 'antiquarylaw13.AttrChecksAsSpecified'. -/
def attrChecksAsSpecifiedCard : Claim7 := { stood := { row := attrChecksAsSpecifiedRow, standIns := [], harness := (true, "4f79586dcdad2771d8b7fb6c51578f3eda71b8a5787a80557615bd73ca5c4a65"), looks := false }, kinds := [], alts := [], laidByText := true, laidKinds := [.data, .data], laidTests := true, laidLooks := .later }
def AttrChecksAsSpecifiedCardSaid : Prop := Claim7.holds Tryd.pinned (.plain (OpenSpec.ofChange attrChecksAsSpecifiedSpec)) attrChecksAsSpecifiedCard

/-- THE SECOND FORM's CARD OF 'antiquarylaw13.AttrCodesAsSpecified'. -/
def attrCodesAsSpecifiedUptoCard : Claim7 := { stood := { row := attrCodesAsSpecifiedUptoRow, standIns := [], harness := (true, "4f79586dcdad2771d8b7fb6c51578f3eda71b8a5787a80557615bd73ca5c4a65"), looks := false }, kinds := [], alts := [], laidByText := true, laidKinds := [.data, .data], laidTests := true, laidLooks := .later }
def AttrCodesAsSpecifiedUptoCardSaid : Prop := Claim7.holds Tryd.pinned (.plain (OpenSpec.upto attrCodesAsSpecifiedSpec)) attrCodesAsSpecifiedUptoCard

/-- THE SECOND FORM's CARD OF 'antiquarylaw13.AttrChecksAsSpecified'. -/
def attrChecksAsSpecifiedUptoCard : Claim7 := { stood := { row := attrChecksAsSpecifiedUptoRow, standIns := [], harness := (true, "4f79586dcdad2771d8b7fb6c51578f3eda71b8a5787a80557615bd73ca5c4a65"), looks := false }, kinds := [], alts := [], laidByText := true, laidKinds := [.data, .data], laidTests := true, laidLooks := .later }
def AttrChecksAsSpecifiedUptoCardSaid : Prop := Claim7.holds Tryd.pinned (.plain (OpenSpec.upto attrChecksAsSpecifiedSpec)) attrChecksAsSpecifiedUptoCard
end Rows
end Go.Proofs.YtnjopfjmepbpoaaDoor
