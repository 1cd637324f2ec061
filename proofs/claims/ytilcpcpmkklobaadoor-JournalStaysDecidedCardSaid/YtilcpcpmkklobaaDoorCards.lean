/-
  DERIVED. GIVEN WITH THE SEED: THE CARDS: each row of YtilcpcpmkklobaaDoorRows.lean that lists a variable, with what it lists TIED to the program's text (the seventh form; the later family's looks); each row that meets fmt, with fmt's text TOLD by the authors' own Lean function (tested against real Go, not proved from fmt's source: count such statements apart). THE CARD IS WHAT COUNTS. Prove the row's statement (the work); the ties are given (YtilcpcpmkklobaaDoorTie.lean); close each card by the builder's one call (the guide's Derived/Test/ToyasCard.lean, 'card_holds'). Laid BY PROGRAM, IN A SANDBOX (cutbox-door.mjs). By AI agents, Wed Nov 11 2026. No macro, syntax, notation, axiom, sorry.
-/
import Derived.Test.YtilcpcpmkklobaaDoorRows
import GoSem.ClaimSeven
namespace Go.Proofs.YtilcpcpmkklobaaDoor
namespace Rows

/-- THE TIED CARD OF 'antiquarylaw24.JournalCostsLittle'. -/
def journalCostsLittleCard : Claim7 := { stood := { row := journalCostsLittleRow, standIns := [], harness := (true, "2789aa949991271a0020f58f9b4f581b48bd81be847530b7c6291538249fc01e"), looks := false }, kinds := [], alts := [], laidByText := true, laidKinds := [.data], laidTests := true, laidLooks := .later }
def JournalCostsLittleCardSaid : Prop := Claim7.holds Tryd.pinned (.plain (OpenSpec.ofChange journalCostsLittleSpec)) journalCostsLittleCard

/-- THE TIED CARD OF 'antiquarylaw24.JournalOutlivesRot'. -/
def journalOutlivesRotCard : Claim7 := { stood := { row := journalOutlivesRotRow, standIns := [], harness := (true, "2789aa949991271a0020f58f9b4f581b48bd81be847530b7c6291538249fc01e"), looks := false }, kinds := [], alts := [], laidByText := true, laidKinds := [.data], laidTests := true, laidLooks := .later }
def JournalOutlivesRotCardSaid : Prop := Claim7.holds Tryd.pinned (.plain (OpenSpec.ofChange journalOutlivesRotSpec)) journalOutlivesRotCard

/-- THE TIED CARD OF 'antiquarylaw24.JournalIsAllOrNothing'. -/
def journalIsAllOrNothingCard : Claim7 := { stood := { row := journalIsAllOrNothingRow, standIns := [], harness := (true, "2789aa949991271a0020f58f9b4f581b48bd81be847530b7c6291538249fc01e"), looks := false }, kinds := [], alts := [], laidByText := true, laidKinds := [.data], laidTests := true, laidLooks := .later }
def JournalIsAllOrNothingCardSaid : Prop := Claim7.holds Tryd.pinned (.plain (OpenSpec.ofChange journalIsAllOrNothingSpec)) journalIsAllOrNothingCard

/-- THE TIED CARD OF 'antiquarylaw24.JournalStaysDecided'. -/
def journalStaysDecidedCard : Claim7 := { stood := { row := journalStaysDecidedRow, standIns := [], harness := (true, "2789aa949991271a0020f58f9b4f581b48bd81be847530b7c6291538249fc01e"), looks := false }, kinds := [], alts := [], laidByText := true, laidKinds := [.data], laidTests := true, laidLooks := .later }
def JournalStaysDecidedCardSaid : Prop := Claim7.holds Tryd.pinned (.plain (OpenSpec.ofChange journalStaysDecidedSpec)) journalStaysDecidedCard

/-- THE SECOND FORM's CARD OF 'antiquarylaw24.JournalCostsLittle'. -/
def journalCostsLittleUptoCard : Claim7 := { stood := { row := journalCostsLittleUptoRow, standIns := [], harness := (true, "2789aa949991271a0020f58f9b4f581b48bd81be847530b7c6291538249fc01e"), looks := false }, kinds := [], alts := [], laidByText := true, laidKinds := [.data], laidTests := true, laidLooks := .later }
def JournalCostsLittleUptoCardSaid : Prop := Claim7.holds Tryd.pinned (.plain (OpenSpec.upto journalCostsLittleSpec)) journalCostsLittleUptoCard

/-- THE SECOND FORM's CARD OF 'antiquarylaw24.JournalOutlivesRot'. -/
def journalOutlivesRotUptoCard : Claim7 := { stood := { row := journalOutlivesRotUptoRow, standIns := [], harness := (true, "2789aa949991271a0020f58f9b4f581b48bd81be847530b7c6291538249fc01e"), looks := false }, kinds := [], alts := [], laidByText := true, laidKinds := [.data], laidTests := true, laidLooks := .later }
def JournalOutlivesRotUptoCardSaid : Prop := Claim7.holds Tryd.pinned (.plain (OpenSpec.upto journalOutlivesRotSpec)) journalOutlivesRotUptoCard

/-- THE SECOND FORM's CARD OF 'antiquarylaw24.JournalIsAllOrNothing'. -/
def journalIsAllOrNothingUptoCard : Claim7 := { stood := { row := journalIsAllOrNothingUptoRow, standIns := [], harness := (true, "2789aa949991271a0020f58f9b4f581b48bd81be847530b7c6291538249fc01e"), looks := false }, kinds := [], alts := [], laidByText := true, laidKinds := [.data], laidTests := true, laidLooks := .later }
def JournalIsAllOrNothingUptoCardSaid : Prop := Claim7.holds Tryd.pinned (.plain (OpenSpec.upto journalIsAllOrNothingSpec)) journalIsAllOrNothingUptoCard

/-- THE SECOND FORM's CARD OF 'antiquarylaw24.JournalStaysDecided'. -/
def journalStaysDecidedUptoCard : Claim7 := { stood := { row := journalStaysDecidedUptoRow, standIns := [], harness := (true, "2789aa949991271a0020f58f9b4f581b48bd81be847530b7c6291538249fc01e"), looks := false }, kinds := [], alts := [], laidByText := true, laidKinds := [.data], laidTests := true, laidLooks := .later }
def JournalStaysDecidedUptoCardSaid : Prop := Claim7.holds Tryd.pinned (.plain (OpenSpec.upto journalStaysDecidedSpec)) journalStaysDecidedUptoCard
end Rows
end Go.Proofs.YtilcpcpmkklobaaDoor
