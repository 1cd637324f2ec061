/-
  DERIVED. GIVEN WITH THE SEED: THE CARDS: each row of YtmciloafahkolaaGreatDoorRows.lean that lists a variable, with what it lists TIED to the program's text (the seventh form; the later family's looks); each row that meets fmt, with fmt's text TOLD by the authors' own Lean function (tested against real Go, not proved from fmt's source: count such statements apart). THE CARD IS WHAT COUNTS. Prove the row's statement (the work); the ties are given (YtmciloafahkolaaGreatDoorTie.lean); close each card by the builder's one call (the guide's Derived/Test/ToyasCard.lean, 'card_holds'). Laid BY PROGRAM, IN A SANDBOX (cutbox-door.mjs). By AI agents, Wed Nov 11 2026. No macro, syntax, notation, axiom, sorry.
-/
import Derived.Test.YtmciloafahkolaaGreatDoorRows
import GoSem.ClaimSeven
namespace Go.Proofs.YtmciloafahkolaaGreatDoor
namespace Rows

/-- THE TIED CARD OF 'antiquarylaw42.NotifySendsAsSpecified'. -/
def notifySendsAsSpecifiedCard : Claim7 := { stood := { row := notifySendsAsSpecifiedRow, standIns := [], harness := (true, "65e0590ed2a906b8609e6cdee3c65417a7916681a556bece089b21dbfcf3b5e4"), looks := false }, kinds := [], alts := [], laidByText := true, laidKinds := [.data], laidTests := true, laidLooks := .later }
def NotifySendsAsSpecifiedCardSaid : Prop := Claim7.holds Tryz.pinned (.plain (OpenSpec.ofChange notifySendsAsSpecifiedSpec)) notifySendsAsSpecifiedCard

/-- THE TIED CARD OF 'antiquarylaw42.NotifyReceivesAsSpecified'. -/
def notifyReceivesAsSpecifiedCard : Claim7 := { stood := { row := notifyReceivesAsSpecifiedRow, standIns := [], harness := (true, "65e0590ed2a906b8609e6cdee3c65417a7916681a556bece089b21dbfcf3b5e4"), looks := false }, kinds := [], alts := [], laidByText := true, laidKinds := [.data], laidTests := true, laidLooks := .later }
def NotifyReceivesAsSpecifiedCardSaid : Prop := Claim7.holds Tryz.pinned (.plain (OpenSpec.ofChange notifyReceivesAsSpecifiedSpec)) notifyReceivesAsSpecifiedCard

/-- THE TIED CARD OF 'antiquarylaw42.NotifySenderSurvives'. -/
def notifySenderSurvivesCard : Claim7 := { stood := { row := notifySenderSurvivesRow, standIns := [], harness := (true, "65e0590ed2a906b8609e6cdee3c65417a7916681a556bece089b21dbfcf3b5e4"), looks := false }, kinds := [], alts := [], laidByText := true, laidKinds := [.data], laidTests := true, laidLooks := .later }
def NotifySenderSurvivesCardSaid : Prop := Claim7.holds Tryz.pinned (.plain (OpenSpec.ofChange notifySenderSurvivesSpec)) notifySenderSurvivesCard

/-- THE TIED CARD OF 'antiquarylaw42.NotifyOnce'. -/
def notifyOnceCard : Claim7 := { stood := { row := notifyOnceRow, standIns := [], harness := (true, "65e0590ed2a906b8609e6cdee3c65417a7916681a556bece089b21dbfcf3b5e4"), looks := false }, kinds := [], alts := [], laidByText := true, laidKinds := [.data], laidTests := true, laidLooks := .later }
def NotifyOnceCardSaid : Prop := Claim7.holds Tryz.pinned (.plain (OpenSpec.ofChange notifyOnceSpec)) notifyOnceCard

/-- THE TIED CARD OF 'antiquarylaw42.NotifyAll'. -/
def notifyAllCard : Claim7 := { stood := { row := notifyAllRow, standIns := [], harness := (true, "65e0590ed2a906b8609e6cdee3c65417a7916681a556bece089b21dbfcf3b5e4"), looks := false }, kinds := [], alts := [], laidByText := true, laidKinds := [.data], laidTests := true, laidLooks := .later }
def NotifyAllCardSaid : Prop := Claim7.holds Tryz.pinned (.plain (OpenSpec.ofChange notifyAllSpec)) notifyAllCard

/-- THE SECOND FORM's CARD OF 'antiquarylaw42.NotifySendsAsSpecified'. -/
def notifySendsAsSpecifiedUptoCard : Claim7 := { stood := { row := notifySendsAsSpecifiedUptoRow, standIns := [], harness := (true, "65e0590ed2a906b8609e6cdee3c65417a7916681a556bece089b21dbfcf3b5e4"), looks := false }, kinds := [], alts := [], laidByText := true, laidKinds := [.data], laidTests := true, laidLooks := .later }
def NotifySendsAsSpecifiedUptoCardSaid : Prop := Claim7.holds Tryz.pinned (.plain (OpenSpec.upto notifySendsAsSpecifiedSpec)) notifySendsAsSpecifiedUptoCard

/-- THE SECOND FORM's CARD OF 'antiquarylaw42.NotifyReceivesAsSpecified'. -/
def notifyReceivesAsSpecifiedUptoCard : Claim7 := { stood := { row := notifyReceivesAsSpecifiedUptoRow, standIns := [], harness := (true, "65e0590ed2a906b8609e6cdee3c65417a7916681a556bece089b21dbfcf3b5e4"), looks := false }, kinds := [], alts := [], laidByText := true, laidKinds := [.data], laidTests := true, laidLooks := .later }
def NotifyReceivesAsSpecifiedUptoCardSaid : Prop := Claim7.holds Tryz.pinned (.plain (OpenSpec.upto notifyReceivesAsSpecifiedSpec)) notifyReceivesAsSpecifiedUptoCard

/-- THE SECOND FORM's CARD OF 'antiquarylaw42.NotifySenderSurvives'. -/
def notifySenderSurvivesUptoCard : Claim7 := { stood := { row := notifySenderSurvivesUptoRow, standIns := [], harness := (true, "65e0590ed2a906b8609e6cdee3c65417a7916681a556bece089b21dbfcf3b5e4"), looks := false }, kinds := [], alts := [], laidByText := true, laidKinds := [.data], laidTests := true, laidLooks := .later }
def NotifySenderSurvivesUptoCardSaid : Prop := Claim7.holds Tryz.pinned (.plain (OpenSpec.upto notifySenderSurvivesSpec)) notifySenderSurvivesUptoCard

/-- THE SECOND FORM's CARD OF 'antiquarylaw42.NotifyOnce'. -/
def notifyOnceUptoCard : Claim7 := { stood := { row := notifyOnceUptoRow, standIns := [], harness := (true, "65e0590ed2a906b8609e6cdee3c65417a7916681a556bece089b21dbfcf3b5e4"), looks := false }, kinds := [], alts := [], laidByText := true, laidKinds := [.data], laidTests := true, laidLooks := .later }
def NotifyOnceUptoCardSaid : Prop := Claim7.holds Tryz.pinned (.plain (OpenSpec.upto notifyOnceSpec)) notifyOnceUptoCard

/-- THE SECOND FORM's CARD OF 'antiquarylaw42.NotifyAll'. -/
def notifyAllUptoCard : Claim7 := { stood := { row := notifyAllUptoRow, standIns := [], harness := (true, "65e0590ed2a906b8609e6cdee3c65417a7916681a556bece089b21dbfcf3b5e4"), looks := false }, kinds := [], alts := [], laidByText := true, laidKinds := [.data], laidTests := true, laidLooks := .later }
def NotifyAllUptoCardSaid : Prop := Claim7.holds Tryz.pinned (.plain (OpenSpec.upto notifyAllSpec)) notifyAllUptoCard
end Rows
end Go.Proofs.YtmciloafahkolaaGreatDoor
