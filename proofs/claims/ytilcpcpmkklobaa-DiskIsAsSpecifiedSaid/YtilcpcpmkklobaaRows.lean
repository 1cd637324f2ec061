/-
  No cell of these rows narrows 'for every input' (looked for: loops, veiled, ifaces, maps, wideKeys, modest, calm, conditions, laid).
  DERIVED. THE GIVEN ROWS OF THIS SEAT. 4 by the template 'for every input the law returns true; each argument reads behind the call as it read before'; 0 by the template 'total and deterministic' (their statements: YtilcpcpmkklobaaTotals.lean).
  GIVEN WITH THE SEED: the statements are not yours to turn. If you find one false, say at which input.
  Laid BY PROGRAM, IN A SANDBOX (cutbox-rows.mjs): the forced cells as the released guide's own fill.sh prints them over the translation bf5c590eeab4a6a6… (all of the seat's roots in one cut). By AI agents, Wed Nov 11 2026. No macro, syntax, notation, axiom, sorry.
-/
import Derived.Test.YtilcpcpmkklobaaChecked
import GoSem.Claim
import GoSem.ClaimJoined
import GoSem.ClaimMapViews
import Derived.JoinedTies
import Derived.KernelRfl
namespace Go.Proofs.Ytilcpcpmkklobaa
/- THE CELL 'sum', in the pinned program and in every row, IS THE sha256 OF THE DUMP (.gsa) THAT YtilcpcpmkklobaaProg.lean LOADS. Nothing in Lean hashes anything: it is a label: what it is worth is what the hold of that sum in a sandbox is worth. -/
noncomputable def Try.pinned : Pinned := { name := "ytilcpcpmkklobaa", sum := "bf5c590eeab4a6a6688c82c4d78a62da76e4b34adfbe23c9d735763ff086ee76", checked := Try.checked }
namespace Rows
def none {H : Type} : Left H := { results := [], args := [] }

/-- 'antiquarylaw22.DiskIsAsSpecified': WHATEVER THE INPUT: true; the input reads as it did. -/
def diskIsAsSpecifiedSpec : ChangeSpec := { name := "diskIsAsSpecified", fn := fun _ => fun
  | [d1, d2] => { results := [.lit (.bool true)], args := [d1, d2] }
  | _ => none }
def diskIsAsSpecifiedRow : OpenClaim := { program := "ytilcpcpmkklobaa", sum := "bf5c590eeab4a6a6688c82c4d78a62da76e4b34adfbe23c9d735763ff086ee76", func := "antiquary/antiquarylaw22.DiskIsAsSpecified", spec := "diskIsAsSpecified", recurses := true, apart := false }
def DiskIsAsSpecifiedSaid : Prop := diskIsAsSpecifiedRow.holds Try.pinned (OpenSpec.ofChange diskIsAsSpecifiedSpec)

/-- ITS FALSE NEIGHBOUR: 'it returns false'. Refute it at one input. -/
def diskIsAsSpecifiedWrong : ChangeSpec := { name := "diskIsAsSpecified", fn := fun _ => fun
  | [d1, d2] => { results := [.lit (.bool false)], args := [d1, d2] }
  | _ => none }
def DiskIsAsSpecifiedWrongFalsely : Prop := diskIsAsSpecifiedRow.holds Try.pinned (OpenSpec.ofChange diskIsAsSpecifiedWrong)

/-- 'antiquarylaw22.DiskKeepsWhatIsSure': WHATEVER THE INPUT: true; the input reads as it did. -/
def diskKeepsWhatIsSureSpec : ChangeSpec := { name := "diskKeepsWhatIsSure", fn := fun _ => fun
  | [d1, d2, d3] => { results := [.lit (.bool true)], args := [d1, d2, d3] }
  | _ => none }
def diskKeepsWhatIsSureRow : OpenClaim := { program := "ytilcpcpmkklobaa", sum := "bf5c590eeab4a6a6688c82c4d78a62da76e4b34adfbe23c9d735763ff086ee76", func := "antiquary/antiquarylaw22.DiskKeepsWhatIsSure", spec := "diskKeepsWhatIsSure", recurses := true, apart := false }
def DiskKeepsWhatIsSureSaid : Prop := diskKeepsWhatIsSureRow.holds Try.pinned (OpenSpec.ofChange diskKeepsWhatIsSureSpec)

/-- ITS FALSE NEIGHBOUR: 'it returns false'. Refute it at one input. -/
def diskKeepsWhatIsSureWrong : ChangeSpec := { name := "diskKeepsWhatIsSure", fn := fun _ => fun
  | [d1, d2, d3] => { results := [.lit (.bool false)], args := [d1, d2, d3] }
  | _ => none }
def DiskKeepsWhatIsSureWrongFalsely : Prop := diskKeepsWhatIsSureRow.holds Try.pinned (OpenSpec.ofChange diskKeepsWhatIsSureWrong)

/-- 'antiquarylaw22.DiskStops': WHATEVER THE INPUT: true; the input reads as it did. -/
def diskStopsSpec : ChangeSpec := { name := "diskStops", fn := fun _ => fun
  | [d1, d2, d3] => { results := [.lit (.bool true)], args := [d1, d2, d3] }
  | _ => none }
def diskStopsRow : OpenClaim := { program := "ytilcpcpmkklobaa", sum := "bf5c590eeab4a6a6688c82c4d78a62da76e4b34adfbe23c9d735763ff086ee76", func := "antiquary/antiquarylaw22.DiskStops", spec := "diskStops", recurses := true, apart := false }
def DiskStopsSaid : Prop := diskStopsRow.holds Try.pinned (OpenSpec.ofChange diskStopsSpec)

/-- ITS FALSE NEIGHBOUR: 'it returns false'. Refute it at one input. -/
def diskStopsWrong : ChangeSpec := { name := "diskStops", fn := fun _ => fun
  | [d1, d2, d3] => { results := [.lit (.bool false)], args := [d1, d2, d3] }
  | _ => none }
def DiskStopsWrongFalsely : Prop := diskStopsRow.holds Try.pinned (OpenSpec.ofChange diskStopsWrong)

/-- 'antiquarylaw22.DiskSpoils': WHATEVER THE INPUT: true; the input reads as it did. -/
def diskSpoilsSpec : ChangeSpec := { name := "diskSpoils", fn := fun _ => fun
  | [d1, d2, d3, d4] => { results := [.lit (.bool true)], args := [d1, d2, d3, d4] }
  | _ => none }
def diskSpoilsRow : OpenClaim := { program := "ytilcpcpmkklobaa", sum := "bf5c590eeab4a6a6688c82c4d78a62da76e4b34adfbe23c9d735763ff086ee76", func := "antiquary/antiquarylaw22.DiskSpoils", spec := "diskSpoils", recurses := true, apart := false }
def DiskSpoilsSaid : Prop := diskSpoilsRow.holds Try.pinned (OpenSpec.ofChange diskSpoilsSpec)

/-- ITS FALSE NEIGHBOUR: 'it returns false'. Refute it at one input. -/
def diskSpoilsWrong : ChangeSpec := { name := "diskSpoils", fn := fun _ => fun
  | [d1, d2, d3, d4] => { results := [.lit (.bool false)], args := [d1, d2, d3, d4] }
  | _ => none }
def DiskSpoilsWrongFalsely : Prop := diskSpoilsRow.holds Try.pinned (OpenSpec.ofChange diskSpoilsWrong)

/- THE SECOND FORM. 'bulk': how many values and letters a reading holds, each counted each time it is reached (what is shared counts as often as it is met; a slice's spare places count too). A statement '..UptoSaid' is the law's where the arguments, and the package variables that the reading takes, are together of bulk at most 1048576: NARROWER than '..Said'. Prove '..Said' where nothing that the law and all that it calls make is longer than what came in: it says more and counts as full. Else prove '..UptoSaid'. A law counts once. -/
mutual
def uptoBulk {H : Type} : DataW H → Nat
  | .lit (.string bytes) => bytes.length + 1
  | .lit _ => 1
  | .nil => 1
  | .ptr d => uptoBulk d + 1
  | .slice elems spare => uptoBulkAll elems + uptoBulkAll spare + 1
  | .agg parts => uptoBulkAll parts + 1
  | .iface _ d => uptoBulk d + 1
  | .map entries => uptoBulkEntries entries + 1
  | .held _ => 1
def uptoBulkAll {H : Type} : List (DataW H) → Nat
  | [] => 0
  | d :: r => uptoBulk d + uptoBulkAll r
def uptoBulkEntries {H : Type} : List (Lit × DataW H) → Nat
  | [] => 0
  | x :: r => uptoBulkEntry x + uptoBulkEntries r
def uptoBulkEntry {H : Type} : Lit × DataW H → Nat
  | (.string bytes, d) => bytes.length + uptoBulk d + 1
  | (_, d) => uptoBulk d + 1
 end
def uptoSmall : (H : Type) → List (DataW H) → Bool := fun _ ds => decide (uptoBulkAll ds ≤ 1048576)
def OpenSpec.upto (s : _root_.Go.ChangeSpec) : _root_.Go.OpenSpec := { _root_.Go.OpenSpec.ofChange s with cond := some uptoSmall }

/-- 'antiquarylaw22.DiskIsAsSpecified', WHERE WHAT IT READS IS OF BULK AT MOST 1048576: true; the input reads as it did. -/
def diskIsAsSpecifiedUptoRow : OpenClaim := { program := "ytilcpcpmkklobaa", sum := "bf5c590eeab4a6a6688c82c4d78a62da76e4b34adfbe23c9d735763ff086ee76", func := "antiquary/antiquarylaw22.DiskIsAsSpecified", spec := "diskIsAsSpecified", recurses := true, apart := false, narrowed := true }
def DiskIsAsSpecifiedUptoSaid : Prop := diskIsAsSpecifiedUptoRow.holds Try.pinned (OpenSpec.upto diskIsAsSpecifiedSpec)

/-- 'antiquarylaw22.DiskKeepsWhatIsSure', WHERE WHAT IT READS IS OF BULK AT MOST 1048576: true; the input reads as it did. -/
def diskKeepsWhatIsSureUptoRow : OpenClaim := { program := "ytilcpcpmkklobaa", sum := "bf5c590eeab4a6a6688c82c4d78a62da76e4b34adfbe23c9d735763ff086ee76", func := "antiquary/antiquarylaw22.DiskKeepsWhatIsSure", spec := "diskKeepsWhatIsSure", recurses := true, apart := false, narrowed := true }
def DiskKeepsWhatIsSureUptoSaid : Prop := diskKeepsWhatIsSureUptoRow.holds Try.pinned (OpenSpec.upto diskKeepsWhatIsSureSpec)

/-- 'antiquarylaw22.DiskStops', WHERE WHAT IT READS IS OF BULK AT MOST 1048576: true; the input reads as it did. -/
def diskStopsUptoRow : OpenClaim := { program := "ytilcpcpmkklobaa", sum := "bf5c590eeab4a6a6688c82c4d78a62da76e4b34adfbe23c9d735763ff086ee76", func := "antiquary/antiquarylaw22.DiskStops", spec := "diskStops", recurses := true, apart := false, narrowed := true }
def DiskStopsUptoSaid : Prop := diskStopsUptoRow.holds Try.pinned (OpenSpec.upto diskStopsSpec)

/-- 'antiquarylaw22.DiskSpoils', WHERE WHAT IT READS IS OF BULK AT MOST 1048576: true; the input reads as it did. -/
def diskSpoilsUptoRow : OpenClaim := { program := "ytilcpcpmkklobaa", sum := "bf5c590eeab4a6a6688c82c4d78a62da76e4b34adfbe23c9d735763ff086ee76", func := "antiquary/antiquarylaw22.DiskSpoils", spec := "diskSpoils", recurses := true, apart := false, narrowed := true }
def DiskSpoilsUptoSaid : Prop := diskSpoilsUptoRow.holds Try.pinned (OpenSpec.upto diskSpoilsSpec)

end Rows
end Go.Proofs.Ytilcpcpmkklobaa
