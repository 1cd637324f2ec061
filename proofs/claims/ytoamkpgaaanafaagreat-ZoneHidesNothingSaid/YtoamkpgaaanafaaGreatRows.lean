/-
  NARROWER THAN 'FOR EVERY INPUT', by the rows' own cells (each row's printed sentence says how): ZoneWeighsAsSpecified: loops · ZoneWithinLeads: loops · ZoneHidesNothing: loops.
  DERIVED. THE GIVEN ROWS OF THIS SEAT. 8 by the template 'for every input the law returns true; each argument reads behind the call as it read before'; 0 by the template 'total and deterministic' (their statements: YtoamkpgaaanafaaGreatTotals.lean).
  GIVEN WITH THE SEED: the statements are not yours to turn. If you find one false, say at which input.
  Laid BY PROGRAM, IN A SANDBOX (cutbox-rows.mjs): the forced cells as the released guide's own fill.sh prints them over the translation d651a1c8c3bc7a65… (all of the seat's roots in one cut). By AI agents, Wed Nov 11 2026. No macro, syntax, notation, axiom, sorry.
-/
import Derived.Test.YtoamkpgaaanafaaGreatChecked
import GoSem.Claim
import GoSem.ClaimJoined
import GoSem.ClaimMapViews
import Derived.JoinedTies
import Derived.KernelRfl
namespace Go.Proofs.YtoamkpgaaanafaaGreat
/- THE CELL 'sum', in the pinned program and in every row, IS THE sha256 OF THE DUMP (.gsa) THAT YtoamkpgaaanafaaGreatProg.lean LOADS. Nothing in Lean hashes anything: it is a label: what it is worth is what the hold of that sum in a sandbox is worth. -/
noncomputable def Tryz.pinned : Pinned := { name := "ytoamkpgaaanafaagreat", sum := "d651a1c8c3bc7a65607373ca65c9077258db1b9b4d8e2172248b913a55222f3f", checked := Tryz.checked }
namespace Rows
def none {H : Type} : Left H := { results := [], args := [] }

/-- 'antiquarylaw18.ZoneSumsAsSpecified': WHATEVER THE INPUT: true; the input reads as it did. -/
def zoneSumsAsSpecifiedSpec : ChangeSpec := { name := "zoneSumsAsSpecified", fn := fun _ => fun
  | [d1, d2, d3, d4, d5] => { results := [.lit (.bool true)], args := [d1, d2, d3, d4, d5] }
  | _ => none }
def zoneSumsAsSpecifiedRow : OpenClaim := { program := "ytoamkpgaaanafaagreat", sum := "d651a1c8c3bc7a65607373ca65c9077258db1b9b4d8e2172248b913a55222f3f", func := "antiquary/antiquarylaw18.ZoneSumsAsSpecified", spec := "zoneSumsAsSpecified", unfollowed := true, recurses := true, apart := false }
def ZoneSumsAsSpecifiedSaid : Prop := zoneSumsAsSpecifiedRow.holds Tryz.pinned (OpenSpec.ofChange zoneSumsAsSpecifiedSpec)

/-- ITS FALSE NEIGHBOUR: 'it returns false'. Refute it at one input. -/
def zoneSumsAsSpecifiedWrong : ChangeSpec := { name := "zoneSumsAsSpecified", fn := fun _ => fun
  | [d1, d2, d3, d4, d5] => { results := [.lit (.bool false)], args := [d1, d2, d3, d4, d5] }
  | _ => none }
def ZoneSumsAsSpecifiedWrongFalsely : Prop := zoneSumsAsSpecifiedRow.holds Tryz.pinned (OpenSpec.ofChange zoneSumsAsSpecifiedWrong)

/-- 'antiquarylaw18.ZoneWeighsAsSpecified': WHATEVER THE INPUT: true; the input reads as it did. -/
def zoneWeighsAsSpecifiedSpec : ChangeSpec := { name := "zoneWeighsAsSpecified", fn := fun _ => fun
  | [d1, d2, d3, d4, d5, d6] => { results := [.lit (.bool true)], args := [d1, d2, d3, d4, d5, d6] }
  | _ => none }
def zoneWeighsAsSpecifiedRow : OpenClaim := { program := "ytoamkpgaaanafaagreat", sum := "d651a1c8c3bc7a65607373ca65c9077258db1b9b4d8e2172248b913a55222f3f", func := "antiquary/antiquarylaw18.ZoneWeighsAsSpecified", spec := "zoneWeighsAsSpecified", unfollowed := true, recurses := true, loops := true, apart := false }
def ZoneWeighsAsSpecifiedSaid : Prop := zoneWeighsAsSpecifiedRow.holds Tryz.pinned (OpenSpec.ofChange zoneWeighsAsSpecifiedSpec)

/-- ITS FALSE NEIGHBOUR: 'it returns false'. Refute it at one input. -/
def zoneWeighsAsSpecifiedWrong : ChangeSpec := { name := "zoneWeighsAsSpecified", fn := fun _ => fun
  | [d1, d2, d3, d4, d5, d6] => { results := [.lit (.bool false)], args := [d1, d2, d3, d4, d5, d6] }
  | _ => none }
def ZoneWeighsAsSpecifiedWrongFalsely : Prop := zoneWeighsAsSpecifiedRow.holds Tryz.pinned (OpenSpec.ofChange zoneWeighsAsSpecifiedWrong)

/-- 'antiquarylaw18.ZoneObeysItsParts': WHATEVER THE INPUT: true; the input reads as it did. -/
def zoneObeysItsPartsSpec : ChangeSpec := { name := "zoneObeysItsParts", fn := fun _ => fun
  | [d1, d2, d3, d4] => { results := [.lit (.bool true)], args := [d1, d2, d3, d4] }
  | _ => none }
def zoneObeysItsPartsRow : OpenClaim := { program := "ytoamkpgaaanafaagreat", sum := "d651a1c8c3bc7a65607373ca65c9077258db1b9b4d8e2172248b913a55222f3f", func := "antiquary/antiquarylaw18.ZoneObeysItsParts", spec := "zoneObeysItsParts", unfollowed := true, recurses := true, apart := false }
def ZoneObeysItsPartsSaid : Prop := zoneObeysItsPartsRow.holds Tryz.pinned (OpenSpec.ofChange zoneObeysItsPartsSpec)

/-- ITS FALSE NEIGHBOUR: 'it returns false'. Refute it at one input. -/
def zoneObeysItsPartsWrong : ChangeSpec := { name := "zoneObeysItsParts", fn := fun _ => fun
  | [d1, d2, d3, d4] => { results := [.lit (.bool false)], args := [d1, d2, d3, d4] }
  | _ => none }
def ZoneObeysItsPartsWrongFalsely : Prop := zoneObeysItsPartsRow.holds Tryz.pinned (OpenSpec.ofChange zoneObeysItsPartsWrong)

/-- 'antiquarylaw18.ZoneWithinLeads': WHATEVER THE INPUT: true; the input reads as it did. -/
def zoneWithinLeadsSpec : ChangeSpec := { name := "zoneWithinLeads", fn := fun _ => fun
  | [d1, d2, d3, d4, d5, d6, d7, d8, d9] => { results := [.lit (.bool true)], args := [d1, d2, d3, d4, d5, d6, d7, d8, d9] }
  | _ => none }
def zoneWithinLeadsRow : OpenClaim := { program := "ytoamkpgaaanafaagreat", sum := "d651a1c8c3bc7a65607373ca65c9077258db1b9b4d8e2172248b913a55222f3f", func := "antiquary/antiquarylaw18.ZoneWithinLeads", spec := "zoneWithinLeads", unfollowed := true, recurses := true, loops := true, apart := false }
def ZoneWithinLeadsSaid : Prop := zoneWithinLeadsRow.holds Tryz.pinned (OpenSpec.ofChange zoneWithinLeadsSpec)

/-- ITS FALSE NEIGHBOUR: 'it returns false'. Refute it at one input. -/
def zoneWithinLeadsWrong : ChangeSpec := { name := "zoneWithinLeads", fn := fun _ => fun
  | [d1, d2, d3, d4, d5, d6, d7, d8, d9] => { results := [.lit (.bool false)], args := [d1, d2, d3, d4, d5, d6, d7, d8, d9] }
  | _ => none }
def ZoneWithinLeadsWrongFalsely : Prop := zoneWithinLeadsRow.holds Tryz.pinned (OpenSpec.ofChange zoneWithinLeadsWrong)

/-- 'antiquarylaw18.ZoneHidesNothing': WHATEVER THE INPUT: true; the input reads as it did. -/
def zoneHidesNothingSpec : ChangeSpec := { name := "zoneHidesNothing", fn := fun _ => fun
  | [d1, d2, d3, d4, d5, d6, d7] => { results := [.lit (.bool true)], args := [d1, d2, d3, d4, d5, d6, d7] }
  | _ => none }
def zoneHidesNothingRow : OpenClaim := { program := "ytoamkpgaaanafaagreat", sum := "d651a1c8c3bc7a65607373ca65c9077258db1b9b4d8e2172248b913a55222f3f", func := "antiquary/antiquarylaw18.ZoneHidesNothing", spec := "zoneHidesNothing", unfollowed := true, recurses := true, loops := true, apart := false }
def ZoneHidesNothingSaid : Prop := zoneHidesNothingRow.holds Tryz.pinned (OpenSpec.ofChange zoneHidesNothingSpec)

/-- ITS FALSE NEIGHBOUR: 'it returns false'. Refute it at one input. -/
def zoneHidesNothingWrong : ChangeSpec := { name := "zoneHidesNothing", fn := fun _ => fun
  | [d1, d2, d3, d4, d5, d6, d7] => { results := [.lit (.bool false)], args := [d1, d2, d3, d4, d5, d6, d7] }
  | _ => none }
def ZoneHidesNothingWrongFalsely : Prop := zoneHidesNothingRow.holds Tryz.pinned (OpenSpec.ofChange zoneHidesNothingWrong)

/-- 'antiquarylaw18.ZoneJoinsAsSpecified': WHATEVER THE INPUT: true; the input reads as it did. -/
def zoneJoinsAsSpecifiedSpec : ChangeSpec := { name := "zoneJoinsAsSpecified", fn := fun _ => fun
  | [d1, d2, d3] => { results := [.lit (.bool true)], args := [d1, d2, d3] }
  | _ => none }
def zoneJoinsAsSpecifiedRow : OpenClaim := { program := "ytoamkpgaaanafaagreat", sum := "d651a1c8c3bc7a65607373ca65c9077258db1b9b4d8e2172248b913a55222f3f", func := "antiquary/antiquarylaw18.ZoneJoinsAsSpecified", spec := "zoneJoinsAsSpecified", unfollowed := true, recurses := true, apart := false }
def ZoneJoinsAsSpecifiedSaid : Prop := zoneJoinsAsSpecifiedRow.holds Tryz.pinned (OpenSpec.ofChange zoneJoinsAsSpecifiedSpec)

/-- ITS FALSE NEIGHBOUR: 'it returns false'. Refute it at one input. -/
def zoneJoinsAsSpecifiedWrong : ChangeSpec := { name := "zoneJoinsAsSpecified", fn := fun _ => fun
  | [d1, d2, d3] => { results := [.lit (.bool false)], args := [d1, d2, d3] }
  | _ => none }
def ZoneJoinsAsSpecifiedWrongFalsely : Prop := zoneJoinsAsSpecifiedRow.holds Tryz.pinned (OpenSpec.ofChange zoneJoinsAsSpecifiedWrong)

/-- 'antiquarylaw18.ZoneJoinIsOfBoth': WHATEVER THE INPUT: true; the input reads as it did. -/
def zoneJoinIsOfBothSpec : ChangeSpec := { name := "zoneJoinIsOfBoth", fn := fun _ => fun
  | [d1, d2, d3, d4] => { results := [.lit (.bool true)], args := [d1, d2, d3, d4] }
  | _ => none }
def zoneJoinIsOfBothRow : OpenClaim := { program := "ytoamkpgaaanafaagreat", sum := "d651a1c8c3bc7a65607373ca65c9077258db1b9b4d8e2172248b913a55222f3f", func := "antiquary/antiquarylaw18.ZoneJoinIsOfBoth", spec := "zoneJoinIsOfBoth", unfollowed := true, recurses := true, apart := false }
def ZoneJoinIsOfBothSaid : Prop := zoneJoinIsOfBothRow.holds Tryz.pinned (OpenSpec.ofChange zoneJoinIsOfBothSpec)

/-- ITS FALSE NEIGHBOUR: 'it returns false'. Refute it at one input. -/
def zoneJoinIsOfBothWrong : ChangeSpec := { name := "zoneJoinIsOfBoth", fn := fun _ => fun
  | [d1, d2, d3, d4] => { results := [.lit (.bool false)], args := [d1, d2, d3, d4] }
  | _ => none }
def ZoneJoinIsOfBothWrongFalsely : Prop := zoneJoinIsOfBothRow.holds Tryz.pinned (OpenSpec.ofChange zoneJoinIsOfBothWrong)

/-- 'antiquarylaw18.ZoneCodes': WHATEVER THE INPUT: true; the input reads as it did. -/
def zoneCodesSpec : ChangeSpec := { name := "zoneCodes", fn := fun _ => fun
  | [d1, d2] => { results := [.lit (.bool true)], args := [d1, d2] }
  | _ => none }
def zoneCodesRow : OpenClaim := { program := "ytoamkpgaaanafaagreat", sum := "d651a1c8c3bc7a65607373ca65c9077258db1b9b4d8e2172248b913a55222f3f", func := "antiquary/antiquarylaw18.ZoneCodes", spec := "zoneCodes", unfollowed := true, recurses := true, apart := false }
def ZoneCodesSaid : Prop := zoneCodesRow.holds Tryz.pinned (OpenSpec.ofChange zoneCodesSpec)

/-- ITS FALSE NEIGHBOUR: 'it returns false'. Refute it at one input. -/
def zoneCodesWrong : ChangeSpec := { name := "zoneCodes", fn := fun _ => fun
  | [d1, d2] => { results := [.lit (.bool false)], args := [d1, d2] }
  | _ => none }
def ZoneCodesWrongFalsely : Prop := zoneCodesRow.holds Tryz.pinned (OpenSpec.ofChange zoneCodesWrong)

/- THE SECOND FORM. 'bulk': how many values and letters a reading holds, each counted each time it is reached (what is shared counts as often as it is met; a slice's spare places count too). A statement '..UptoSaid' is the law's where the arguments, and the package variables that the reading takes, are together of bulk at most 1048576: NARROWER than '..Said'. Prove '..Said' where nothing that the law and all that it calls make is longer than what came in: it says more and counts as full. Else prove '..UptoSaid'. A law counts once. -/
mutual
def uptoBulk {H : Type} : DataW H → Nat
  | .lit (.string bytes) => bytes.length + 1
  | .lit _ => 1
  | .nil => 1
  | .ptr d => uptoBulk d + 1
  | .slice elems spare => uptoBulkAll elems + uptoBulkAll spare + 1
  | .agg parts => uptoBulkAll parts + 1
  | .iface _ d => uptoBulk d + 1
  | .map entries => uptoBulkEntries entries + 1
  | .held _ => 1
def uptoBulkAll {H : Type} : List (DataW H) → Nat
  | [] => 0
  | d :: r => uptoBulk d + uptoBulkAll r
def uptoBulkEntries {H : Type} : List (Lit × DataW H) → Nat
  | [] => 0
  | x :: r => uptoBulkEntry x + uptoBulkEntries r
def uptoBulkEntry {H : Type} : Lit × DataW H → Nat
  | (.string bytes, d) => bytes.length + uptoBulk d + 1
  | (_, d) => uptoBulk d + 1
 end
def uptoSmall : (H : Type) → List (DataW H) → Bool := fun _ ds => decide (uptoBulkAll ds ≤ 1048576)
def OpenSpec.upto (s : _root_.Go.ChangeSpec) : _root_.Go.OpenSpec := { _root_.Go.OpenSpec.ofChange s with cond := some uptoSmall }

/-- 'antiquarylaw18.ZoneSumsAsSpecified', WHERE WHAT IT READS IS OF BULK AT MOST 1048576: true; the input reads as it did. -/
def zoneSumsAsSpecifiedUptoRow : OpenClaim := { program := "ytoamkpgaaanafaagreat", sum := "d651a1c8c3bc7a65607373ca65c9077258db1b9b4d8e2172248b913a55222f3f", func := "antiquary/antiquarylaw18.ZoneSumsAsSpecified", spec := "zoneSumsAsSpecified", unfollowed := true, recurses := true, apart := false, narrowed := true }
def ZoneSumsAsSpecifiedUptoSaid : Prop := zoneSumsAsSpecifiedUptoRow.holds Tryz.pinned (OpenSpec.upto zoneSumsAsSpecifiedSpec)

/-- 'antiquarylaw18.ZoneWeighsAsSpecified', WHERE WHAT IT READS IS OF BULK AT MOST 1048576: true; the input reads as it did. -/
def zoneWeighsAsSpecifiedUptoRow : OpenClaim := { program := "ytoamkpgaaanafaagreat", sum := "d651a1c8c3bc7a65607373ca65c9077258db1b9b4d8e2172248b913a55222f3f", func := "antiquary/antiquarylaw18.ZoneWeighsAsSpecified", spec := "zoneWeighsAsSpecified", unfollowed := true, recurses := true, loops := true, apart := false, narrowed := true }
def ZoneWeighsAsSpecifiedUptoSaid : Prop := zoneWeighsAsSpecifiedUptoRow.holds Tryz.pinned (OpenSpec.upto zoneWeighsAsSpecifiedSpec)

/-- 'antiquarylaw18.ZoneObeysItsParts', WHERE WHAT IT READS IS OF BULK AT MOST 1048576: true; the input reads as it did. -/
def zoneObeysItsPartsUptoRow : OpenClaim := { program := "ytoamkpgaaanafaagreat", sum := "d651a1c8c3bc7a65607373ca65c9077258db1b9b4d8e2172248b913a55222f3f", func := "antiquary/antiquarylaw18.ZoneObeysItsParts", spec := "zoneObeysItsParts", unfollowed := true, recurses := true, apart := false, narrowed := true }
def ZoneObeysItsPartsUptoSaid : Prop := zoneObeysItsPartsUptoRow.holds Tryz.pinned (OpenSpec.upto zoneObeysItsPartsSpec)

/-- 'antiquarylaw18.ZoneWithinLeads', WHERE WHAT IT READS IS OF BULK AT MOST 1048576: true; the input reads as it did. -/
def zoneWithinLeadsUptoRow : OpenClaim := { program := "ytoamkpgaaanafaagreat", sum := "d651a1c8c3bc7a65607373ca65c9077258db1b9b4d8e2172248b913a55222f3f", func := "antiquary/antiquarylaw18.ZoneWithinLeads", spec := "zoneWithinLeads", unfollowed := true, recurses := true, loops := true, apart := false, narrowed := true }
def ZoneWithinLeadsUptoSaid : Prop := zoneWithinLeadsUptoRow.holds Tryz.pinned (OpenSpec.upto zoneWithinLeadsSpec)

/-- 'antiquarylaw18.ZoneHidesNothing', WHERE WHAT IT READS IS OF BULK AT MOST 1048576: true; the input reads as it did. -/
def zoneHidesNothingUptoRow : OpenClaim := { program := "ytoamkpgaaanafaagreat", sum := "d651a1c8c3bc7a65607373ca65c9077258db1b9b4d8e2172248b913a55222f3f", func := "antiquary/antiquarylaw18.ZoneHidesNothing", spec := "zoneHidesNothing", unfollowed := true, recurses := true, loops := true, apart := false, narrowed := true }
def ZoneHidesNothingUptoSaid : Prop := zoneHidesNothingUptoRow.holds Tryz.pinned (OpenSpec.upto zoneHidesNothingSpec)

/-- 'antiquarylaw18.ZoneJoinsAsSpecified', WHERE WHAT IT READS IS OF BULK AT MOST 1048576: true; the input reads as it did. -/
def zoneJoinsAsSpecifiedUptoRow : OpenClaim := { program := "ytoamkpgaaanafaagreat", sum := "d651a1c8c3bc7a65607373ca65c9077258db1b9b4d8e2172248b913a55222f3f", func := "antiquary/antiquarylaw18.ZoneJoinsAsSpecified", spec := "zoneJoinsAsSpecified", unfollowed := true, recurses := true, apart := false, narrowed := true }
def ZoneJoinsAsSpecifiedUptoSaid : Prop := zoneJoinsAsSpecifiedUptoRow.holds Tryz.pinned (OpenSpec.upto zoneJoinsAsSpecifiedSpec)

/-- 'antiquarylaw18.ZoneJoinIsOfBoth', WHERE WHAT IT READS IS OF BULK AT MOST 1048576: true; the input reads as it did. -/
def zoneJoinIsOfBothUptoRow : OpenClaim := { program := "ytoamkpgaaanafaagreat", sum := "d651a1c8c3bc7a65607373ca65c9077258db1b9b4d8e2172248b913a55222f3f", func := "antiquary/antiquarylaw18.ZoneJoinIsOfBoth", spec := "zoneJoinIsOfBoth", unfollowed := true, recurses := true, apart := false, narrowed := true }
def ZoneJoinIsOfBothUptoSaid : Prop := zoneJoinIsOfBothUptoRow.holds Tryz.pinned (OpenSpec.upto zoneJoinIsOfBothSpec)

/-- 'antiquarylaw18.ZoneCodes', WHERE WHAT IT READS IS OF BULK AT MOST 1048576: true; the input reads as it did. -/
def zoneCodesUptoRow : OpenClaim := { program := "ytoamkpgaaanafaagreat", sum := "d651a1c8c3bc7a65607373ca65c9077258db1b9b4d8e2172248b913a55222f3f", func := "antiquary/antiquarylaw18.ZoneCodes", spec := "zoneCodes", unfollowed := true, recurses := true, apart := false, narrowed := true }
def ZoneCodesUptoSaid : Prop := zoneCodesUptoRow.holds Tryz.pinned (OpenSpec.upto zoneCodesSpec)

end Rows
end Go.Proofs.YtoamkpgaaanafaaGreat
