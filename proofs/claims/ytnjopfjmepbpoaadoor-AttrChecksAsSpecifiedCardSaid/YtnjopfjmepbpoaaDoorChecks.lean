/- Proved here: the tied card of antiquarylaw13.AttrChecksAsSpecified: it returns true for every input, and leaves its arguments as they were; the tables of hash.constants and antiquaryref02.constants are as the program's text lays them (tied). No conditions beyond. -/
import Derived.Test.YtnjopfjmepbpoaaDoorTie
import Derived.Test.YtnjopfjmepbpoaaDoorCards
import Derived.SevenTiedAt
import Derived.Test.YtnjopfjmepbpoaaDoorC6
/- Proved here: the tied card of antiquarylaw13.AttrChecksAsSpecified: it returns true for every input, and leaves its arguments as they were; the tables of hash.constants and antiquaryref02.constants are as the program's text lays them (tied). No conditions beyond. -/
namespace Go.Proofs.YtnjopfjmepbpoaaDoor
set_option linter.unusedSimpArgs false
set_option linter.unusedVariables false
set_option linter.unnecessarySimpa false
open Go.ChangeShapes Go.WideShapes Go.ChangeAt Go.RowKit

set_option maxRecDepth 100000 in
theorem checks_lifted (os : Os) (started : os.Started) (H : Type) (enc : TypeId × Value → H) :
    ReturnsInHanded {} Tryd.checked os 4 .any (fun w args => (Rows.attrChecksAsSpecifiedSpec.pre enc Tryd.prog Tryd.f4 Rows.attrChecksAsSpecifiedRow.domain false w args ∧ laidMetH Tryd.prog laidL w) ∧ sizedMet enc Tryd.prog Tryd.f4 (OpenSpec.ofChange Rows.attrChecksAsSpecifiedSpec) false w args)
      (Rows.attrChecksAsSpecifiedSpec.post enc Tryd.prog Tryd.f4 false true false false) := by
  refine law_liftedL os started H enc Tryd.func4 (by kernel_rfl)
    (ChangeSpec.witness_shaped (enc := enc) (C := Tryd.checked) (os := os) (X := fun w _ => laidMetH Tryd.prog laidL w) false (World.doorLaid Tryd.prog 2000 os) #[.agg #[.int .i64 0, .int .i64 0, .slice none 0 0], .string ByteArray.empty] 8 rfl (World.shaped_of_RefB (by kernel_rfl) (by kernel_rfl)) (by kernel_rfl) (by kernel_rfl) (by kernel_rfl) (door_met os _))
    Tryd.underlying4 rfl rfl (by kernel_rfl) (fun ds hd => ?_)
    (argsOpen_cons argSchema (argsOpen_cons argStr argsOpen_nil)) (fun y hy => ?_) laid_glob
  · match ds, hd with
    | [d1, d2], _ => exact ⟨rfl, rfl, rfl⟩
  · obtain ⟨s, nm, u⟩ := y
    obtain ⟨hs, hn, -⟩ := hy
    have e := reach_eq
    simp only at hs hn
    have s1 := hs.len
    exact pw_checks s nm (by omega) (fun d hd => by have := (hs.defs d hd).2.2.2; omega) hs.dims hs.metric (fun d hd => ⟨(hs.defs d hd).1, (hs.defs d hd).2.1, (hs.defs d hd).2.2.1⟩)

theorem checks_row : Rows.AttrChecksAsSpecifiedSaid :=
  OpenClaim.holds_of_wide 4 Tryd.f4 rfl rfl rfl rfl rfl rfl rfl ⟨rfl, rfl, rfl, rfl, rfl⟩ rfl rfl rfl rfl rfl (by kernel_rfl) Tryd.func4 (by kernel_rfl)
    (of_decide_eq_true (by kernel_rfl)) (by unfold Func.isWrapper; first | (rw [if_pos (by decide +kernel)]; kernel_rfl) | (rw [if_neg (by decide +kernel)]; exact ⟨rfl, rfl⟩))
    (fun os started H enc _ => checks_lifted os started H enc)

theorem checks_holds : Rows.AttrChecksAsSpecifiedCardSaid :=
  Claim7.holds_tied_plain_at .later [] [.data, .data] true Rows.attrChecksAsSpecifiedCard.stood.harness false
    checks_row (fun _ h => by cases h) (by kernel_rfl) (fun _ h => by cases h) attrChecksAsSpecified_row_tie rfl ⟨rfl, rfl⟩ (by kernel_rfl) rfl
    (fun f fn hf hfn => by
      obtain rfl : f = 4 := Option.some.inj ((show Tryd.prog.funcNamed "antiquary/antiquarylaw13.AttrChecksAsSpecified" = some 4 by kernel_rfl).symm.trans hf) |>.symm
      obtain rfl : fn = Tryd.f4 := (Option.some.inj (Tryd.func4.symm.trans hfn)).symm
      exact ⟨by kernel_rfl, fun j t ht => by
        rw [Tryd.params4] at ht
        have hm : t ∈ [43, 9] := by simpa using Array.mem_of_getElem? ht
        have hall : ([43, 9].all fun u => !Tryd.prog.wantsStandIn u) = true := by kernel_rfl
        exact (show Tryd.prog.wantsStandIn t = false by simpa using List.all_eq_true.1 hall t hm)⟩)
    (by kernel_rfl)

#print axioms checks_holds
end Go.Proofs.YtnjopfjmepbpoaaDoor
