/- Proved here: the tied card of antiquarylaw13.AttrCodesAsSpecified: it returns true for every input, and leaves its arguments as they were; the tables of hash.constants and antiquaryref02.constants are as the program's text lays them (tied). No conditions beyond. -/
import Derived.Test.YtnjopfjmepbpoaaDoorTie
import Derived.Test.YtnjopfjmepbpoaaDoorCards
import Derived.SevenTiedAt
import Derived.Test.YtnjopfjmepbpoaaDoorC6
/- Proved here: the tied card of antiquarylaw13.AttrCodesAsSpecified: it returns true for every input, and leaves its arguments as they were; the tables of hash.constants and antiquaryref02.constants are as the program's text lays them (tied). No conditions beyond. -/
namespace Go.Proofs.YtnjopfjmepbpoaaDoor
set_option linter.unusedSimpArgs false
set_option linter.unusedVariables false
set_option linter.unnecessarySimpa false
open Go.ChangeShapes Go.WideShapes Go.ChangeAt Go.RowKit

set_option maxRecDepth 100000 in
theorem codes_lifted (os : Os) (started : os.Started) (H : Type) (enc : TypeId × Value → H) :
    ReturnsInHanded {} Tryd.checked os 3 .any (fun w args => (Rows.attrCodesAsSpecifiedSpec.pre enc Tryd.prog Tryd.f3 Rows.attrCodesAsSpecifiedRow.domain false w args ∧ laidMetH Tryd.prog laidL w) ∧ sizedMet enc Tryd.prog Tryd.f3 (OpenSpec.ofChange Rows.attrCodesAsSpecifiedSpec) false w args)
      (Rows.attrCodesAsSpecifiedSpec.post enc Tryd.prog Tryd.f3 false true false false) := by
  refine law_liftedL os started H enc Tryd.func3 (by kernel_rfl)
    (ChangeSpec.witness_shaped (enc := enc) (C := Tryd.checked) (os := os) (X := fun w _ => laidMetH Tryd.prog laidL w) false (World.doorLaid Tryd.prog 2000 os) #[.agg #[.int .i64 0, .int .i64 0, .int .i64 0, .int .i64 0, .int .i64 0, .int .i64 0, .int .i64 0, .slice none 0 0, .slice none 0 0], .agg #[.int .i64 0, .int .i64 0, .int .i64 0, .int .i64 0, .int .i64 0, .int .i64 0, .int .i64 0, .slice none 0 0, .slice none 0 0], .slice none 0 0] 8 rfl (World.shaped_of_RefB (by kernel_rfl) (by kernel_rfl)) (by kernel_rfl) (by kernel_rfl) (by kernel_rfl) (door_met os _))
    Tryd.underlying4 rfl rfl (by kernel_rfl) (fun ds hd => ?_)
    (argsOpen_cons argEntry (argsOpen_cons argEntry (argsOpen_cons argBytes argsOpen_nil))) (fun y hy => ?_) laid_glob
  · match ds, hd with
    | [d1, d2, d3], _ => exact ⟨rfl, rfl, rfl⟩
  · obtain ⟨x, y, bs, u⟩ := y
    obtain ⟨hx, hy, hb, -⟩ := hy
    have e := reach_eq
    simp only at hx hy hb
    have x1 := hx.vec
    have x2 := hx.attrs
    have y1 := hy.vec
    have y2 := hy.attrs
    exact pw_codes x y bs hx.fit hy.fit (Byte.of hb.1) (by omega) (by omega) (by omega) (by omega)

theorem codes_row : Rows.AttrCodesAsSpecifiedSaid :=
  OpenClaim.holds_of_wide 3 Tryd.f3 rfl rfl rfl rfl rfl rfl rfl ⟨rfl, rfl, rfl, rfl, rfl⟩ rfl rfl rfl rfl rfl (by kernel_rfl) Tryd.func3 (by kernel_rfl)
    (of_decide_eq_true (by kernel_rfl)) (by unfold Func.isWrapper; first | (rw [if_pos (by decide +kernel)]; kernel_rfl) | (rw [if_neg (by decide +kernel)]; exact ⟨rfl, rfl⟩))
    (fun os started H enc _ => codes_lifted os started H enc)

theorem codes_holds : Rows.AttrCodesAsSpecifiedCardSaid :=
  Claim7.holds_tied_plain_at .later [] [.data, .data] true Rows.attrCodesAsSpecifiedCard.stood.harness false
    codes_row (fun _ h => by cases h) (by kernel_rfl) (fun _ h => by cases h) attrCodesAsSpecified_row_tie rfl ⟨rfl, rfl⟩ (by kernel_rfl) rfl
    (fun f fn hf hfn => by
      obtain rfl : f = 3 := Option.some.inj ((show Tryd.prog.funcNamed "antiquary/antiquarylaw13.AttrCodesAsSpecified" = some 3 by kernel_rfl).symm.trans hf) |>.symm
      obtain rfl : fn = Tryd.f3 := (Option.some.inj (Tryd.func3.symm.trans hfn)).symm
      exact ⟨by kernel_rfl, fun j t ht => by
        rw [Tryd.params3] at ht
        have hm : t ∈ [25, 26] := by simpa using Array.mem_of_getElem? ht
        have hall : ([25, 26].all fun u => !Tryd.prog.wantsStandIn u) = true := by kernel_rfl
        exact (show Tryd.prog.wantsStandIn t = false by simpa using List.all_eq_true.1 hall t hm)⟩)
    (by kernel_rfl)

#print axioms codes_holds
end Go.Proofs.YtnjopfjmepbpoaaDoor
