/- Proved here: antiquarylaw11.BitsMeetAsSpecified returns true for every input, and leaves its arguments as they were. No conditions. -/
import Derived.Test.YtomjfmebbpfkeaaLaw11A
import Derived.Test.YtomjfmebbpfkeaaRow
namespace Go.Proofs.Ytomjfmebbpfkeaa
set_option linter.unusedSimpArgs false
set_option linter.unusedVariables false
set_option linter.unnecessarySimpa false
open Go.ChangeShapes Go.WideShapes Go.ChangeAt Go.RowKit

set_option maxRecDepth 100000 in
theorem meet_lifted (os : Os) (started : os.Started) (H : Type) (enc : TypeId × Value → H) :
    ReturnsInHanded {} Try.checked os 5 .any (Rows.bitsMeetAsSpecifiedSpec.pre6 enc Try.prog Try.f5 Rows.bitsMeetAsSpecifiedRow.domain false) (Rows.bitsMeetAsSpecifiedSpec.post enc Try.prog Try.f5 false true false false) := by
  refine returnsInHanded_of_change_sized (C := Try.checked) own started (by kernel_rfl) Try.func5
    (ChangeSpec.witness6 (enc := enc) (C := Try.checked) false ⟨#[], #[.slice none 0 0, .slice none 0 0], []⟩ 8 (by kernel_rfl) (by kernel_rfl) (by kernel_rfl) (by kernel_rfl)) ?_
  intro W base args ds gs before hval0 hW _ hsz0 _
  have hsz : (DataW.weightsEach Try.prog (Try.f5.params.toList ++ Rows.bitsMeetAsSpecifiedSpec.plain.varTypes Try.prog) (ds ++ gs)).all (· ≤ reachBytes) = true := hsz0
  have hval : ∀ (j : Nat) t v, Try.f5.params[j]? = some t → args[j]? = some v → Value.okWide Try.prog W .any base t v := hval0
  have hW' := hW
  obtain ⟨p, q, hA0, hV, rfl, _, _⟩ := hW
  have hA : DataW.TrodAll enc Try.prog W 0 (fun _ => true) true Try.f5.params.toList args.toList ds p := hA0
  rw [Try.params5] at hA hval hsz
  obtain ⟨v0, v1, d0, d1, p0, p1, rfl, rfl, rfl, h0, h1⟩ := trodAll_two hA
  obtain ⟨rfl, rfl⟩ := trodVars_none hV
  clear hA0 hval0 hsz0
  obtain ⟨xs, i0, f0, e0⟩ := open_Ints Try.underlying23 Try.underlying3 cellsInt (hval 0 _ v0 rfl rfl) h0
  obtain ⟨ys, i1, f1, e1⟩ := open_Ints Try.underlying23 Try.underlying3 cellsInt (hval 1 _ v1 rfl rfl) h1
  have l0 := reach_Ints hsz 0 .i64 8 rfl rfl Try.underlying23 bytesInt e0
  have l1 := reach_Ints hsz 1 .i64 8 rfl rfl Try.underlying23 bytesInt e1
  refine (lawMeet v0 v1 xs ys W i0 i1 (by omega) (by omega)).mono fun e W' ⟨he, hb⟩ => ⟨_, he, ?_⟩
  exact post_law laidOut Try.underlying4 rfl rfl (by kernel_rfl) hW' rfl rfl rfl hb

theorem bitsMeet_holds : Rows.BitsMeetAsSpecifiedSaid :=
  OpenClaim.holds_of_wide 5 Try.f5 rfl rfl rfl rfl rfl rfl rfl ⟨rfl, rfl, rfl, rfl, rfl⟩ rfl rfl rfl rfl rfl (by kernel_rfl) Try.func5 (by kernel_rfl)
    (of_decide_eq_true (by kernel_rfl)) (by unfold Func.isWrapper; first | (rw [if_pos (by decide +kernel)]; kernel_rfl) | (rw [if_neg (by decide +kernel)]; exact ⟨rfl, rfl⟩))
    (fun os started H enc _ => meet_lifted os started H enc)

#print axioms bitsMeet_holds
end Go.Proofs.Ytomjfmebbpfkeaa
