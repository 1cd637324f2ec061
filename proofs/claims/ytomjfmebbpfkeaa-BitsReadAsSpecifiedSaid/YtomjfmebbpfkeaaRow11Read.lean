/- Proved here: antiquarylaw11.BitsReadAsSpecified returns true for every input, and leaves its arguments as they were. No conditions. -/
import Derived.Test.YtomjfmebbpfkeaaLaw11F
import Derived.Test.YtomjfmebbpfkeaaRowB
namespace Go.Proofs.Ytomjfmebbpfkeaa
set_option linter.unusedSimpArgs false
set_option linter.unusedVariables false
set_option linter.unnecessarySimpa false
open Go.ChangeShapes Go.WideShapes Go.ChangeAt Go.RowKit

set_option maxRecDepth 100000 in
theorem bitsRead_holds_lifted (os : Os) (started : os.Started) (H : Type) (enc : TypeId × Value → H) :
    ReturnsInHanded {} Try.checked os 6 .any (Rows.bitsReadAsSpecifiedSpec.pre6 enc Try.prog Try.f6 Rows.bitsReadAsSpecifiedRow.domain false) (Rows.bitsReadAsSpecifiedSpec.post enc Try.prog Try.f6 false true false false) := by
  refine returnsInHanded_of_change_sized (C := Try.checked) own started (by kernel_rfl) Try.func6
    (ChangeSpec.witness6 (enc := enc) (C := Try.checked) false ⟨#[], #[.slice none 0 0, .slice none 0 0], []⟩ 8 (by kernel_rfl) (by kernel_rfl) (by kernel_rfl) (by kernel_rfl)) ?_
  intro W base args ds gs before hval0 hW _ hsz0 _
  have hsz : (DataW.weightsEach Try.prog (Try.f6.params.toList ++ Rows.bitsReadAsSpecifiedSpec.plain.varTypes Try.prog) (ds ++ gs)).all (· ≤ reachBytes) = true := hsz0
  have hval : ∀ (j : Nat) t v, Try.f6.params[j]? = some t → args[j]? = some v → Value.okWide Try.prog W .any base t v := hval0
  have hW' := hW
  obtain ⟨p, q, hA0, hV, rfl, _, _⟩ := hW
  have hA : DataW.TrodAll enc Try.prog W 0 (fun _ => true) true Try.f6.params.toList args.toList ds p := hA0
  rw [Try.params6] at hA hval hsz
  obtain ⟨v0, vs0, d0, ds0, p0, q0, hargs, rfl, rfl, h0, r0⟩ := trodAll_cons hA
  obtain ⟨v1, vs1, d1, ds1, p1, q1, rfl, rfl, rfl, h1, r1⟩ := trodAll_cons r0
  obtain ⟨rfl, rfl, rfl⟩ := trodAll_nil r1
  obtain rfl : args = #[v0, v1] := by cases args; simp_all
  obtain ⟨rfl, rfl⟩ := trodVars_none hV
  clear hA0 hval0 hsz0
  obtain ⟨z0, i0, f0, e0⟩ := open_Ints Try.underlying23 Try.underlying3 cellsInt (hval 0 _ v0 rfl rfl) h0
  have l0 := reach_Ints hsz 0 .i64 8 rfl rfl Try.underlying23 bytesInt e0
  obtain ⟨z1, i1, f1, e1⟩ := open_Bytes Try.underlying42 Try.underlying5 cellsByte (hval 1 _ v1 rfl rfl) h1
  have l1 := reach_Ints hsz 1 .u8 1 rfl rfl Try.underlying42 bytesByte e1
  refine (lawRead v0 v1 z0 z1 W i0 i1 f1 (by omega) (by omega)).mono fun e W' ⟨he, hb⟩ => ⟨_, he, ?_⟩
  exact post_law laidOut Try.underlying4 rfl rfl (by kernel_rfl) hW' rfl rfl rfl hb

theorem bitsRead_holds : Rows.BitsReadAsSpecifiedSaid :=
  OpenClaim.holds_of_wide 6 Try.f6 rfl rfl rfl rfl rfl rfl rfl ⟨rfl, rfl, rfl, rfl, rfl⟩ rfl rfl rfl rfl rfl (by kernel_rfl) Try.func6 (by kernel_rfl)
    (of_decide_eq_true (by kernel_rfl)) (by unfold Func.isWrapper; first | (rw [if_pos (by decide +kernel)]; kernel_rfl) | (rw [if_neg (by decide +kernel)]; exact ⟨rfl, rfl⟩))
    (fun os started H enc _ => bitsRead_holds_lifted os started H enc)

#print axioms bitsRead_holds
end Go.Proofs.Ytomjfmebbpfkeaa
