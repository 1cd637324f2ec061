/- Proved here: antiquarylaw18.ZoneJoinsAsSpecified returns true for every input, and leaves its arguments as they were. No conditions. -/
import Derived.Test.YtoamkpgaaanafaaGreatC6
/- Proved here: antiquarylaw18.ZoneJoinsAsSpecified returns true for every input, and leaves its arguments as they were. No conditions. -/
namespace Go.Proofs.YtoamkpgaaanafaaGreat
set_option linter.unusedSimpArgs false
set_option linter.unusedVariables false
set_option linter.unnecessarySimpa false
open Go.ChangeShapes Go.WideShapes Go.ChangeAt Go.RowKit
set_option maxRecDepth 100000 in
theorem joins_lifted (os:Os) (started:os.Started) (H:Type) (enc:TypeId×Value→H) :
  ReturnsInHanded {} Tryz.checked os 8 .any (Rows.zoneJoinsAsSpecifiedSpec.pre6 enc Tryz.prog Tryz.f8 Rows.zoneJoinsAsSpecifiedRow.domain false) (Rows.zoneJoinsAsSpecifiedSpec.post enc Tryz.prog Tryz.f8 false true false false):=by
 refine law_lifted os started H enc Tryz.func8 (by kernel_rfl)
  (ChangeSpec.witness6 (enc:=enc) (C:=Tryz.checked) false ⟨#[],#[.agg #[.int .i64 0, .int .i64 0, .slice none 0 0], .agg #[.int .i64 0, .slice none 0 0, .slice none 0 0, .slice none 0 0, .int .i64 0, .int .i64 0, .int .i64 0, .int .i64 0, .int .i64 0, .slice none 0 0], .agg #[.int .i64 0, .slice none 0 0, .slice none 0 0, .slice none 0 0, .int .i64 0, .int .i64 0, .int .i64 0, .int .i64 0, .int .i64 0, .slice none 0 0]],[]⟩ 8 (by kernel_rfl) (by kernel_rfl) (by kernel_rfl) (by kernel_rfl))
  Tryz.underlying4 rfl rfl (by kernel_rfl) (fun ds hd=>?_)
  (argsOpen_cons argSchema (argsOpen_cons argSum (argsOpen_cons argSum argsOpen_nil))) (fun y hy=>?_)
 ·match ds,hd with
  | [d1,d2,d3],_=>exact ⟨rfl,rfl,rfl⟩
 ·obtain ⟨s,a,b,u⟩:=y
  obtain ⟨hs,ha,hb,-⟩:=hy
  exact pw_lJoins s a b hs.big.1 hs.big.2 ha.num hb.num ha.big hb.big
set_option maxRecDepth 100000 in
set_option maxHeartbeats 20000000 in
theorem joins_closed:joinedFacts Tryz.pinned.checked.prog 8 Tryz.f8 Rows.zoneJoinsAsSpecifiedSpec Rows.zoneJoinsAsSpecifiedRow=true:=by
 simp only [joinedFacts,Bool.and_eq_true]
 repeat' (refine And.intro ?_ ?_)
 all_goals (as_aux_lemma=>kernel_rfl)
theorem zoneJoins_holds:Rows.ZoneJoinsAsSpecifiedSaid:=
 OpenClaim.holds_of_wide 8 Tryz.f8 rfl rfl rfl rfl rfl rfl rfl ⟨rfl,rfl,rfl,rfl,rfl⟩ rfl rfl rfl rfl rfl (by kernel_rfl) Tryz.func8 joins_closed
  (of_decide_eq_true (by kernel_rfl)) (by unfold Func.isWrapper;first|(rw [if_pos (by decide +kernel)];kernel_rfl)|(rw [if_neg (by decide +kernel)];exact ⟨rfl,rfl⟩))
  (fun os started H enc _=>joins_lifted os started H enc)
#print axioms zoneJoins_holds
end Go.Proofs.YtoamkpgaaanafaaGreat
