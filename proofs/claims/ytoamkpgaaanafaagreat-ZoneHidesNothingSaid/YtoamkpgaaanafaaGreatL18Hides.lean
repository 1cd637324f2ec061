/- Proved here: antiquarylaw18.ZoneHidesNothing returns true for every input, and leaves its arguments as they were. No conditions. -/
import Derived.Test.YtoamkpgaaanafaaGreatM47
namespace Go.Proofs.YtoamkpgaaanafaaGreat
set_option linter.unusedSimpArgs false
set_option linter.unusedVariables false
set_option linter.unnecessarySimpa false
section
open Go.ChangeShapes Go.WideShapes Go.ChangeAt Go.RowKit
set_option maxRecDepth 100000 in
theorem hides_lifted (os:Os) (started:os.Started) (H:Type) (enc:TypeId×Value→H) :
  ReturnsInHanded {} Tryz.checked os 7 .any (Rows.zoneHidesNothingSpec.pre6 enc Tryz.prog Tryz.f7 Rows.zoneHidesNothingRow.domain false) (Rows.zoneHidesNothingSpec.post enc Tryz.prog Tryz.f7 false true false false):=by
 refine law_lifted os started H enc Tryz.func7 (by kernel_rfl)
  (ChangeSpec.witness6 (enc:=enc) (C:=Tryz.checked) false ⟨#[],#[.agg #[.int .i64 0, .int .i64 0, .slice none 0 0], .slice none 0 0, .slice none 0 0, .int .u32 0, .slice none 0 0, .agg #[.int .i64 0, .string ByteArray.empty, .int .i64 0, .int .i64 0, .string ByteArray.empty, .slice none 0 0], .agg #[.int .i64 0, .int .i64 0]],[]⟩ 8 (by kernel_rfl) (by kernel_rfl) (by kernel_rfl) (by kernel_rfl))
  Tryz.underlying4 rfl rfl (by kernel_rfl) (fun ds hd=>?_)
  (argsOpen_cons argSchema (argsOpen_cons argVecs (argsOpen_cons argEntries (argsOpen_cons argU32 (argsOpen_cons argInts (argsOpen_cons argPred (argsOpen_cons argSnap argsOpen_nil))))))) (fun y hy=>?_)
 ·match ds,hd with
  | [d1,d2,d3,d4,d5,d6,d7],_=>exact ⟨rfl,rfl,rfl⟩
 ·obtain ⟨s,pv,l,w,v,p,t,u⟩:=y
  obtain ⟨hs,hpv,hl,hw,hv,hp,ht,-⟩:=hy
  have r:=reach_eq
  have h1:pv.length * 24≤reachBytes:=hpv.2
  have h2:v.length * 8≤reachBytes:=hv.2
  exact pw_lHides s pv l w v p t hs.big.1 hs.big.2 (by omega) (bigL_of2 hl) (by omega) hp.lens
set_option maxRecDepth 100000 in
set_option maxHeartbeats 20000000 in
theorem hides_closed:joinedFacts Tryz.pinned.checked.prog 7 Tryz.f7 Rows.zoneHidesNothingSpec Rows.zoneHidesNothingRow=true:=by
 simp only [joinedFacts,Bool.and_eq_true]
 repeat' (refine And.intro ?_ ?_)
 all_goals (as_aux_lemma=>kernel_rfl)
theorem zoneHides_holds:Rows.ZoneHidesNothingSaid:=
 OpenClaim.holds_of_wide 7 Tryz.f7 rfl rfl rfl rfl rfl rfl rfl ⟨rfl,rfl,rfl,rfl,rfl⟩ rfl rfl rfl rfl rfl (by kernel_rfl) Tryz.func7 hides_closed
  (of_decide_eq_true (by kernel_rfl)) (by unfold Func.isWrapper;first|(rw [if_pos (by decide +kernel)];kernel_rfl)|(rw [if_neg (by decide +kernel)];exact ⟨rfl,rfl⟩))
  (fun os started H enc _=>hides_lifted os started H enc)
end
#print axioms zoneHides_holds
end Go.Proofs.YtoamkpgaaanafaaGreat
