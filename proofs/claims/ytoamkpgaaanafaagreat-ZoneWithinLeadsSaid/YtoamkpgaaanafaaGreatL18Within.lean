/- Proved here: antiquarylaw18.ZoneWithinLeads returns true for every input, and leaves its arguments as they were. No conditions. -/
import Derived.Test.YtoamkpgaaanafaaGreatG1
import Derived.Test.YtoamkpgaaanafaaGreatG10
import Derived.Test.YtoamkpgaaanafaaGreatG11
import Derived.Test.YtoamkpgaaanafaaGreatG14
import Derived.Test.YtoamkpgaaanafaaGreatG15
import Derived.Test.YtoamkpgaaanafaaGreatG21
import Derived.Test.YtoamkpgaaanafaaGreatG26
import Derived.Test.YtoamkpgaaanafaaGreatG27
import Derived.Test.YtoamkpgaaanafaaGreatG6
import Derived.Test.YtoamkpgaaanafaaGreatG7
import Derived.Test.YtoamkpgaaanafaaGreatG8
import Derived.Test.YtoamkpgaaanafaaGreatG9
import Derived.Test.YtoamkpgaaanafaaGreatI3
import Derived.Test.YtoamkpgaaanafaaGreatI6
import Derived.Test.YtoamkpgaaanafaaGreatI8
namespace Go.Proofs.YtoamkpgaaanafaaGreat
set_option linter.unusedSimpArgs false
set_option linter.unusedVariables false
set_option linter.unnecessarySimpa false
section
open Go.ChangeShapes Go.WideShapes Go.ChangeAt Go.RowKit
set_option maxRecDepth 100000 in
theorem within_lifted (os:Os) (started:os.Started) (H:Type) (enc:TypeId×Value→H) :
  ReturnsInHanded {} Tryz.checked os 6 .any (Rows.zoneWithinLeadsSpec.pre6 enc Tryz.prog Tryz.f6 Rows.zoneWithinLeadsRow.domain false) (Rows.zoneWithinLeadsSpec.post enc Tryz.prog Tryz.f6 false true false false):=by
 refine law_lifted os started H enc Tryz.func6 (by kernel_rfl)
  (ChangeSpec.witness6 (enc:=enc) (C:=Tryz.checked) false ⟨#[],#[.agg #[.int .i64 0, .int .i64 0, .slice none 0 0], .slice none 0 0, .agg #[.int .i64 0, .slice none 0 0, .slice none 0 0, .slice none 0 0, .int .i64 0, .int .i64 0, .int .i64 0, .int .i64 0, .int .i64 0, .slice none 0 0], .agg #[.int .i64 0, .slice none 0 0, .slice none 0 0, .slice none 0 0, .int .i64 0, .int .i64 0, .int .i64 0, .int .i64 0, .int .i64 0, .slice none 0 0], .agg #[.int .i64 0, .slice none 0 0, .slice none 0 0, .slice none 0 0, .int .i64 0, .int .i64 0, .int .i64 0, .int .i64 0, .int .i64 0, .slice none 0 0], .agg #[.int .i64 0, .int .i64 0, .int .i64 0, .int .i64 0, .int .i64 0, .int .i64 0, .int .i64 0, .slice none 0 0, .slice none 0 0], .slice none 0 0, .agg #[.int .i64 0, .string ByteArray.empty, .int .i64 0, .int .i64 0, .string ByteArray.empty, .slice none 0 0], .agg #[.int .i64 0, .int .i64 0]],[]⟩ 8 (by kernel_rfl) (by kernel_rfl) (by kernel_rfl) (by kernel_rfl))
  Tryz.underlying4 rfl rfl (by kernel_rfl) (fun ds hd=>?_)
  (argsOpen_cons argSchema (argsOpen_cons argVecs (argsOpen_cons argSum (argsOpen_cons argSum (argsOpen_cons argSum (argsOpen_cons argEntry2 (argsOpen_cons argInts (argsOpen_cons argPred (argsOpen_cons argSnap argsOpen_nil))))))))) (fun y hy=>?_)
 ·match ds,hd with
  | [d1,d2,d3,d4,d5,d6,d7,d8,d9],_=>exact ⟨rfl,rfl,rfl⟩
 ·obtain ⟨s,pv,a,b,c,e,v,p,t,u⟩:=y
  obtain ⟨hs,hpv,ha,hb,hc,he,hv,hp,ht,-⟩:=hy
  have r:=reach_eq
  have h1:pv.length * 24≤reachBytes:=hpv.2
  have h2:v.length * 8≤reachBytes:=hv.2
  exact pw_lWithin s pv a b c e v p t hs.big.1 hs.big.2 (by omega) ha.big hb.big hc.big he.big (by omega) hp.lens
set_option maxRecDepth 100000 in
set_option maxHeartbeats 20000000 in
theorem within_closed:joinedFacts Tryz.pinned.checked.prog 6 Tryz.f6 Rows.zoneWithinLeadsSpec Rows.zoneWithinLeadsRow=true:=by
 simp only [joinedFacts,Bool.and_eq_true]
 repeat' (refine And.intro ?_ ?_)
 all_goals (as_aux_lemma=>kernel_rfl)
theorem zoneWithin_holds:Rows.ZoneWithinLeadsSaid:=
 OpenClaim.holds_of_wide 6 Tryz.f6 rfl rfl rfl rfl rfl rfl rfl ⟨rfl,rfl,rfl,rfl,rfl⟩ rfl rfl rfl rfl rfl (by kernel_rfl) Tryz.func6 within_closed
  (of_decide_eq_true (by kernel_rfl)) (by unfold Func.isWrapper;first|(rw [if_pos (by decide +kernel)];kernel_rfl)|(rw [if_neg (by decide +kernel)];exact ⟨rfl,rfl⟩))
  (fun os started H enc _=>within_lifted os started H enc)
end
#print axioms zoneWithin_holds
end Go.Proofs.YtoamkpgaaanafaaGreat
