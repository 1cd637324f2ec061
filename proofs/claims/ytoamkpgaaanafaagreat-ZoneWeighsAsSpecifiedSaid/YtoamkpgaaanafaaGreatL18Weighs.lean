/- Proved here: antiquarylaw18.ZoneWeighsAsSpecified returns true for every input, and leaves its arguments as they were. No conditions. -/
import Derived.Test.YtoamkpgaaanafaaGreatRows
import Derived.WalkKit
import Derived.WalkSpells
import Derived.WalkLawsBesides
import Derived.Deep.QuietTactic
import Derived.BigQuiet
import Derived.RegionTactic
import Derived.ProofKit
import Derived.OpenShut
import Derived.SizedLaws
import Derived.Lib.AppendZeros
import Derived.Lib.AppendStr
import Derived.Lib.Hide
import Derived.OrdersIn
import Derived.Laws.BytesString
import Derived.WideLaws
import Derived.RangeFuncRecord
import Derived.Orders
import Derived.Deep.Slices
import Derived.Lib.LaidU8
import Derived.LaidMore
import Derived.LaidLaws
import Derived.Stop.Joined
import Derived.MakeChecks
import GoSem.Step
import Derived.Laws.RangeAny
import Derived.Lib.OthersKept
import Derived.Outline
import Derived.Laws.EntriesVeiled
import Derived.KernelRfl
import Derived.StillTailTactics
import Derived.Deep.Cut
import Derived.RangeFuncCalls
import Derived.Lib.BitFns
import Derived.Test.YtoamkpgaaanafaaGreatShelf
import Derived.Test.YtoamkpgaaanafaaGreatIter
import Derived.Laws.Strings
import Derived.Test.YtoamkpgaaanafaaGreatG1
import Derived.Test.YtoamkpgaaanafaaGreatG10
import Derived.Test.YtoamkpgaaanafaaGreatG11
import Derived.Test.YtoamkpgaaanafaaGreatG14
import Derived.Test.YtoamkpgaaanafaaGreatG15
import Derived.Test.YtoamkpgaaanafaaGreatG21
import Derived.Test.YtoamkpgaaanafaaGreatG26
import Derived.Test.YtoamkpgaaanafaaGreatG27
import Derived.Test.YtoamkpgaaanafaaGreatG6
import Derived.Test.YtoamkpgaaanafaaGreatG7
import Derived.Test.YtoamkpgaaanafaaGreatG8
import Derived.Test.YtoamkpgaaanafaaGreatG9
import Derived.Test.YtoamkpgaaanafaaGreatH3
import Derived.Test.YtoamkpgaaanafaaGreatH8
import Derived.Test.YtoamkpgaaanafaaGreatH12
namespace Go.Proofs.YtoamkpgaaanafaaGreat
set_option linter.unusedSimpArgs false
set_option linter.unusedVariables false
set_option linter.unnecessarySimpa false
section
open Go.ChangeShapes Go.WideShapes Go.ChangeAt Go.RowKit
set_option maxRecDepth 100000 in
theorem weighs_lifted (os:Os) (started:os.Started) (H:Type) (enc:TypeId×Value→H) :
  ReturnsInHanded {} Tryz.checked os 4 .any (Rows.zoneWeighsAsSpecifiedSpec.pre6 enc Tryz.prog Tryz.f4 Rows.zoneWeighsAsSpecifiedRow.domain false) (Rows.zoneWeighsAsSpecifiedSpec.post enc Tryz.prog Tryz.f4 false true false false):=by
 refine law_lifted os started H enc Tryz.func4 (by kernel_rfl)
  (ChangeSpec.witness6 (enc:=enc) (C:=Tryz.checked) false ⟨#[],#[.agg #[.int .i64 0, .int .i64 0, .slice none 0 0], .agg #[.int .i64 0, .slice none 0 0, .slice none 0 0, .slice none 0 0, .int .i64 0, .int .i64 0, .int .i64 0, .int .i64 0, .int .i64 0, .slice none 0 0], .slice none 0 0, .slice none 0 0, .agg #[.int .i64 0, .string ByteArray.empty, .int .i64 0, .int .i64 0, .string ByteArray.empty, .slice none 0 0], .agg #[.int .i64 0, .int .i64 0]],[]⟩ 8 (by kernel_rfl) (by kernel_rfl) (by kernel_rfl) (by kernel_rfl))
  Tryz.underlying4 rfl rfl (by kernel_rfl) (fun ds hd=>?_)
  (argsOpen_cons argSchema (argsOpen_cons argSum (argsOpen_cons argInts (argsOpen_cons argInts (argsOpen_cons argPred (argsOpen_cons argSnap argsOpen_nil)))))) (fun y hy=>?_)
 ·match ds,hd with
  | [d1,d2,d3,d4,d5,d6],_=>exact ⟨rfl,rfl,rfl⟩
 ·obtain ⟨s,z,v,ks,p,a,u⟩:=y
  obtain ⟨hs,hz,hv,hks,hp,ha,-⟩:=hy
  have r:=reach_eq
  have h1:v.length * 8≤reachBytes:=hv.2
  have h2:ks.length * 8≤reachBytes:=hks.2
  exact pw_lWeighs s z v ks p a hs.big.1 hs.big.2 (by omega) (by omega) hz.big hp.lens
set_option maxRecDepth 100000 in
set_option maxHeartbeats 20000000 in
theorem weighs_closed:joinedFacts Tryz.pinned.checked.prog 4 Tryz.f4 Rows.zoneWeighsAsSpecifiedSpec Rows.zoneWeighsAsSpecifiedRow=true:=by
 simp only [joinedFacts,Bool.and_eq_true]
 repeat' (refine And.intro ?_ ?_)
 all_goals (as_aux_lemma=>kernel_rfl)
theorem zoneWeighs_holds:Rows.ZoneWeighsAsSpecifiedSaid:=
 OpenClaim.holds_of_wide 4 Tryz.f4 rfl rfl rfl rfl rfl rfl rfl ⟨rfl,rfl,rfl,rfl,rfl⟩ rfl rfl rfl rfl rfl (by kernel_rfl) Tryz.func4 weighs_closed
  (of_decide_eq_true (by kernel_rfl)) (by unfold Func.isWrapper;first|(rw [if_pos (by decide +kernel)];kernel_rfl)|(rw [if_neg (by decide +kernel)];exact ⟨rfl,rfl⟩))
  (fun os started H enc _=>weighs_lifted os started H enc)
end
#print axioms zoneWeighs_holds
end Go.Proofs.YtoamkpgaaanafaaGreat
