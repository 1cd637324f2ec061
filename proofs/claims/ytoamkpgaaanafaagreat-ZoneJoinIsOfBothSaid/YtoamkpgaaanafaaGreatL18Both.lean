/- Proved here: antiquarylaw18.ZoneJoinIsOfBoth returns true for every input, and leaves its arguments as they were. No conditions. -/
import Derived.Test.YtoamkpgaaanafaaGreatRows
import Derived.WalkKit
import Derived.WalkSpells
import Derived.WalkLawsBesides
import Derived.Deep.QuietTactic
import Derived.BigQuiet
import Derived.RegionTactic
import Derived.ProofKit
import Derived.OpenShut
import Derived.SizedLaws
import Derived.Lib.AppendZeros
import Derived.Lib.AppendStr
import Derived.Lib.Hide
import Derived.OrdersIn
import Derived.Laws.BytesString
import Derived.WideLaws
import Derived.RangeFuncRecord
import Derived.Orders
import Derived.Deep.Slices
import Derived.Lib.LaidU8
import Derived.LaidMore
import Derived.LaidLaws
import Derived.Stop.Joined
import Derived.MakeChecks
import GoSem.Step
import Derived.Laws.RangeAny
import Derived.Lib.OthersKept
import Derived.Outline
import Derived.Laws.EntriesVeiled
import Derived.KernelRfl
import Derived.StillTailTactics
import Derived.Deep.Cut
import Derived.RangeFuncCalls
import Derived.Lib.BitFns
import Derived.Test.YtoamkpgaaanafaaGreatShelf
import Derived.Test.YtoamkpgaaanafaaGreatIter
import Derived.Laws.Strings
import Derived.Test.YtoamkpgaaanafaaGreatG1
import Derived.Test.YtoamkpgaaanafaaGreatG6
import Derived.Test.YtoamkpgaaanafaaGreatG7
import Derived.Test.YtoamkpgaaanafaaGreatG8
import Derived.Test.YtoamkpgaaanafaaGreatG10
import Derived.Test.YtoamkpgaaanafaaGreatG11
import Derived.Test.YtoamkpgaaanafaaGreatG14
import Derived.Test.YtoamkpgaaanafaaGreatG15
import Derived.Test.YtoamkpgaaanafaaGreatG21
import Derived.Test.YtoamkpgaaanafaaGreatG25
import Derived.Test.YtoamkpgaaanafaaGreatG26
import Derived.Test.YtoamkpgaaanafaaGreatG46
namespace Go.Proofs.YtoamkpgaaanafaaGreat
set_option linter.unusedSimpArgs false
set_option linter.unusedVariables false
set_option linter.unnecessarySimpa false
section
open Go.ChangeShapes Go.WideShapes Go.ChangeAt Go.RowKit
theorem bigL_of {l:List PEntry} (h:(∀e∈l,GoodE e)∧l.length * 104≤reachBytes):BigL l:=by
 have r:=reach_eq
 have h2:=h.2
 exact ⟨by omega,fun e he=>(h.1 e he).big,fun e he=>by have f:=(h.1 e he).fit;exact ⟨f.frm,f.to,f.born⟩,fun e he a ha=>((h.1 e he).fit.attrs a ha).2⟩
set_option maxRecDepth 100000 in
theorem both_lifted (os:Os) (started:os.Started) (H:Type) (enc:TypeId×Value→H) :
  ReturnsInHanded {} Tryz.checked os 9 .any (Rows.zoneJoinIsOfBothSpec.pre6 enc Tryz.prog Tryz.f9 Rows.zoneJoinIsOfBothRow.domain false) (Rows.zoneJoinIsOfBothSpec.post enc Tryz.prog Tryz.f9 false true false false):=by
 refine law_lifted os started H enc Tryz.func9 (by kernel_rfl)
  (ChangeSpec.witness6 (enc:=enc) (C:=Tryz.checked) false ⟨#[],#[.agg #[.int .i64 0, .int .i64 0, .slice none 0 0], .slice none 0 0, .slice none 0 0, .slice none 0 0],[]⟩ 8 (by kernel_rfl) (by kernel_rfl) (by kernel_rfl) (by kernel_rfl))
  Tryz.underlying4 rfl rfl (by kernel_rfl) (fun ds hd=>?_)
  (argsOpen_cons argSchema (argsOpen_cons argVecs (argsOpen_cons argEntries (argsOpen_cons argEntries argsOpen_nil)))) (fun y hy=>?_)
 ·match ds,hd with
  | [d1,d2,d3,d4],_=>exact ⟨rfl,rfl,rfl⟩
 ·obtain ⟨s,pv,X,Y,u⟩:=y
  obtain ⟨hs,hp,hX,hY,-⟩:=hy
  have r:=reach_eq
  have h1:pv.length * 24≤reachBytes:=hp.2
  exact pw_lBoth s pv X Y hs.big.1 hs.big.2 (by omega) (bigL_of hX) (bigL_of hY)
set_option maxRecDepth 100000 in
set_option maxHeartbeats 20000000 in
theorem both_closed:joinedFacts Tryz.pinned.checked.prog 9 Tryz.f9 Rows.zoneJoinIsOfBothSpec Rows.zoneJoinIsOfBothRow=true:=by
 simp only [joinedFacts,Bool.and_eq_true]
 repeat' (refine And.intro ?_ ?_)
 all_goals (as_aux_lemma=>kernel_rfl)
theorem zoneBoth_holds:Rows.ZoneJoinIsOfBothSaid:=
 OpenClaim.holds_of_wide 9 Tryz.f9 rfl rfl rfl rfl rfl rfl rfl ⟨rfl,rfl,rfl,rfl,rfl⟩ rfl rfl rfl rfl rfl (by kernel_rfl) Tryz.func9 both_closed
  (of_decide_eq_true (by kernel_rfl)) (by unfold Func.isWrapper;first|(rw [if_pos (by decide +kernel)];kernel_rfl)|(rw [if_neg (by decide +kernel)];exact ⟨rfl,rfl⟩))
  (fun os started H enc _=>both_lifted os started H enc)
end
#print axioms zoneBoth_holds
end Go.Proofs.YtoamkpgaaanafaaGreat
