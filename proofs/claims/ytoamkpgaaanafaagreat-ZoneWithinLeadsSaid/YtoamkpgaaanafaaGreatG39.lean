/- Out of: Vd. -/
import Derived.Test.YtoamkpgaaanafaaGreatRows
import Derived.WalkKit
import Derived.WalkSpells
import Derived.WalkLawsBesides
import Derived.Deep.QuietTactic
import Derived.BigQuiet
import Derived.RegionTactic
import Derived.Lib.AppendZeros
import Derived.Lib.AppendStr
import Derived.Lib.Hide
import Derived.OrdersIn
import Derived.Laws.BytesString
import Derived.WideLaws
import Derived.RangeFuncRecord
import Derived.Orders
import GoSem.Step
import Derived.Laws.RangeAny
import Derived.Lib.OthersKept
import Derived.Outline
import Derived.Laws.EntriesVeiled
import Derived.KernelRfl
import Derived.StillTailTactics
import Derived.Deep.Cut
import Derived.RangeFuncCalls
import Derived.Lib.BitFns
import Derived.Test.YtoamkpgaaanafaaGreatShelf
import Derived.Test.YtoamkpgaaanafaaGreatIter
import Derived.Laws.Strings
import Derived.Test.YtoamkpgaaanafaaGreatG1
import Derived.Test.YtoamkpgaaanafaaGreatG3
import Derived.Test.YtoamkpgaaanafaaGreatG6
import Derived.Test.YtoamkpgaaanafaaGreatG7
import Derived.Test.YtoamkpgaaanafaaGreatG8
import Derived.Test.YtoamkpgaaanafaaGreatG10
import Derived.Test.YtoamkpgaaanafaaGreatG11
import Derived.Test.YtoamkpgaaanafaaGreatG14
import Derived.Test.YtoamkpgaaanafaaGreatG15
import Derived.Test.YtoamkpgaaanafaaGreatG17
import Derived.Test.YtoamkpgaaanafaaGreatG21
import Derived.Test.YtoamkpgaaanafaaGreatG23
import Derived.Test.YtoamkpgaaanafaaGreatG34
namespace Go.Proofs.YtoamkpgaaanafaaGreat
set_option linter.unusedSimpArgs false
set_option linter.unusedVariables false
set_option linter.unnecessarySimpa false
section
open Go.RowKit
set_option maxRecDepth 10000 in
set_option maxHeartbeats 2000000 in
theorem pw_r9Valid (l:List PShell) (hl:l.length≤1000000):PCalls Tryz.prog 69 [pshells l] (· = pbool (shellsB l)):=by
 have f:∀w,shellsB l=w→pbool w=pbool (shellsB l):=fun v h=>by rw [h]
 have hll:Low (pshells l):=(low_pshells _).2 trivial
 refine pcalls_of_pw typeTab_ok Tryz.func69 rfl (by kernel_rfl) (by simp [low_pint,low_pints,low_pstr,low_pbool,low_pbox,low_pvecs,low_pentry,low_pentries,low_psum,low_pschema,low_pshells,low_pstrs,low_pfld,low_pdef]) (by simp [pint,pints,pstr,pbool,pbox,pvecs,pentry,pentries,psum,psumL,pschema,pshells,pstrs,pfld,pfldL,pdefL,PV.ownB]) (by rw [Tryz.ntmps69];simp) ?_
 rw [Tryz.ntmps69,Tryz.results69]
 refine wk ?_
 refine PW.loop (fun k:Nat=>(bot.put 0 (pshells l) |>.put 3 (pint k))) (fun k=>k≤l.length∧∀j,j < k→shellB (l.getD j default)=true) (fun k=>l.length - k) 0 ⟨by omega,by simp⟩ ?_ ?_
 ·exact sb
 rintro k ⟨hk,hn⟩
 by_cases hlt:k < l.length
 ·have hbad:¬(0≤(l.getD k default).lo∧(l.getD k default).lo≤(l.getD k default).hi∧(l.getD k default).hi≤134217728)→shellsB l=false:=fun h=>by
   have h2:shellB (l.getD k default)=false:=by
    cases e:shellB (l.getD k default) with
    |false=>rfl
    |true=>exact absurd (shellB_iff.1 e) h
   have:l.all shellB=false:=by
    rw [List.all_eq_false];exact ⟨_,getD_mem hlt,by rw [h2];decide⟩
   simp only [shellsB,this,Bool.false_and]
  by_cases g1:(l.getD k default).lo < 0
  ·refine wk ?_
   exact retP rfl (by exact lw) (f _ (hbad (by omega)))
  by_cases g2:(l.getD k default).lo > (l.getD k default).hi
  ·refine wk ?_
   exact retP rfl (by exact lw) (f _ (hbad (by omega)))
  by_cases g3:(l.getD k default).hi > 134217728
  ·refine wk ?_
   exact retP rfl (by exact lw) (f _ (hbad (by omega)))
  refine wk ?_
  refine loopP (k+1) ⟨by omega,fun j hj=>?_⟩ (by omega) ?_
  ·rcases Nat.lt_succ_iff_lt_or_eq.1 hj with h|h
   ·exact hn j h
   ·rw [h,shellB_iff];omega
  ·exact sb
 ·have ha:l.all shellB=true:=by
   rw [List.all_eq_true]
   intro x hx
   obtain ⟨j,hj,rfl⟩:=List.getElem_of_mem hx
   have:=hn j (by omega)
   rwa [getD_atW hj] at this
  by_cases h8:l.length≤8
  ·refine wk ?_
   exact retP rfl (by exact lw) (f _ (by simp [shellsB,ha,h8]))
  ·refine wk ?_
   exact retP rfl (by exact lw) (f _ (by simp only [shellsB,decide_eq_false h8,Bool.and_false]))
end
end Go.Proofs.YtoamkpgaaanafaaGreat
