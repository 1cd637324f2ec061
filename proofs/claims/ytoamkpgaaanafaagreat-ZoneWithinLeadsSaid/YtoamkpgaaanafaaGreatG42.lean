/- Out of: Vb. -/
import Derived.Test.YtoamkpgaaanafaaGreatRows
import Derived.WalkKit
import Derived.WalkSpells
import Derived.WalkLawsBesides
import Derived.Deep.QuietTactic
import Derived.BigQuiet
import Derived.RegionTactic
import Derived.Lib.AppendZeros
import Derived.Lib.AppendStr
import Derived.Lib.Hide
import Derived.OrdersIn
import Derived.Laws.BytesString
import Derived.WideLaws
import Derived.RangeFuncRecord
import Derived.Orders
import GoSem.Step
import Derived.Laws.RangeAny
import Derived.Lib.OthersKept
import Derived.Outline
import Derived.Laws.EntriesVeiled
import Derived.KernelRfl
import Derived.StillTailTactics
import Derived.Deep.Cut
import Derived.RangeFuncCalls
import Derived.Lib.BitFns
import Derived.Test.YtoamkpgaaanafaaGreatShelf
import Derived.Test.YtoamkpgaaanafaaGreatIter
import Derived.Laws.Strings
import Derived.Test.YtoamkpgaaanafaaGreatG1
import Derived.Test.YtoamkpgaaanafaaGreatG3
import Derived.Test.YtoamkpgaaanafaaGreatG6
import Derived.Test.YtoamkpgaaanafaaGreatG7
import Derived.Test.YtoamkpgaaanafaaGreatG8
import Derived.Test.YtoamkpgaaanafaaGreatG10
import Derived.Test.YtoamkpgaaanafaaGreatG11
import Derived.Test.YtoamkpgaaanafaaGreatG14
import Derived.Test.YtoamkpgaaanafaaGreatG15
import Derived.Test.YtoamkpgaaanafaaGreatG17
import Derived.Test.YtoamkpgaaanafaaGreatG21
import Derived.Test.YtoamkpgaaanafaaGreatG34
import Derived.Test.YtoamkpgaaanafaaGreatG37
namespace Go.Proofs.YtoamkpgaaanafaaGreat
set_option linter.unusedSimpArgs false
set_option linter.unusedVariables false
set_option linter.unnecessarySimpa false
section
open Go.RowKit
set_option maxRecDepth 10000 in
set_option maxHeartbeats 1000000 in
theorem pw_r6Valid (b:PBox) (h1:b.lo.length≤1000000) (h2:b.hi.length≤1000000):PCalls Tryz.prog 68 [pbox b] (· = pbool (boxB b)):=by
 have c1:=pw_r6Vector b.lo h1
 have c2:=pw_r6Vector b.hi h2
 have hlb:=low_pboxL b
 have f:∀v,boxB b=v→pbool v=pbool (boxB b):=fun v h=>by rw [h]
 refine pcalls_of_pw typeTab_ok Tryz.func68 rfl (by kernel_rfl) (by simp [low_pint,low_pints,low_pstr,low_pbool,low_pbox,low_pvecs,low_pentry,low_pentries,low_psum,low_pschema,low_pshells,low_pstrs,low_pfld,low_pdef]) (by simp [pint,pints,pstr,pbool,pbox,pvecs,pentry,pentries,psum,psumL,pschema,pshells,pstrs,pfld,pfldL,pdefL,PV.ownB]) (by rw [Tryz.ntmps68];simp) ?_
 rw [Tryz.ntmps68,Tryz.results68]
 unfold pbox pboxL at *
 cases e1:vecB b.lo with
 |false=>
  rw [e1] at c1
  clear c2
  refine wk ?_
  exact retP rfl (by exact lw) (f _ (by simp [boxB,e1]))
 |true=>
  rw [e1] at c1
  cases e2:vecB b.hi with
  |false=>
   rw [e2] at c2
   refine wk ?_
   exact retP rfl (by exact lw) (f _ (by simp [boxB,e2]))
  |true=>
   rw [e2] at c2
   by_cases e3:b.lo.length=b.hi.length
   rotate_left
   ·refine wk ?_
    exact retP rfl (by exact lw) (f _ (by simp [boxB,e3]))
   refine wk ?_
   clear c1 c2
   refine PW.loop (fun k:Nat=>(bot.setb 0 [pints b.lo,pints b.hi] |>.put 1 (.ptr 0 0) |>.put 3 (pint k))) (fun k=>k≤b.lo.length∧∀j,j < k→b.lo.getD j default≤b.hi.getD j default) (fun k=>b.lo.length - k) 0 ⟨by omega,by simp⟩ ?_ ?_
   ·exact sb
   rintro k ⟨hk,hn⟩
   by_cases hlt:k < b.lo.length
   ·by_cases h3:b.lo.getD k default≤b.hi.getD k default
    ·refine wk ?_
     refine loopP (k+1) ⟨by omega,fun j hj=>?_⟩ (by omega) ?_
     ·rcases Nat.lt_succ_iff_lt_or_eq.1 hj with h|h
      ·exact hn j h
      ·rw [h];exact h3
     ·exact sb
    ·refine wk ?_
     refine retP rfl (by exact lw) (f _ ?_)
     have:((List.range b.lo.length).all fun k=>decide (b.lo.getD k default≤b.hi.getD k default))=false:=by
      rw [List.all_eq_false];exact ⟨k,by simp [hlt],by simpa using h3⟩
     simp only [boxB,this,Bool.and_false]
   ·refine wk ?_
    refine retP rfl (by exact lw) (f _ ?_)
    have:((List.range b.lo.length).all fun k=>decide (b.lo.getD k default≤b.hi.getD k default))=true:=by
     rw [List.all_eq_true];intro j hj;simpa using hn j (by simp at hj;omega)
    rw [boxB,e1,e2,decide_eq_true e3,this];rfl
end
end Go.Proofs.YtoamkpgaaanafaaGreat
