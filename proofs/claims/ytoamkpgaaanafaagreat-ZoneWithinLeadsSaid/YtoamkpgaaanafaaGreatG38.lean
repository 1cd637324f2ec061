/- Out of: Vd, Ve. -/
import Derived.Test.YtoamkpgaaanafaaGreatRows
import Derived.WalkKit
import Derived.WalkSpells
import Derived.WalkLawsBesides
import Derived.Deep.QuietTactic
import Derived.BigQuiet
import Derived.RegionTactic
import Derived.Lib.AppendZeros
import Derived.Lib.AppendStr
import Derived.Lib.Hide
import Derived.OrdersIn
import Derived.Laws.BytesString
import Derived.WideLaws
import Derived.RangeFuncRecord
import Derived.Orders
import GoSem.Step
import Derived.Laws.RangeAny
import Derived.Lib.OthersKept
import Derived.Outline
import Derived.Laws.EntriesVeiled
import Derived.KernelRfl
import Derived.StillTailTactics
import Derived.Deep.Cut
import Derived.RangeFuncCalls
import Derived.Lib.BitFns
import Derived.Test.YtoamkpgaaanafaaGreatShelf
import Derived.Test.YtoamkpgaaanafaaGreatIter
import Derived.Laws.Strings
import Derived.Test.YtoamkpgaaanafaaGreatG1
import Derived.Test.YtoamkpgaaanafaaGreatG3
import Derived.Test.YtoamkpgaaanafaaGreatG6
import Derived.Test.YtoamkpgaaanafaaGreatG7
import Derived.Test.YtoamkpgaaanafaaGreatG8
import Derived.Test.YtoamkpgaaanafaaGreatG10
import Derived.Test.YtoamkpgaaanafaaGreatG11
import Derived.Test.YtoamkpgaaanafaaGreatG14
import Derived.Test.YtoamkpgaaanafaaGreatG15
import Derived.Test.YtoamkpgaaanafaaGreatG17
import Derived.Test.YtoamkpgaaanafaaGreatG21
import Derived.Test.YtoamkpgaaanafaaGreatG23
import Derived.Test.YtoamkpgaaanafaaGreatG32
import Derived.Test.YtoamkpgaaanafaaGreatG34
namespace Go.Proofs.YtoamkpgaaanafaaGreat
set_option linter.unusedSimpArgs false
set_option linter.unusedVariables false
set_option linter.unnecessarySimpa false
section
open Go.RowKit
def few9 (l:List (List Int)) (most:Int):Bool:=decide ((l.length:Int)≤most) && l.all fun v=>decide (v.length≤40)
set_option maxRecDepth 10000 in
set_option maxHeartbeats 1000000 in
theorem pw_r9Few (l:List (List Int)) (most:Int) (h1:l.length≤20000000000000):PCalls Tryz.prog 51 [pvecs l,pint most] (· = pbool (few9 l most)):=by
 have hll:Low (pvecs l):=(low_pvecs _).2 trivial
 have f:∀w,few9 l most=w→pbool w=pbool (few9 l most):=fun v h=>by rw [h]
 refine pcalls_of_pw typeTab_ok Tryz.func51 rfl (by kernel_rfl) (by simp [low_pint,low_pints,low_pstr,low_pbool,low_pbox,low_pvecs,low_pentry,low_pentries,low_psum,low_pschema,low_pshells,low_pstrs,low_pfld,low_pdef]) (by simp [pint,pints,pstr,pbool,pbox,pvecs,pentry,pentries,psum,psumL,pschema,pshells,pstrs,pfld,pfldL,pdefL,PV.ownB]) (by rw [Tryz.ntmps51];simp) ?_
 rw [Tryz.ntmps51,Tryz.results51]
 by_cases h0:(l.length:Int)≤most
 rotate_left
 ·refine wk ?_
  exact retP rfl (by exact lw) (f _ (by simp only [few9,decide_eq_false h0,Bool.false_and]))
 refine wk ?_
 refine PW.loop (fun k:Nat=>(bot.put 0 (pvecs l) |>.put 5 (pint k))) (fun k=>k≤l.length∧∀j,j < k→(l.getD j default).length≤40) (fun k=>l.length - k) 0 ⟨by omega,by simp⟩ ?_ ?_
 ·exact sb
 rintro k ⟨hk,hn⟩
 by_cases hlt:k < l.length
 ·by_cases g:(l.getD k default).length≤40
  ·refine wk ?_
   refine loopP (k+1) ⟨by omega,fun j hj=>?_⟩ (by omega) ?_
   ·rcases Nat.lt_succ_iff_lt_or_eq.1 hj with h|h
    ·exact hn j h
    ·rw [h];exact g
   ·exact sb
  ·refine wk ?_
   refine retP rfl (by exact lw) (f _ ?_)
   have:(l.all fun v=>decide (v.length≤40))=false:=by
    rw [List.all_eq_false];exact ⟨_,getD_mem hlt,by simpa using g⟩
   simp only [few9,this,Bool.and_false]
 ·refine wk ?_
  refine retP rfl (by exact lw) (f _ ?_)
  have:(l.all fun v=>decide (v.length≤40))=true:=by
   rw [List.all_eq_true]
   intro x hx
   obtain ⟨j,hj,rfl⟩:=List.getElem_of_mem hx
   have:=hn j (by omega)
   rw [getD_atW hj] at this
   simpa using this
  simp only [few9,this,decide_eq_true h0,Bool.and_self]
theorem few9_get {l:List (List Int)} {most:Int} (h:few9 l most=true):(l.length:Int)≤most∧∀v∈l,v.length≤40:=by
 simpa [few9] using h
def pivS (s:PSchema) (l:List (List Int)):Bool := !l.any (wrongV s) && decide (l.length≤8)
set_option maxRecDepth 10000 in
set_option maxHeartbeats 2000000 in
theorem pw_rPivots (s:PSchema) (l:List (List Int)) (h1:l.length≤1000000) (h2:∀v∈l,v.length≤1000000):PCalls Tryz.prog 21 [pschema s,pvecs l] (· = pbool (pivS s l)):=by
 have hls:=low_schCells s
 have hll:Low (pvecs l):=(low_pvecs _).2 trivial
 have g:∀w,pivS s l=w→pbool w=pbool (pivS s l):=fun v h=>by rw [h]
 refine pcalls_of_pw typeTab_ok Tryz.func21 rfl (by kernel_rfl) (by simp [low_pint,low_pints,low_pstr,low_pbool,low_pbox,low_pvecs,low_pentry,low_pentries,low_psum,low_pschema,low_pshells,low_pstrs,low_pfld,low_pdef]) (by simp [pint,pints,pstr,pbool,pbox,pvecs,pentry,pentries,psum,psumL,pschema,pshells,pstrs,pfld,pfldL,pdefL,PV.ownB]) (by rw [Tryz.ntmps21];simp) ?_
 rw [Tryz.ntmps21,Tryz.results21]
 refine wk ?_
 refine PW.loop (fun k:Nat=>(bot.setb 0 (schCellsP s) |>.put 1 (pvecs l) |>.put 2 (.ptr 0 0) |>.put 5 (pint k))) (fun k=>k≤l.length∧∀j,j < k→wrongV s (l.getD j default)=false) (fun k=>l.length - k) 0 ⟨by omega,by simp⟩ ?_ ?_
 ·exact sb
 rintro k ⟨hk,ha⟩
 by_cases hlt:k < l.length
 ·have hkl:=h2 _ (getD_mem hlt)
  have cf:=pw_r4Valid (l.getD k default) hkl
  have hbad:wrongV s (l.getD k default)=true→pivS s l=false:=fun h=>by
   have:l.any (wrongV s)=true:=List.any_eq_true.2 ⟨_,getD_mem hlt,h⟩
   simp only [pivS,this,Bool.not_true,Bool.false_and]
  cases ef:vecB (l.getD k default) with
  |false=>
   rw [ef] at cf
   refine wk ?_
   exact retP rfl (by exact lw) (g _ (hbad (by simp only [wrongV,ef,Bool.not_false,Bool.true_or])))
  |true=>
   rw [ef] at cf
   by_cases e4:((l.getD k default).length:Int)=s.dims
   ·refine wk ?_
    refine loopP (k+1) ⟨by omega,fun j hj=>?_⟩ (by omega) ?_
    ·rcases Nat.lt_succ_iff_lt_or_eq.1 hj with h|h
     ·exact ha j h
     ·rw [h,wrongV,ef,decide_eq_false (fun h=>h e4)];rfl
    ·exact sb
   ·refine wk ?_
    exact retP rfl (by exact lw) (g _ (hbad (by rw [wrongV,decide_eq_true e4,Bool.or_true])))
 ·have hany:l.any (wrongV s)=false:=by
   rw [List.any_eq_false]
   intro x hx
   obtain ⟨j,hj,rfl⟩:=List.getElem_of_mem hx
   have:=ha j (by omega)
   rw [getD_atW hj] at this
   rw [this];decide
  by_cases h8:l.length≤8
  ·refine wk ?_
   exact retP rfl (by exact lw) (g _ (by simp [pivS,hany,h8]))
  ·refine wk ?_
   exact retP rfl (by exact lw) (g _ (by simp [pivS,h8]))
end
end Go.Proofs.YtoamkpgaaanafaaGreat
