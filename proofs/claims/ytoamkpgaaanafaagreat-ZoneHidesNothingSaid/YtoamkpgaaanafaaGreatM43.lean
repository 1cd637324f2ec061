/- Out of: Ve. -/
import Derived.Test.YtoamkpgaaanafaaGreatM39
namespace Go.Proofs.YtoamkpgaaanafaaGreat
set_option linter.unusedSimpArgs false
set_option linter.unusedVariables false
set_option linter.unnecessarySimpa false
section
open Go.RowKit
def pivS (s:PSchema) (l:List (List Int)):Bool := !l.any (wrongV s) && decide (l.length≤8)
set_option maxRecDepth 10000 in
set_option maxHeartbeats 2000000 in
theorem pw_rPivots (s:PSchema) (l:List (List Int)) (h1:l.length≤1000000) (h2:∀v∈l,v.length≤1000000):PCalls Tryz.prog 21 [pschema s,pvecs l] (· = pbool (pivS s l)):=by
 have hls:=low_schCells s
 have hll:Low (pvecs l):=(low_pvecs _).2 trivial
 have g:∀w,pivS s l=w→pbool w=pbool (pivS s l):=fun v h=>by rw [h]
 refine pcalls_of_pw typeTab_ok Tryz.func21 rfl (by kernel_rfl) (by simp [low_pint,low_pints,low_pstr,low_pbool,low_pbox,low_pvecs,low_pentry,low_pentries,low_psum,low_pschema,low_pshells,low_pstrs,low_pfld,low_pdef]) (by simp [pint,pints,pstr,pbool,pbox,pvecs,pentry,pentries,psum,psumL,pschema,pshells,pstrs,pfld,pfldL,pdefL,PV.ownB]) (by rw [Tryz.ntmps21];simp) ?_
 rw [Tryz.ntmps21,Tryz.results21]
 refine wk ?_
 refine PW.loop (fun k:Nat=>(bot.setb 0 (schCellsP s) |>.put 1 (pvecs l) |>.put 2 (.ptr 0 0) |>.put 5 (pint k))) (fun k=>k≤l.length∧∀j,j < k→wrongV s (l.getD j default)=false) (fun k=>l.length - k) 0 ⟨by omega,by simp⟩ ?_ ?_
 ·exact sb
 rintro k ⟨hk,ha⟩
 by_cases hlt:k < l.length
 ·have hkl:=h2 _ (getD_mem hlt)
  have cf:=pw_r4Valid (l.getD k default) hkl
  have hbad:wrongV s (l.getD k default)=true→pivS s l=false:=fun h=>by
   have:l.any (wrongV s)=true:=List.any_eq_true.2 ⟨_,getD_mem hlt,h⟩
   simp only [pivS,this,Bool.not_true,Bool.false_and]
  cases ef:vecB (l.getD k default) with
  |false=>
   rw [ef] at cf
   refine wk ?_
   exact retP rfl (by exact lw) (g _ (hbad (by simp only [wrongV,ef,Bool.not_false,Bool.true_or])))
  |true=>
   rw [ef] at cf
   by_cases e4:((l.getD k default).length:Int)=s.dims
   ·refine wk ?_
    refine loopP (k+1) ⟨by omega,fun j hj=>?_⟩ (by omega) ?_
    ·rcases Nat.lt_succ_iff_lt_or_eq.1 hj with h|h
     ·exact ha j h
     ·rw [h,wrongV,ef,decide_eq_false (fun h=>h e4)];rfl
    ·exact sb
   ·refine wk ?_
    exact retP rfl (by exact lw) (g _ (hbad (by rw [wrongV,decide_eq_true e4,Bool.or_true])))
 ·have hany:l.any (wrongV s)=false:=by
   rw [List.any_eq_false]
   intro x hx
   obtain ⟨j,hj,rfl⟩:=List.getElem_of_mem hx
   have:=ha j (by omega)
   rw [getD_atW hj] at this
   rw [this];decide
  by_cases h8:l.length≤8
  ·refine wk ?_
   exact retP rfl (by exact lw) (g _ (by simp [pivS,hany,h8]))
  ·refine wk ?_
   exact retP rfl (by exact lw) (g _ (by simp [pivS,h8]))
end
end Go.Proofs.YtoamkpgaaanafaaGreat
