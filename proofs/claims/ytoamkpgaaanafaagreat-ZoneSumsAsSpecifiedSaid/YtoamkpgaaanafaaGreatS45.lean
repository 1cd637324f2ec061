/- Merged: Vi. -/
import Derived.Test.YtoamkpgaaanafaaGreatS38
/- The specification's between, Within, Bound, Seen. -/
namespace Go.Proofs.YtoamkpgaaanafaaGreat
set_option linter.unusedSimpArgs false
set_option linter.unusedVariables false
set_option linter.unnecessarySimpa false
open Go.RowKit
def betB (x y:PField):Bool:=(x.words.all fun w=>hasB y.words w) && (decide (y.lo≤x.lo) && decide (x.hi≤y.hi))
set_option maxRecDepth 10000 in
set_option maxHeartbeats 1000000 in
theorem pw_rBetween (x y:PField) (h1:x.words.length≤1000000) (h2:y.words.length≤1000000):PCalls Tryz.prog 75 [pfld x,pfld y] (· = pbool (betB x y)):=by
 have hx:=low_pfldL x
 have hy:=low_pfldL y
 have g:∀w,betB x y=w→pbool w=pbool (betB x y):=fun v h=>by rw [h]
 refine pcalls_of_pw typeTab_ok Tryz.func75 rfl (by kernel_rfl) (by simp [low_pint,low_pints,low_pstr,low_pbool,low_pbox,low_pvecs,low_pentry,low_pentries,low_psum,low_pschema,low_pshells,low_pstrs,low_pfld,low_pdef]) (by simp [pint,pints,pstr,pbool,pbox,pvecs,pentry,pentries,psum,psumL,pschema,pshells,pstrs,pfld,pfldL,pdefL,PV.ownB]) (by rw [Tryz.ntmps75];simp) ?_
 rw [Tryz.ntmps75,Tryz.results75]
 refine wk ?_
 refine PW.loop (fun k:Nat=>(bot.setb 0 (pfldL x) |>.setb 1 (pfldL y) |>.put 2 (.ptr 0 0) |>.put 3 (.ptr 1 0) |>.put 5 (pint k))) (fun k=>k≤x.words.length∧∀j,j < k→hasB y.words (x.words.getD j default)=true) (fun k=>x.words.length - k) 0 ⟨by omega,by simp⟩ ?_ ?_
 ·exact sb
 rintro k ⟨hk,ha⟩
 by_cases hlt:k < x.words.length
 ·have hc:=pcRefHas y.words (x.words.getD k default) (by omega)
  cases e1:hasB y.words (x.words.getD k default) with
  |true=>
   rw [e1] at hc
   refine wk ?_
   refine loopP (k+1) ⟨by omega,fun i hi=>?_⟩ (by omega) ?_
   ·rcases Nat.lt_succ_iff_lt_or_eq.1 hi with h|h
    ·exact ha i h
    ·rw [h];exact e1
   ·exact sb
  |false=>
   rw [e1] at hc
   refine wk ?_
   refine retP rfl (by exact lw) (g _ ?_)
   have:(x.words.all fun w=>hasB y.words w)=false:=by
    rw [List.all_eq_false];exact ⟨_,getD_mem hlt,by rw [e1];decide⟩
   rw [betB,this];rfl
 ·have hall:(x.words.all fun w=>hasB y.words w)=true:=by
   rw [List.all_eq_true]
   intro w hw
   obtain ⟨q,hq,rfl⟩:=List.getElem_of_mem hw
   have:=ha q (by omega)
   rwa [getD_atW hq] at this
  by_cases q1:x.lo≥y.lo
  ·by_cases q2:x.hi≤y.hi
   ·refine wk ?_
    exact retP rfl (by exact lw) (g _ (by rw [betB,hall,decide_eq_true q1,decide_eq_true q2];rfl))
   ·refine wk ?_
    exact retP rfl (by exact lw) (g _ (by rw [betB,decide_eq_false q2,Bool.and_false,Bool.and_false]))
  ·refine wk ?_
   exact retP rfl (by exact lw) (g _ (by rw [betB,decide_eq_false (show ¬y.lo≤x.lo from q1),Bool.false_and,Bool.and_false]))
end Go.Proofs.YtoamkpgaaanafaaGreat
