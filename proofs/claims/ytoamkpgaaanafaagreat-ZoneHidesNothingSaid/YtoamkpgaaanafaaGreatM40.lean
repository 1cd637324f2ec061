/- Out of: Vd. -/
import Derived.Test.YtoamkpgaaanafaaGreatM37
namespace Go.Proofs.YtoamkpgaaanafaaGreat
set_option linter.unusedSimpArgs false
set_option linter.unusedVariables false
set_option linter.unnecessarySimpa false
section
open Go.RowKit
def few9 (l:List (List Int)) (most:Int):Bool:=decide ((l.length:Int)≤most) && l.all fun v=>decide (v.length≤40)
set_option maxRecDepth 10000 in
set_option maxHeartbeats 1000000 in
theorem pw_r9Few (l:List (List Int)) (most:Int) (h1:l.length≤20000000000000):PCalls Tryz.prog 51 [pvecs l,pint most] (· = pbool (few9 l most)):=by
 have hll:Low (pvecs l):=(low_pvecs _).2 trivial
 have f:∀w,few9 l most=w→pbool w=pbool (few9 l most):=fun v h=>by rw [h]
 refine pcalls_of_pw typeTab_ok Tryz.func51 rfl (by kernel_rfl) (by simp [low_pint,low_pints,low_pstr,low_pbool,low_pbox,low_pvecs,low_pentry,low_pentries,low_psum,low_pschema,low_pshells,low_pstrs,low_pfld,low_pdef]) (by simp [pint,pints,pstr,pbool,pbox,pvecs,pentry,pentries,psum,psumL,pschema,pshells,pstrs,pfld,pfldL,pdefL,PV.ownB]) (by rw [Tryz.ntmps51];simp) ?_
 rw [Tryz.ntmps51,Tryz.results51]
 by_cases h0:(l.length:Int)≤most
 rotate_left
 ·refine wk ?_
  exact retP rfl (by exact lw) (f _ (by simp only [few9,decide_eq_false h0,Bool.false_and]))
 refine wk ?_
 refine PW.loop (fun k:Nat=>(bot.put 0 (pvecs l) |>.put 5 (pint k))) (fun k=>k≤l.length∧∀j,j < k→(l.getD j default).length≤40) (fun k=>l.length - k) 0 ⟨by omega,by simp⟩ ?_ ?_
 ·exact sb
 rintro k ⟨hk,hn⟩
 by_cases hlt:k < l.length
 ·by_cases g:(l.getD k default).length≤40
  ·refine wk ?_
   refine loopP (k+1) ⟨by omega,fun j hj=>?_⟩ (by omega) ?_
   ·rcases Nat.lt_succ_iff_lt_or_eq.1 hj with h|h
    ·exact hn j h
    ·rw [h];exact g
   ·exact sb
  ·refine wk ?_
   refine retP rfl (by exact lw) (f _ ?_)
   have:(l.all fun v=>decide (v.length≤40))=false:=by
    rw [List.all_eq_false];exact ⟨_,getD_mem hlt,by simpa using g⟩
   simp only [few9,this,Bool.and_false]
 ·refine wk ?_
  refine retP rfl (by exact lw) (f _ ?_)
  have:(l.all fun v=>decide (v.length≤40))=true:=by
   rw [List.all_eq_true]
   intro x hx
   obtain ⟨j,hj,rfl⟩:=List.getElem_of_mem hx
   have:=hn j (by omega)
   rw [getD_atW hj] at this
   simpa using this
  simp only [few9,this,decide_eq_true h0,Bool.and_self]
theorem few9_get {l:List (List Int)} {most:Int} (h:few9 l most=true):(l.length:Int)≤most∧∀v∈l,v.length≤40:=by
 simpa [few9] using h
end
end Go.Proofs.YtoamkpgaaanafaaGreat
