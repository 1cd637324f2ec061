/- Merged: Zn. -/
import Derived.Test.YtoamkpgaaanafaaGreatS24
/- pivot: Table, Shells. -/
namespace Go.Proofs.YtoamkpgaaanafaaGreat
set_option linter.unusedSimpArgs false
set_option linter.unusedVariables false
set_option linter.unnecessarySimpa false
open Go.RowKit
def tabB (m:Int) (pv l:List (List Int)):Bool:=pivotsB m pv && (fitB l && alikeB (pv.getD 0 default) (l.getD 0 default))
def tabL (m:Int) (pv l:List (List Int)):List (List Int):=l.map (keysP m pv)
def tabP (m:Int) (pv l:List (List Int)):List (List Int)×Int:=if tabB m pv l then (tabL m pv l,0) else ([],1)
theorem tabL_take {m:Int} {pv l:List (List Int)} {k:Nat} (h:k < l.length):(tabL m pv l).take (k+1)=(tabL m pv l).take k ++ [keysP m pv (l.getD k default)]:=by
 rw [List.take_add_one]
 congr 1
 simp [tabL,h]
theorem tabB_get {m:Int} {pv l:List (List Int)} (h:tabB m pv l=true):keyB m=true∧(1≤pv.length∧pv.length≤8)∧(1≤l.length∧l.length≤4096)∧(∀i k,i < l.length→k < pv.length→(vecB (pv.getD k default)=true∧(pv.getD k default).length=(l.getD i default).length))∧∀i,i < l.length→vecB (l.getD i default)=true:=by
 simp only [tabB,pivotsB,Bool.and_eq_true,decide_eq_true_eq] at h
 obtain ⟨⟨a1,a2,a3⟩,a4,a5⟩:=h
 obtain ⟨⟨b1,b2⟩,b3⟩:=fitB_get a2
 obtain ⟨c1,c3⟩:=fitB_get a4
 simp only [alikeB,Bool.and_eq_true,decide_eq_true_eq] at a5
 refine ⟨a1,⟨b1,a3⟩,c1,fun i k hi hk=>⟨(b3 k hk).1,?_⟩,fun i hi=>(c3 i hi).1⟩
 rw [(b3 k hk).2,(c3 i hi).2,a5.1]
theorem low_pvecL (l:List (List Int)):∀c∈l.map pints,Low c:=by
 intro c hc
 obtain ⟨z,-,rfl⟩:=List.mem_map.1 hc
 simp [low_pints]
set_option maxRecDepth 10000 in
set_option maxHeartbeats 2000000 in
theorem pw_table (m:Int) (pv l:List (List Int)) (h1:pv.length≤1000000) (h2:∀v∈pv,v.length≤1000000) (h3:l.length≤1000000) (h4:∀v∈l,v.length≤1000000):PCalls Tryz.prog 141 [pint m,pvecs pv,pvecs l] (· = .tup [pvecs (tabP m pv l).1,pint (tabP m pv l).2]):=by
 have hlow:∀x,Low (pvecs x):=fun x=>(low_pvecs x).2 trivial
 have a1:=pw_arePivots m pv h1 h2
 have a2:=pw_fit l h3 h4
 refine PCalls.weak ?_
 refine pcalls_of_pw typeTab_ok Tryz.func141 rfl (by kernel_rfl) (by simp [low_pvecs,low_pint]) (by simp [pvecs,pint,PV.ownB]) (by rw [Tryz.ntmps141];simp) ?_
 rw [Tryz.ntmps141,Tryz.results141]
 have hnil:Weak (.tup [.nilsl, .val (.int .i64 1)]) (.tup [pvecs [],pint 1]):=Weak.tup (.cons (Weak.nil 1) (.cons (Weak.refl _) .nil))
 cases e1:pivotsB m pv with
 |false=>
  rw [e1] at a1
  clear a2
  refine wk ?_
  refine retP (r:=.tup [.nilsl,pint 1]) rfl (by simp [low_tup,low_nilsl,low_pint]) ?_
  simp only [tabP,tabB,e1,Bool.false_and,Bool.false_eq_true,if_false]
  exact hnil
 |true=>
  rw [e1] at a1
  cases e2:fitB l with
  |false=>
   rw [e2] at a2
   refine wk ?_
   refine retP (r:=.tup [.nilsl,pint 1]) rfl (by simp [low_tup,low_nilsl,low_pint]) ?_
   simp only [tabP,tabB,e2,Bool.false_and,Bool.and_false,Bool.false_eq_true,if_false]
   exact hnil
  |true=>
   rw [e2] at a2
   have q1:0 < pv.length:=by
    simp only [pivotsB,Bool.and_eq_true] at e1
    have:=(fitB_get e1.2.1).1;omega
   have q2:0 < l.length:=(fitB_get e2).1.1
   have a3:=pw_alike (pv.getD 0 default) (l.getD 0 default) (h2 _ (getD_mem q1)) (h4 _ (getD_mem q2))
   cases e3:alikeB (pv.getD 0 default) (l.getD 0 default) with
   |false=>
    rw [e3] at a3
    refine wk ?_
    refine retP (r:=.tup [.nilsl,pint 1]) rfl (by simp [low_tup,low_nilsl,low_pint]) ?_
    simp only [tabP,tabB,e3,Bool.and_false,Bool.false_eq_true,if_false]
    exact hnil
   |true=>
    rw [e3] at a3
    have ht:tabB m pv l=true:=by simp only [tabB,e1,e2,e3,Bool.and_self]
    obtain ⟨g1,g2,g3,g4,g5⟩:=tabB_get ht
    unfold tabP
    rw [if_pos ht]
    refine wk ?_
    refine PW.loop (fun k:Nat=>((((((bot.put 0 (pint m)).put 1 (pvecs pv)).put 8 (.sl k 1 (((tabL m pv l).take k).map pints) (some 27))).put 30 (pvecs l)).put 31 (pint l.length)).put 32 (pint k))) (fun k=>k≤l.length) (fun k=>l.length - k) 0 (by omega) ?_ ?_
    ·exact sb
    ·intro k hk
     clear a1 a2 a3
     by_cases hlt:k < l.length
     ·have p1:=pw_pkeys m pv (l.getD k default) g1 h1 (fun j hj=>g4 k j hlt hj) (g5 k hlt)
      refine wk ?_
      refine loopP (k+1) (by omega) (by omega) ?_
      simp only [tabL_take hlt,List.map_append,List.map_cons,List.map_nil]
      have hl3:Low (.sl (k+1) 1 (((tabL m pv l).take k).map pints ++ [pints (keysP m pv (l.getD k default))]) (some 27)):=by
       refine .sl _ _ _ _ fun c hc=>?_
       rcases List.mem_append.1 hc with h|h
       ·exact low_pvecL _ c h
       ·simp at h;subst h;simp [low_pints]
      exact sb
     ·refine wk ?_
      have hkk:k=l.length:=by omega
      refine retP (r:=.tup [.sl k 1 (((tabL m pv l).take k).map pints) none,pint 0]) rfl (low_tup.2 (by simp only [List.mem_cons,List.not_mem_nil,or_false];rintro c (rfl|rfl);exact .sl _ _ _ _ (low_pvecL _);exact .val _)) ?_
      rw [List.take_of_length_le (by simp [tabL,hkk]),hkk,show l.length=(tabL m pv l).length by simp [tabL]]
      exact Weak.refl _
end Go.Proofs.YtoamkpgaaanafaaGreat
