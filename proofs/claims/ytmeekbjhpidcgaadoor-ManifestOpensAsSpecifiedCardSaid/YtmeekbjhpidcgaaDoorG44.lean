/- Out of: Tw. -/
import Derived.Test.YtmeekbjhpidcgaaDoorG42
namespace Go.Proofs.YtmeekbjhpidcgaaDoor
set_option linter.unusedSimpArgs false
set_option linter.unusedVariables false
set_option linter.unnecessarySimpa false
section
open Go.RowKit
theorem tc_copiesAt (D:DM) (at_:Nat) (now:PMan) (t d c m:Nat) (hd:([t,d,c,m]:List Nat).Nodup):HCalls Tryd.prog 22 [.ptr t 0] (tG t d c m at_ now D) (dMs m D) (.fn 38 [.ep [.ptr t 0] 0]) (tG t d c m at_ now D) (dMs m D):=
 th_at (tc_copiesB1 D at_ now) t d c m hd (.cons (.ptr _ _ (by simp)) .nil) (.fn _ _ _ rfl (fun j p q e1 e2=>by
  cases j with
  |zero=>
   simp only [List.getElem?_cons_zero,Option.some.injEq] at e1 e2
   subst e1 e2
   refine .ep _ _ _ rfl (fun j p q e1 e2=>?_)
   cases j with
   |zero=>
    simp only [List.getElem?_cons_zero,Option.some.injEq] at e1 e2
    subst e1 e2
    exact .ptr _ _ (by simp)
   |succ j=>simp at e1
  |succ j=>simp at e1))
theorem tc_bestAt (D:DM) (at_:Nat) (now:PMan) (h:D.cells.length≤1000000000) (hop:D.op = []) (ha:at_≤1000000000) (t d c m:Nat) (hd:([t,d,c,m]:List Nat).Nodup):HCalls Tryd.prog 21 [.fn 38 [.ep [.ptr t 0] 0], .agg nilM, .fn 23 []] (tG t d c m at_ now D) (dMs m D) (pman (bestM (readT D at_))) (tG t d c m at_ now D) (dMs m D):=by
 have h2:HCalls Tryd.prog 21 [.fn 38 [.ep [.ptr t 0] 0], .agg nilM, .fn 23 []] (tG t d c m at_ now D) (dMs m D) (pman (bestM (readT D at_))) (tG t d c m at_ now D) (dMs m D):=by
  have h0:HCalls Tryd.prog 21 [.fn 38 [.ep [.ptr 1000004 0] 0], .agg nilM, .fn 23 []] (tG 1000004 1000001 1000002 1000003 at_ now D) (dMs 1000003 D) (pman (bestM (readT D at_))) (tG 1000004 1000001 1000002 1000003 at_ now D) (dMs 1000003 D):=hcalls_weakA (tc_bestB1 D at_ now h hop ha) (.cons (.refl _) (.cons weak_nilM (.cons (.refl _) .nil)))
  refine th_at h0 t d c m hd (.cons ?_ (.cons (.low _ (.agg _ low_nilM)) (.cons (.low _ (.fn _ _ (by simp))) .nil))) (.low _ ((low_pman _).2 trivial))
  refine .fn _ _ _ rfl (fun j p q e1 e2=>?_)
  cases j with
  |zero=>
   simp only [List.getElem?_cons_zero,Option.some.injEq] at e1 e2
   subst e1 e2
   refine .ep _ _ _ rfl (fun j p q e1 e2=>?_)
   cases j with
   |zero=>
    simp only [List.getElem?_cons_zero,Option.some.injEq] at e1 e2
    subst e1 e2
    exact .ptr _ _ (by simp)
   |succ j=>simp at e1
  |succ j=>simp at e1
 exact h2
set_option maxRecDepth 10000 in
set_option maxHeartbeats 2000000 in
theorem tc_Open1 (D:DM) (at_:Nat) (h:D.cells.length≤1000000000) (hop:D.op = []) (ha:at_+1024≤D.cells.length) (hdead:D.dead=false):HCalls Tryd.prog 6 [.ptr 1000001 0,pint at_] (dG 1000001 1000002 1000003 D) (dMs 1000003 D) (.tup [.ptr 5003 0,pint 0]) (tG 5003 1000001 1000002 1000003 at_ (bestM (readT D at_)) D) (dMs 1000003 D):=by
 have c1:=dC_low D
 have c2:=dM_low D
 have hsz:=dc_Size D 1000001 1000002 1000003 (by decide)
 have hdn:=dc_Down D 1000001 1000002 1000003 (by decide)
 rw [hdead] at hdn
 have hcp:=hcalls_weakG (bs := [.ptr 1000001 0,pint at_,pint 0, .nilsl, .nilsl]) (tc_copiesAt D at_ zeroM 5003 1000001 1000002 1000003 (by decide)) (.cons (.refl _) (.cons (.refl _) (.cons (.refl _) (.cons (.nil 1) (.cons (.nil 18) .nil)))))
 have hbe:=tc_bestAt D at_ zeroM h hop (by omega) 5003 1000001 1000002 1000003 (by decide)
 generalize bestM (readT D at_)=B at *
 have hbl:=low_pmanL B
 refine hcalls_of_pw typeTab_ok Tryd.func6 rfl (by kernel_rfl) (by simp [PV.ownB,pint]) (Nat.le_of_ble_eq_true rfl) (by simp [ResIds,dG,dMs]) (by simp [ResIds,dG,dMs]) ?_ ?_
 ·have e1:ResIds (dG 1000001 1000002 1000003 D) (dMs 1000003 D) = [1000001,1000002,1000003]:=rfl
  have e2:ResIds (tG 5003 1000001 1000002 1000003 at_ B D) (dMs 1000003 D) = [5003,1000001,1000002,1000003]:=rfl
  refine ⟨?_,?_,?_,?_,?_,?_,by simp [tG,dG],by simp [dMs]⟩
  ·rw [e1];exact li_cons (.ptr _ _ (by simp)) (li_cons (.val _) li_nil)
  ·rw [e1];exact lb_cons (dB_lowI (by simp) (by simp) _) (lb_cons (li_low c1) lb_nil)
  ·exact lm_cons c2 lm_nil
  ·rw [e2];exact .tup _ (li_cons (.ptr _ _ (by simp)) (li_cons (.val _) li_nil))
  ·rw [e2];exact lb_cons (tC_lowI (by simp) _ _) (lb_cons (dB_lowI (by simp) (by simp) _) (lb_cons (li_low c1) lb_nil))
  ·exact lm_cons c2 lm_nil
 ·refine wk ?_
  exact RetH.mk rfl (Weak.refl _) ⟨⟨_,rfl,WeakL.refl _⟩,⟨_,rfl,WeakL.refl _⟩,⟨_,rfl,WeakL.refl _⟩,trivial⟩ ⟨⟨rfl,rfl⟩,trivial⟩
theorem tc_Open (D:DM) (at_:Nat) (h:D.cells.length≤1000000000) (hop:D.op = []) (ha:at_+1024≤D.cells.length) (hdead:D.dead=false) (t d c m:Nat) (hd:([t,d,c,m]:List Nat).Nodup):HCalls Tryd.prog 6 [.ptr d 0,pint at_] (dG d c m D) (dMs m D) (.tup [.ptr t 0,pint 0]) (tG t d c m at_ (bestM (readT D at_)) D) (dMs m D):=by
 have e1:ResIds (dG 1000001 1000002 1000003 D) (dMs 1000003 D) = [1000001,1000002,1000003]:=rfl
 generalize hB:bestM (readT D at_)=B
 have h0:=tc_Open1 D at_ h hop ha hdead
 rw [hB] at h0
 have e2:ResIds (tG 5003 1000001 1000002 1000003 at_ B D) (dMs 1000003 D) = [5003,1000001,1000002,1000003]:=rfl
 have hdB:∀S:Nat→Prop,S 1000002→S 1000003→RenL (renN [(5003,t),(1000001,d),(1000002,c),(1000003,m)]) S (dB 1000002 1000003 D) (dB c m D):=fun S s1 s2=>
  .cons (.msl _ _ _ _ s1) (.cons (.mref _ s2) (.cons (.low _ (.val _)) (.cons (.low _ (.val _)) (.cons (.low _ (.val _)) .nil))))
 refine h0.at [(5003,t),(1000001,d),(1000002,c),(1000003,m)] (by simpa using hd) (by rw [e2];simp) (by simp [tG,dG]) (by simp [dMs]) ?_ ?_ ?_ ?_ ?_ ?_
 ·rw [e1];exact .cons (.ptr _ _ (by simp)) (.cons (.low _ (.val _)) .nil)
 ·rw [e1];exact RenB.cons _ _ _ _ _ (hdB _ (by simp) (by simp)) (RenB.cons _ _ _ _ _ (RenL.low (dC_low _)) RenB.nil)
 ·exact RenMs.cons _ _ _ _ _ (RenM.low (dM_low _)) RenMs.nil
 ·rw [e2]
  refine .tup _ _ rfl (fun j p q e1 e2=>?_)
  match j with
  |0=>simp only [List.getElem?_cons_zero,Option.some.injEq] at e1 e2;subst e1 e2;exact .ptr _ _ (by simp)
  |1=>simp only [List.getElem?_cons_succ,List.getElem?_cons_zero,Option.some.injEq] at e1 e2;subst e1 e2;exact .low _ (.val _)
  |j+2=>simp at e1
 ·rw [e2];exact RenB.cons _ _ _ _ _ (ren_tCL (ρ:=renN [(5003,t),(1000001,d),(1000002,c),(1000003,m)]) (by simp)) (RenB.cons _ _ _ _ _ (hdB _ (by simp) (by simp)) (RenB.cons _ _ _ _ _ (RenL.low (dC_low _)) RenB.nil))
 ·exact RenMs.cons _ _ _ _ _ (RenM.low (dM_low _)) RenMs.nil
end
end Go.Proofs.YtmeekbjhpidcgaaDoor
