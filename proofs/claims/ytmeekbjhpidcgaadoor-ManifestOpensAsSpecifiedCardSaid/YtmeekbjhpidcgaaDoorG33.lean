/- Out of: Tx. -/
import Derived.Test.YtmeekbjhpidcgaaDoorG28
namespace Go.Proofs.YtmeekbjhpidcgaaDoor
set_option linter.unusedSimpArgs false
set_option linter.unusedVariables false
set_option linter.unnecessarySimpa false
section
open Go.RowKit
theorem pw_isSlot (k s:Int):PCalls Tryd.prog 43 [pint k, .ep [pint s] 0] (· = pbool (decide (k=s))):=by
 refine pcalls_of_pw typeTab_ok Tryd.func43 rfl (by kernel_rfl) (by simp [low_pint,low_ep]) (by simp [pint,PV.ownB]) (Nat.le_of_ble_eq_true rfl) ?_
 by_cases h:k=s
 ·refine wk ?_
  exact retP (r:=pbool true) rfl (.val _) (by rw [decide_eq_true h])
 ·refine wk ?_
  exact retP (r:=pbool false) rfl (.val _) (by rw [decide_eq_false h])
def idxN (n:Nat) (a b s:Int):Int:=if 0 < n∧a=s then 0 else if 1 < n∧b=s then 1 else -1
def delN (n:Nat) (a b s:Int):Nat×Int×Int:=if 0 < n∧a=s then (if 1 < n∧b≠s then (1,b,0) else (0,0,if 1 < n then 0 else b)) else if 1 < n∧b=s then (1,a,0) else (n,a,b)
set_option maxRecDepth 10000 in
set_option maxHeartbeats 1000000 in
theorem hc_idx (n:Nat) (a b s:Int) (h:n≤2):HCalls Tryd.prog 56 [.msl 1000001 0 n 1, .fn 43 [.ep [pint s] 0]] [(1000001,[pint a,pint b])] [] (pint (idxN n a b s)) [(1000001,[pint a,pint b])] []:=by
 have hc2:∀c ∈ [pint a,pint b],Low c:=by intro c hc;simp only [List.mem_cons,List.not_mem_nil,or_false] at hc;rcases hc with rfl|rfl<;>exact .val _
 refine hcalls_of_pw typeTab_ok Tryd.func56 rfl (by kernel_rfl) (by simp [PV.ownB]) (Nat.le_of_ble_eq_true rfl) (by simp [ResIds]) (by simp [ResIds]) ⟨li_cons (.msl _ _ _ _ (by simp [ResIds])) (li_cons (.fn _ _ (li_cons (.ep _ _ (li_cons (.val _) li_nil)) li_nil)) li_nil),lb_cons (li_low hc2) lb_nil,lm_nil, .val _,lb_cons (li_low hc2) lb_nil,lm_nil,by simp,by simp⟩ ?_
 have ha:=pw_isSlot a s
 have hb:=pw_isSlot b s
 obtain rfl|rfl|rfl:n=0∨n=1∨n=2:=by omega
 ·have e:idxN 0 a b s = -1:=by simp [idxN]
  rw [e]
  refine wk ?_
  refine PW.unroll ?_
  refine wk ?_
  exact RetH.mk rfl (Weak.refl _) ⟨⟨_,rfl,WeakL.refl _⟩,trivial⟩ trivial
 ·by_cases h1:a=s
  ·rw [decide_eq_true h1] at ha
   have e:idxN 1 a b s=0:=by simp [idxN,h1]
   rw [e]
   refine wk ?_
   refine PW.unroll ?_
   refine wk ?_
   exact RetH.mk rfl (Weak.refl _) ⟨⟨_,rfl,WeakL.refl _⟩,trivial⟩ trivial
  ·rw [decide_eq_false h1] at ha
   have e:idxN 1 a b s = -1:=by simp [idxN,h1]
   rw [e]
   refine wk ?_
   refine PW.unroll ?_
   refine wk ?_
   refine loopU ?_
   refine wk ?_
   exact RetH.mk rfl (Weak.refl _) ⟨⟨_,rfl,WeakL.refl _⟩,trivial⟩ trivial
 ·by_cases h1:a=s
  ·rw [decide_eq_true h1] at ha
   have e:idxN 2 a b s=0:=by simp [idxN,h1]
   rw [e]
   refine wk ?_
   refine PW.unroll ?_
   refine wk ?_
   exact RetH.mk rfl (Weak.refl _) ⟨⟨_,rfl,WeakL.refl _⟩,trivial⟩ trivial
  ·rw [decide_eq_false h1] at ha
   by_cases h2:b=s
   ·rw [decide_eq_true h2] at hb
    have e:idxN 2 a b s=1:=by simp [idxN,h1,h2]
    rw [e]
    refine wk ?_
    refine PW.unroll ?_
    refine wk ?_
    refine loopU ?_
    refine wk ?_
    exact RetH.mk rfl (Weak.refl _) ⟨⟨_,rfl,WeakL.refl _⟩,trivial⟩ trivial
   ·rw [decide_eq_false h2] at hb
    have e:idxN 2 a b s = -1:=by simp [idxN,h1,h2]
    rw [e]
    refine wk ?_
    refine PW.unroll ?_
    refine wk ?_
    refine loopU ?_
    refine wk ?_
    refine loopU ?_
    refine wk ?_
    exact RetH.mk rfl (Weak.refl _) ⟨⟨_,rfl,WeakL.refl _⟩,trivial⟩ trivial
set_option maxRecDepth 10000 in
set_option maxHeartbeats 2000000 in
theorem hc_del1 (n:Nat) (a b s:Int) (h:n≤2):HCalls Tryd.prog 42 [.msl 1000001 0 n 1, .fn 43 [.ep [pint s] 0]] [(1000001,[pint a,pint b])] [] (.msl 1000001 0 (delN n a b s).1 1) [(1000001,[pint (delN n a b s).2.1,pint (delN n a b s).2.2])] []:=by
 have hc2:∀a b,∀c ∈ [pint a,pint b],Low c:=by intro a b c hc;simp only [List.mem_cons,List.not_mem_nil,or_false] at hc;rcases hc with rfl|rfl<;>exact .val _
 refine hcalls_of_pw typeTab_ok Tryd.func42 rfl (by kernel_rfl) (by simp [PV.ownB]) (Nat.le_of_ble_eq_true rfl) (by simp [ResIds]) (by simp [ResIds]) ⟨li_cons (.msl _ _ _ _ (by simp [ResIds])) (li_cons (.fn _ _ (li_cons (.ep _ _ (li_cons (.val _) li_nil)) li_nil)) li_nil),lb_cons (li_low (hc2 _ _)) lb_nil,lm_nil, .msl _ _ _ _ (by simp [ResIds]),lb_cons (li_low (hc2 _ _)) lb_nil,lm_nil,by simp,by simp⟩ ?_
 have ha:=pw_isSlot a s
 have hb:=pw_isSlot b s
 have hi:=hc_idx n a b s h
 obtain rfl|rfl|rfl:n=0∨n=1∨n=2:=by omega
 ·have e:idxN 0 a b s = -1:=by simp [idxN]
  have e2:delN 0 a b s=(0,a,b):=by simp [delN]
  rw [e] at hi
  rw [e2]
  refine wk ?_
  exact RetH.mk rfl (Weak.refl _) ⟨⟨_,rfl,WeakL.refl _⟩,trivial⟩ trivial
 ·by_cases h1:a=s
  ·rw [decide_eq_true h1] at ha
   have e:idxN 1 a b s=0:=by simp [idxN,h1]
   have e2:delN 1 a b s=(0,0,b):=by simp [delN,h1]
   rw [e] at hi
   rw [e2]
   refine wk ?_
   refine PW.unroll ?_
   refine wk ?_
   refine PWops.slcMs rfl rfl rfl rfl rfl rfl rfl rfl rfl ?_
   refine PWops.clrM typeTab_ok rfl (fun _ _=>rfl) rfl rfl rfl rfl rfl rfl (Nat.le_of_ble_eq_true rfl) rfl ?_
   refine wk ?_
   refine PWops.slcMs rfl rfl rfl rfl rfl rfl rfl rfl rfl ?_
   refine wk ?_
   exact RetH.mk rfl (Weak.refl _) ⟨⟨_,rfl,WeakL.refl _⟩,trivial⟩ trivial
  ·rw [decide_eq_false h1] at ha
   have e:idxN 1 a b s = -1:=by simp [idxN,h1]
   have e2:delN 1 a b s=(1,a,b):=by simp [delN,h1]
   rw [e] at hi
   rw [e2]
   refine wk ?_
   exact RetH.mk rfl (Weak.refl _) ⟨⟨_,rfl,WeakL.refl _⟩,trivial⟩ trivial
 ·by_cases h1:a=s
  ·rw [decide_eq_true h1] at ha
   have e:idxN 2 a b s=0:=by simp [idxN,h1]
   rw [e] at hi
   by_cases h2:b=s
   ·rw [decide_eq_true h2] at hb
    have e2:delN 2 a b s=(0,0,0):=by simp [delN,h1,h2]
    rw [e2]
    refine wk ?_
    refine PW.unroll ?_
    refine wk ?_
    refine loopU ?_
    refine wk ?_
    refine PWops.slcMs rfl rfl rfl rfl rfl rfl rfl rfl rfl ?_
    refine PWops.clrM typeTab_ok rfl (fun _ _=>rfl) rfl rfl rfl rfl rfl rfl (Nat.le_of_ble_eq_true rfl) rfl ?_
    refine wk ?_
    refine PWops.slcMs rfl rfl rfl rfl rfl rfl rfl rfl rfl ?_
    refine wk ?_
    exact RetH.mk rfl (Weak.refl _) ⟨⟨_,rfl,WeakL.refl _⟩,trivial⟩ trivial
   ·rw [decide_eq_false h2] at hb
    have e2:delN 2 a b s=(1,b,0):=by simp [delN,h1,h2]
    rw [e2]
    refine wk ?_
    refine PW.unroll ?_
    refine wk ?_
    refine loopU ?_
    refine wk ?_
    refine PWops.slcMs rfl rfl rfl rfl rfl rfl rfl rfl rfl ?_
    refine PWops.clrM typeTab_ok rfl (fun _ _=>rfl) rfl rfl rfl rfl rfl rfl (Nat.le_of_ble_eq_true rfl) rfl ?_
    refine wk ?_
    refine PWops.slcMs rfl rfl rfl rfl rfl rfl rfl rfl rfl ?_
    refine wk ?_
    exact RetH.mk rfl (Weak.refl _) ⟨⟨_,rfl,WeakL.refl _⟩,trivial⟩ trivial
  ·rw [decide_eq_false h1] at ha
   by_cases h2:b=s
   ·rw [decide_eq_true h2] at hb
    have e:idxN 2 a b s=1:=by simp [idxN,h1,h2]
    have e2:delN 2 a b s=(1,a,0):=by simp [delN,h1,h2]
    rw [e] at hi
    rw [e2]
    refine wk ?_
    refine PW.unroll ?_
    refine wk ?_
    refine PWops.slcMs rfl rfl rfl rfl rfl rfl rfl rfl rfl ?_
    refine PWops.clrM typeTab_ok rfl (fun _ _=>rfl) rfl rfl rfl rfl rfl rfl (Nat.le_of_ble_eq_true rfl) rfl ?_
    refine wk ?_
    refine PWops.slcMs rfl rfl rfl rfl rfl rfl rfl rfl rfl ?_
    refine wk ?_
    exact RetH.mk rfl (Weak.refl _) ⟨⟨_,rfl,WeakL.refl _⟩,trivial⟩ trivial
   ·rw [decide_eq_false h2] at hb
    have e:idxN 2 a b s = -1:=by simp [idxN,h1,h2]
    have e2:delN 2 a b s=(2,a,b):=by simp [delN,h1,h2]
    rw [e] at hi
    rw [e2]
    refine wk ?_
    exact RetH.mk rfl (Weak.refl _) ⟨⟨_,rfl,WeakL.refl _⟩,trivial⟩ trivial
theorem hc_del (id n:Nat) (a b s:Int) (h:n≤2):HCalls Tryd.prog 42 [.msl id 0 n 1, .fn 43 [.ep [pint s] 0]] [(id,[pint a,pint b])] [] (.msl id 0 (delN n a b s).1 1) [(id,[pint (delN n a b s).2.1,pint (delN n a b s).2.2])] []:=by
 have hlo:∀a b:Int,∀c ∈ [pint a,pint b],Low c:=by intro a b c hc;simp only [List.mem_cons,List.not_mem_nil,or_false] at hc;rcases hc with rfl|rfl<;>exact .val _
 have hfn:Low (.fn 43 [.ep [pint s] 0]):=.fn _ _ (fun c hc=>by rw [List.mem_singleton] at hc;subst hc;exact .ep _ _ (fun c hc=>by rw [List.mem_singleton] at hc;subst hc;exact .val _))
 exact (hc_del1 n a b s h).at [(1000001,id)] (by simp) (by simp [ResIds]) (by simp) (by simp) (.cons (.msl _ _ _ _ (by simp [ResIds])) (.cons (.low _ hfn) .nil)) (RenB.cons _ _ _ _ _ (RenL.low (hlo _ _)) RenB.nil) RenMs.nil (.msl _ _ _ _ (by simp [ResIds])) (RenB.cons _ _ _ _ _ (RenL.low (hlo _ _)) RenB.nil) RenMs.nil
end
end Go.Proofs.YtmeekbjhpidcgaaDoor
