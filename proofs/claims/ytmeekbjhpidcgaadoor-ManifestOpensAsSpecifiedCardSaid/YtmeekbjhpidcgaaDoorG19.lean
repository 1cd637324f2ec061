/- Out of: Ha. -/
import Derived.Test.YtmeekbjhpidcgaaDoorG15
namespace Go.Proofs.YtmeekbjhpidcgaaDoor
set_option linter.unusedSimpArgs false
set_option linter.unusedVariables false
set_option linter.unnecessarySimpa false
section
open Go.RowKit
def addU (a b:Int):Int:=IntKind.u32.wrap (a+b)
def xorU (a b:Int):Int:=IntKind.u32.wrap (BitVec.ofInt IntKind.u32.bits a ^^^ BitVec.ofInt IntKind.u32.bits b).toNat
def andU (a b:Int):Int:=IntKind.u32.wrap (BitVec.ofInt IntKind.u32.bits a &&& BitVec.ofInt IntKind.u32.bits b).toNat
def orU (a b:Int):Int:=IntKind.u32.wrap (BitVec.ofInt IntKind.u32.bits a ||| BitVec.ofInt IntKind.u32.bits b).toNat
def shlU (a:Int) (n:Nat):Int:=IntKind.u32.wrap (a * 2 ^ n)
def shrU (a:Int) (n:Nat):Int:=a.fdiv (2 ^ n)
def notU (a:Int):Int:=IntKind.u32.wrap (BitVec.ofInt IntKind.u32.bits 4294967295 ^^^ BitVec.ofInt IntKind.u32.bits a).toNat
def rotI (x:Int) (r:Nat):Int:=orU (shlU x (32 - r)) (shrU x r)
set_option maxRecDepth 10000 in
set_option maxHeartbeats 1000000 in
theorem pw_rotl (x:Int) (r:Nat) (hr:r ∈ [2,6,7,11,13,17,18,19,22,25]):PCalls Tryd.prog 99 [pu32 x,pint (-(r:Int))] (· = pu32 (rotI x r)):=by
 refine pcalls_of_pw typeTab_ok Tryd.func99 rfl (by kernel_rfl) (by exact lw) (by simp [pu32,pint,PV.ownB]) (Nat.le_of_ble_eq_true rfl) ?_
 simp only [List.mem_cons,List.not_mem_nil,or_false] at hr
 rcases hr with rfl|rfl|rfl|rfl|rfl|rfl|rfl|rfl|rfl|rfl
 all_goals
  refine wk ?_
  refine retP rfl (by exact lw) rfl
def mixI (x:Int) (i j k:Nat):Int:=xorU (xorU (rotI x i) (rotI x j)) (rotI x k)
set_option maxRecDepth 10000 in
set_option maxHeartbeats 1000000 in
theorem pw_mixA (x:Int):PCalls Tryd.prog 93 [pu32 x,pint 6,pint 11,pint 25] (· = pu32 (mixI x 6 11 25)):=by
 refine pcalls_of_pw typeTab_ok Tryd.func93 rfl (by kernel_rfl) (by exact lw) (by simp [pu32,pint,PV.ownB]) (Nat.le_of_ble_eq_true rfl) ?_
 have r1:=pw_rotl x 6 (by simp)
 have r2:=pw_rotl x 11 (by simp)
 have r3:=pw_rotl x 25 (by simp)
 refine wk ?_
 refine retP rfl (by exact lw) rfl
set_option maxRecDepth 10000 in
set_option maxHeartbeats 1000000 in
theorem pw_mixB (x:Int):PCalls Tryd.prog 93 [pu32 x,pint 2,pint 13,pint 22] (· = pu32 (mixI x 2 13 22)):=by
 refine pcalls_of_pw typeTab_ok Tryd.func93 rfl (by kernel_rfl) (by exact lw) (by simp [pu32,pint,PV.ownB]) (Nat.le_of_ble_eq_true rfl) ?_
 have r1:=pw_rotl x 2 (by simp)
 have r2:=pw_rotl x 13 (by simp)
 have r3:=pw_rotl x 22 (by simp)
 refine wk ?_
 refine retP rfl (by exact lw) rfl
def beI (l:List Int):Int:=l.foldl (fun a x=>orU (shlU a 8) (IntKind.u32.wrap x)) 0
def sigI (x:Int) (i j k:Nat):Int:=xorU (xorU (rotI x i) (rotI x j)) (shrU x k)
def schV (W:List Int) (t:Nat):Int:=addU (addU (addU (W.getD (t - 16) 0) (sigI (W.getD (t - 15) 0) 7 18 3)) (W.getD (t - 7) 0)) (sigI (W.getD (t - 2) 0) 17 19 10)
def schW (b:List Int):Nat→List Int
 |0=>List.replicate 64 0
 |t+1=>(schW b t).set t (if t < 16 then beI ((b.drop (4 * t)).take 4) else schV (schW b t) t)
theorem schW_len (b:List Int):∀t,(schW b t).length=64
 |0=>by simp [schW]
 |t+1=>by rw [schW,List.length_set,schW_len b t]
def schI (W C:List Int) (t j:Nat):List Int:=W.set t (beI (C.take j))
theorem hgetD_set {l:List Int} {t:Nat} {x d:Int} (h:t < l.length):(l.set t x).getD t d=x:=by
 rw [List.getD_eq_getElem?_getD,List.getElem?_set_self h];rfl
theorem beI_succ {C:List Int} {j:Nat} (h:j < C.length):beI (C.take (j+1))=orU (shlU (beI (C.take j)) 8) (IntKind.u32.wrap (C.getD j default)):=by
 rw [take_getD default h,beI,List.foldl_append];rfl
theorem schI_succ {W C:List Int} {t j:Nat} (ht:t < W.length) (h:j < C.length):schI W C t (j+1)=(schI W C t j).set t (orU (shlU ((schI W C t j).getD t default) 8) (IntKind.u32.wrap (C.getD j default))):=by
 rw [schI,schI,hgetD_set ht,List.set_set,beI_succ h]
theorem schI_zero {W:List Int} (C:List Int) {t:Nat} (h:W[t]? = some 0):W=schI W C t 0:=by
 rw [schI,List.take_zero]
 show W=W.set t 0
 apply List.ext_getElem?
 intro i
 rw [List.getElem?_set]
 split
 ·subst i;rw [h];have:=(List.getElem?_eq_some_iff.1 h).1;simp [this]
 ·rfl
theorem schW_zero (b:List Int):∀t k,t≤k→k < 64→(schW b t)[k]? = some 0
 |0,k,_,h=>by rw [schW,List.getElem?_replicate];simp [h]
 |t+1,k,h1,h2=>by rw [schW,List.getElem?_set,if_neg (by omega)];exact schW_zero b t k (by omega) h2
set_option maxRecDepth 10000 in
set_option maxHeartbeats 2000000 in
theorem pw_schedule (b:List Int) (hb:b.length=64):PCalls Tryd.prog 92 [pbytes b] (· = .agg ((schW b 64).map pu32)):=by
 refine pcalls_of_pw typeTab_ok Tryd.func92 rfl (by kernel_rfl) (by exact lw) (by simp [pbytes,PV.ownB]) (Nat.le_of_ble_eq_true rfl) ?_
 refine wk ?_
 refine PW.loop (fun t:Nat=>(((((bot.setb 0 (List.replicate 64 (pu32 0))).put 2 (.ptr 0 0)).setb 1000 ((schW b t).map pu32)).put 3 (.ptr 1000 0)).put 0 (pbytes b)).put 11 (pint t)) (fun t=>t≤64) (fun t=>64 - t) 0 (by omega) ?_ ?_
 ·exact sb
 ·intro t ht
  have hl:=schW_len b t
  by_cases h64:t < 64
  ·by_cases h16:t < 16
   ·obtain ⟨C,hC⟩:∃C,C=(b.drop (4 * t)).take 4:=⟨_,rfl⟩
    have hCl:C.length=4:=by rw [hC,List.length_take,List.length_drop];omega
    refine wk ?_
    rw [show List.take ((4 * (t:Int)+4).toNat - (4 * (t:Int)).toNat) (List.drop (4 * (t:Int)).toNat b)=C by
     rw [hC];congr 1<;>omega]
    have h0:(schI (schW b t) C t 0).map pu32=(schW b t).map pu32:=by rw [←schI_zero C (schW_zero b t t (Nat.le_refl _) h64)]
    refine PW.loop (fun j:Nat=>((((((((bot.setb 0 (List.replicate 64 (pu32 0))).put 2 (.ptr 0 0)).setb 1000 ((schI (schW b t) C t j).map pu32)).put 3 (.ptr 1000 0)).put 0 (pbytes b)).put 11 (pint t)).put 4 (pint t)).put 22 (pbytes C)).put 23 (pint C.length) |>.put 24 (pint j)) (fun j=>j≤4) (fun j=>4 - j) 0 (by omega) ?_ ?_
    ·exact sb
    ·intro j hj
     have hl2:(schI (schW b t) C t j).length=64:=by rw [schI,List.length_set,hl]
     by_cases h4:j < 4
     ·have hS:(schI (schW b t) C t (j+1)).map pu32=((schI (schW b t) C t j).set t (orU (shlU ((schI (schW b t) C t j).getD t default) 8) (IntKind.u32.wrap (C.getD j default)))).map pu32:=by rw [schI_succ (by omega) (by omega)]
      refine wk ?_
      refine loopP (j+1) (by omega) (by omega) ?_
      exact sb
     ·have e:j=4:=by omega
      subst e
      have hS:(schW b (t+1)).map pu32=(schI (schW b t) C t 4).map pu32:=by
       rw [schW,if_pos h16,schI,←hC,List.take_of_length_le (by omega)]
      generalize schI (schW b t) C t 4=W4 at *
      refine wk ?_
      refine loopP (t+1) (by omega) (by omega) ?_
      exact sb
   ·have r1:=pw_rotl ((schW b t).getD ((t:Int) - 15).toNat default) 7 (by simp)
    have r2:=pw_rotl ((schW b t).getD ((t:Int) - 15).toNat default) 18 (by simp)
    have r3:=pw_rotl ((schW b t).getD ((t:Int) - 2).toNat default) 17 (by simp)
    have r4:=pw_rotl ((schW b t).getD ((t:Int) - 2).toNat default) 19 (by simp)
    have hS:(schW b (t+1)).map pu32=((schW b t).set (t:Int).toNat (addU (addU (addU ((schW b t).getD ((t:Int) - 16).toNat default) (sigI ((schW b t).getD ((t:Int) - 15).toNat default) 7 18 3)) ((schW b t).getD ((t:Int) - 7).toNat default)) (sigI ((schW b t).getD ((t:Int) - 2).toNat default) 17 19 10))).map pu32:=by
     rw [schW,if_neg h16,schV,show ((t:Int) - 16).toNat=t - 16 by omega,show ((t:Int) - 15).toNat=t - 15 by omega,show ((t:Int) - 7).toNat=t - 7 by omega,show ((t:Int) - 2).toNat=t - 2 by omega];rfl
    refine wk ?_
    refine loopP (t+1) (by omega) (by omega) ?_
    exact sb
  ·have e:t=64:=by omega
   subst e
   generalize schW b 64=W at *
   refine wk ?_
   exact ⟨_,presult1 (pres_cell rfl rfl rfl (len_map hl) (bare_map (fun _=>rfl) _)),by exact lw,rfl⟩
end
end Go.Proofs.YtmeekbjhpidcgaaDoor
