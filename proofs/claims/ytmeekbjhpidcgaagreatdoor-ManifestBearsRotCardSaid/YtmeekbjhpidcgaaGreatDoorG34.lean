/- Out of: Za. -/
import Derived.Test.YtmeekbjhpidcgaaGreatDoorG32
namespace Go.Proofs.YtmeekbjhpidcgaaGreatDoor
set_option linter.unusedSimpArgs false
set_option linter.unusedVariables false
set_option linter.unnecessarySimpa false
section
open Go.RowKit
variable {P:Program} {T:Tab} {ops:Array Oper} {base:Nat} {ok:Nat→Nat→Bool} {i:Nat} {o:Oper} {rest:List (Nat×Oper)} {K:PS→Prop} {σ:PS}
theorem PWops.callV {c:Call} {x:Operand} {d:Nat} {f:FuncId} {caps args:List PV} {r:PV} (hf:Nat.blt f 1000000=true) (hp:PCalls P f args (· = r)) (hg:pguard ops σ o=some true) (hd:o.dst=some d) (hop:o.op = .call c) (hcal:c.callee = .value x) (hx:pev σ x = .fn f caps) (hargs:c.args.toList.map (pev σ) ++ caps=args)
  (k:PWops P T ops base ok rest K (σ.put d r)):PWops P T ops base ok ((i,o) :: rest) K σ:=by
 refine PWops.call hg hd ?_ hp k
 unfold pcall
 rw [hop]
 simp only [hcal,hx,hf,cond_true,hargs]
end
section
open Go.RowKit
def idxF {α:Type} (p:α→Bool) (l:List α):Int:=match l.findIdx? p with
 |some i=>i
 |none => -1
theorem idxF_ge {α:Type} (p:α→Bool) (l:List α):decide (0≤idxF p l)=l.any p:=by
 unfold idxF
 cases h:l.findIdx? p with
 |none=>
  have:l.any p=false:=by
   rw [List.findIdx?_eq_none_iff] at h
   rw [List.any_eq_false]
   intro x hx
   simp [h x hx]
  rw [this];rfl
 |some i=>
  have:l.any p=true:=by
   obtain ⟨hi,h1,-⟩:=List.findIdx?_eq_some_iff_getElem.1 h
   rw [List.any_eq_true]
   exact ⟨l[i],List.getElem_mem hi,h1⟩
  rw [this];simp
theorem idxF_here {α:Type} {p:α→Bool} {l:List α} {k:Nat} (d:α) (hk:k < l.length) (hp:p (l.getD k d)=true) (hn:∀j,j < k→p (l.getD j d)=false):idxF p l=k:=by
 have:l.findIdx? p=some k:=by
  rw [List.findIdx?_eq_some_iff_getElem]
  refine ⟨hk,by simpa [List.getD_eq_getElem?_getD,hk] using hp,fun j hj=>?_⟩
  have:=hn j hj
  have hj' : j < l.length:=by omega
  simp [List.getD_eq_getElem?_getD,hj'] at this
  simp [this]
 unfold idxF
 rw [this]
theorem idxF_none {α:Type} {p:α→Bool} {l:List α} (d:α) (hn:∀j,j < l.length→p (l.getD j d)=false):idxF p l = -1:=by
 have:l.findIdx? p=none:=by
  rw [List.findIdx?_eq_none_iff]
  intro x hx
  obtain ⟨j,hj,rfl⟩:=List.getElem_of_mem hx
  have:=hn j hj
  simpa [List.getD_eq_getElem?_getD,hj] using this
 unfold idxF
 rw [this]
instance:Inhabited PEntry:=⟨⟨0,0,0,0,0,0,0,[],[]⟩⟩
instance:Inhabited PDef:=⟨⟨ByteArray.empty,0,0,0,[]⟩⟩
instance:Inhabited PAttr:=⟨⟨ByteArray.empty,0,0,ByteArray.empty⟩⟩
set_option maxRecDepth 10000 in
set_option maxHeartbeats 1000000 in
theorem pw_idxI (f:Nat) (caps:List PV) (p:Int→Bool) (l:List (Int)) (hf:Nat.blt f 1000000=true) (hl:l.length≤1000000000000) (hlow:∀c∈caps,Low c) (hp:∀k,k < l.length→PCalls Tryz.prog f (pint (l.getD k default) :: caps) (· = pbool (p (l.getD k default)))):PCalls Tryz.prog 90 [pints l, .fn f caps] (· = pint (idxF p l)):=by
 have hlow1:Low (.fn f caps):=.fn f caps hlow
 have hlow2:Low (pints l):=(low_pints l).2 trivial
 refine pcalls_of_pw typeTab_ok Tryz.func90 rfl (by kernel_rfl) (by simp [hlow2,hlow1]) (by simp [pints,PV.ownB]) (by rw [Tryz.ntmps90];simp) ?_
 rw [Tryz.ntmps90,Tryz.results90]
 refine wk ?_
 refine PW.loop (fun k:Nat=>((((bot.put 0 (pints l)).put 1 (.fn f caps)).put 7 (pint l.length)).put 8 (pint k))) (fun k=>k≤l.length∧∀j,j < k→p (l.getD j default)=false) (fun k=>l.length - k) 0 ⟨by omega,by simp⟩ ?_ ?_
 ·exact sb
 ·rintro k ⟨hk,hn⟩
  by_cases hlt:k < l.length
  ·refine wk ?_
   refine PWops.callV hf (hp k hlt) rfl rfl rfl rfl rfl rfl ?_
   cases hpk:p (l.getD k default) with
   |true=>
    refine wk ?_
    refine retP rfl (by exact lw) ?_
    rw [idxF_here default hlt hpk hn];rfl
   |false=>
    refine wk ?_
    refine loopP (k+1) ⟨by omega,fun j hj=>?_⟩ (by omega) ?_
    ·by_cases h:j=k
     ·rw [h];exact hpk
     ·exact hn j (by omega)
    ·exact sb
  ·refine wk ?_
   refine retP rfl (by exact lw) ?_
   rw [idxF_none default (fun j hj=>hn j (by omega))];rfl
set_option maxRecDepth 10000 in
theorem pw_anyI (f:Nat) (caps:List PV) (p:Int→Bool) (l:List (Int)) (hf:Nat.blt f 1000000=true) (hl:l.length≤1000000000000) (hlow:∀c∈caps,Low c) (hp:∀k,k < l.length→PCalls Tryz.prog f (pint (l.getD k default) :: caps) (· = pbool (p (l.getD k default)))):PCalls Tryz.prog 64 [pints l, .fn f caps] (· = pbool (l.any p)):=by
 have hlow1:Low (.fn f caps):=.fn f caps hlow
 have hlow2:Low (pints l):=(low_pints l).2 trivial
 have h:=pw_idxI f caps p l hf hl hlow hp
 refine pcalls_of_pw typeTab_ok Tryz.func64 rfl (by kernel_rfl) (by simp [hlow2,hlow1]) (by simp [pints,PV.ownB]) (by rw [Tryz.ntmps64];simp) ?_
 rw [Tryz.ntmps64,Tryz.results64]
 refine wk ?_
 refine PWops.boolS rfl rfl rfl rfl rfl ?_ ?_
 ·intro hsp
  refine wk ?_
  refine retP rfl (by exact lw) ?_
  rw [←idxF_ge,hsp];rfl
 ·intro hsp
  refine wk ?_
  refine retP rfl (by exact lw) ?_
  rw [←idxF_ge,hsp];rfl
end
end Go.Proofs.YtmeekbjhpidcgaaGreatDoor
