/- Out of: Za, Zb. -/
import Derived.Test.YtoamkpgaaanafaaGreatM17
namespace Go.Proofs.YtoamkpgaaanafaaGreat
set_option linter.unusedSimpArgs false
set_option linter.unusedVariables false
set_option linter.unnecessarySimpa false
section
open Go.RowKit
variable {P:Program} {T:Tab} {ops:Array Oper} {base:Nat} {ok:Nat→Nat→Bool} {i:Nat} {o:Oper} {rest:List (Nat×Oper)} {K:PS→Prop} {σ:PS}
theorem PWops.callV {c:Call} {x:Operand} {d:Nat} {f:FuncId} {caps args:List PV} {r:PV} (hf:Nat.blt f 1000000=true) (hp:PCalls P f args (· = r)) (hg:pguard ops σ o=some true) (hd:o.dst=some d) (hop:o.op = .call c) (hcal:c.callee = .value x) (hx:pev σ x = .fn f caps) (hargs:c.args.toList.map (pev σ) ++ caps=args)
  (k:PWops P T ops base ok rest K (σ.put d r)):PWops P T ops base ok ((i,o) :: rest) K σ:=by
 refine PWops.call hg hd ?_ hp k
 unfold pcall
 rw [hop]
 simp only [hcal,hx,hf,cond_true,hargs]
end
section
open Go.RowKit
def idxF {α:Type} (p:α→Bool) (l:List α):Int:=match l.findIdx? p with
 |some i=>i
 |none => -1
theorem idxF_ge {α:Type} (p:α→Bool) (l:List α):decide (0≤idxF p l)=l.any p:=by
 unfold idxF
 cases h:l.findIdx? p with
 |none=>
  have:l.any p=false:=by
   rw [List.findIdx?_eq_none_iff] at h
   rw [List.any_eq_false]
   intro x hx
   simp [h x hx]
  rw [this];rfl
 |some i=>
  have:l.any p=true:=by
   obtain ⟨hi,h1,-⟩:=List.findIdx?_eq_some_iff_getElem.1 h
   rw [List.any_eq_true]
   exact ⟨l[i],List.getElem_mem hi,h1⟩
  rw [this];simp
theorem idxF_here {α:Type} {p:α→Bool} {l:List α} {k:Nat} (d:α) (hk:k < l.length) (hp:p (l.getD k d)=true) (hn:∀j,j < k→p (l.getD j d)=false):idxF p l=k:=by
 have:l.findIdx? p=some k:=by
  rw [List.findIdx?_eq_some_iff_getElem]
  refine ⟨hk,by simpa [List.getD_eq_getElem?_getD,hk] using hp,fun j hj=>?_⟩
  have:=hn j hj
  have hj' : j < l.length:=by omega
  simp [List.getD_eq_getElem?_getD,hj'] at this
  simp [this]
 unfold idxF
 rw [this]
theorem idxF_none {α:Type} {p:α→Bool} {l:List α} (d:α) (hn:∀j,j < l.length→p (l.getD j d)=false):idxF p l = -1:=by
 have:l.findIdx? p=none:=by
  rw [List.findIdx?_eq_none_iff]
  intro x hx
  obtain ⟨j,hj,rfl⟩:=List.getElem_of_mem hx
  have:=hn j hj
  simpa [List.getD_eq_getElem?_getD,hj] using this
 unfold idxF
 rw [this]
instance:Inhabited PEntry:=⟨⟨0,0,0,0,0,0,0,[],[]⟩⟩
instance:Inhabited PDef:=⟨⟨ByteArray.empty,0,0,0,[]⟩⟩
instance:Inhabited PAttr:=⟨⟨ByteArray.empty,0,0,ByteArray.empty⟩⟩
def pvecs (l:List (List Int)):PV:=.sl l.length 1 (l.map pints) none
theorem low_pvecs (l:List (List Int)):Low (pvecs l)↔True:=by
 simp only [pvecs,low_sl,iff_true]
 intro c hc
 obtain ⟨z,-,rfl⟩:=List.mem_map.1 hc
 exact (low_pints z).2 trivial
def pentries (l:List PEntry):PV:=.sl l.length 9 (l.flatMap entCellsP) none
theorem low_pentries (l:List PEntry):Low (pentries l)↔True:=by
 simp only [pentries,low_sl,iff_true]
 intro c hc
 obtain ⟨z,-,hz⟩:=List.mem_flatMap.1 hc
 exact low_entCells z c hz
structure PTruth where
 yes:Bool
 no:Bool
 deriving Inhabited,DecidableEq
def truthL (t:PTruth):List PV := [pbool t.yes,pbool t.no]
def ptruth (t:PTruth):PV:=.agg (truthL t)
def ptruths (l:List PTruth):PV:=.sl l.length 2 (l.flatMap truthL) none
theorem low_ptruths (l:List PTruth):Low (ptruths l)↔True:=by
 simp only [ptruths,low_sl,iff_true]
 intro c hc
 obtain ⟨z,-,hz⟩:=List.mem_flatMap.1 hc
 simp only [truthL,List.mem_cons,List.not_mem_nil,or_false] at hz
 rcases hz with rfl|rfl<;>exact .val _
set_option maxRecDepth 10000 in
set_option maxHeartbeats 1000000 in
theorem pw_idxI (f:Nat) (caps:List PV) (p:Int→Bool) (l:List (Int)) (hf:Nat.blt f 1000000=true) (hl:l.length≤1000000000000) (hlow:∀c∈caps,Low c) (hp:∀k,k < l.length→PCalls Tryz.prog f (pint (l.getD k default) :: caps) (· = pbool (p (l.getD k default)))):PCalls Tryz.prog 255 [pints l, .fn f caps] (· = pint (idxF p l)):=by
 have hlow1:Low (.fn f caps):=.fn f caps hlow
 have hlow2:Low (pints l):=(low_pints l).2 trivial
 refine pcalls_of_pw typeTab_ok Tryz.func255 rfl (by kernel_rfl) (by simp [hlow2,hlow1]) (by simp [pints,PV.ownB]) (by rw [Tryz.ntmps255];simp) ?_
 rw [Tryz.ntmps255,Tryz.results255]
 refine wk ?_
 refine PW.loop (fun k:Nat=>((((bot.put 0 (pints l)).put 1 (.fn f caps)).put 7 (pint l.length)).put 8 (pint k))) (fun k=>k≤l.length∧∀j,j < k→p (l.getD j default)=false) (fun k=>l.length - k) 0 ⟨by omega,by simp⟩ ?_ ?_
 ·exact sb
 ·rintro k ⟨hk,hn⟩
  by_cases hlt:k < l.length
  ·refine wk ?_
   refine PWops.callV hf (hp k hlt) rfl rfl rfl rfl rfl rfl ?_
   cases hpk:p (l.getD k default) with
   |true=>
    refine wk ?_
    refine retP rfl (by exact lw) ?_
    rw [idxF_here default hlt hpk hn];rfl
   |false=>
    refine wk ?_
    refine loopP (k+1) ⟨by omega,fun j hj=>?_⟩ (by omega) ?_
    ·by_cases h:j=k
     ·rw [h];exact hpk
     ·exact hn j (by omega)
    ·exact sb
  ·refine wk ?_
   refine retP rfl (by exact lw) ?_
   rw [idxF_none default (fun j hj=>hn j (by omega))];rfl
set_option maxRecDepth 10000 in
theorem pw_anyI (f:Nat) (caps:List PV) (p:Int→Bool) (l:List (Int)) (hf:Nat.blt f 1000000=true) (hl:l.length≤1000000000000) (hlow:∀c∈caps,Low c) (hp:∀k,k < l.length→PCalls Tryz.prog f (pint (l.getD k default) :: caps) (· = pbool (p (l.getD k default)))):PCalls Tryz.prog 226 [pints l, .fn f caps] (· = pbool (l.any p)):=by
 have hlow1:Low (.fn f caps):=.fn f caps hlow
 have hlow2:Low (pints l):=(low_pints l).2 trivial
 have h:=pw_idxI f caps p l hf hl hlow hp
 refine pcalls_of_pw typeTab_ok Tryz.func226 rfl (by kernel_rfl) (by simp [hlow2,hlow1]) (by simp [pints,PV.ownB]) (by rw [Tryz.ntmps226];simp) ?_
 rw [Tryz.ntmps226,Tryz.results226]
 refine wk ?_
 refine PWops.boolS rfl rfl rfl rfl rfl ?_ ?_
 ·intro hsp
  refine wk ?_
  refine retP rfl (by exact lw) ?_
  rw [←idxF_ge,hsp];rfl
 ·intro hsp
  refine wk ?_
  refine retP rfl (by exact lw) ?_
  rw [←idxF_ge,hsp];rfl
set_option maxRecDepth 10000 in
set_option maxHeartbeats 1000000 in
theorem pw_idxV (f:Nat) (caps:List PV) (p:List Int→Bool) (l:List (List Int)) (hf:Nat.blt f 1000000=true) (hl:l.length≤1000000000000) (hlow:∀c∈caps,Low c) (hp:∀k,k < l.length→PCalls Tryz.prog f (pints (l.getD k default) :: caps) (· = pbool (p (l.getD k default)))):PCalls Tryz.prog 133 [pvecs l, .fn f caps] (· = pint (idxF p l)):=by
 have hlow1:Low (.fn f caps):=.fn f caps hlow
 have hlow2:Low (pvecs l):=(low_pvecs l).2 trivial
 refine pcalls_of_pw typeTab_ok Tryz.func133 rfl (by kernel_rfl) (by simp [hlow2,hlow1]) (by simp [pvecs,PV.ownB]) (by rw [Tryz.ntmps133];simp) ?_
 rw [Tryz.ntmps133,Tryz.results133]
 refine wk ?_
 refine PW.loop (fun k:Nat=>((((bot.put 0 (pvecs l)).put 1 (.fn f caps)).put 7 (pint l.length)).put 8 (pint k))) (fun k=>k≤l.length∧∀j,j < k→p (l.getD j default)=false) (fun k=>l.length - k) 0 ⟨by omega,by simp⟩ ?_ ?_
 ·exact sb
 ·rintro k ⟨hk,hn⟩
  by_cases hlt:k < l.length
  ·refine wk ?_
   refine PWops.callV hf (hp k hlt) rfl rfl rfl rfl rfl rfl ?_
   cases hpk:p (l.getD k default) with
   |true=>
    refine wk ?_
    refine retP rfl (by exact lw) ?_
    rw [idxF_here default hlt hpk hn];rfl
   |false=>
    refine wk ?_
    refine loopP (k+1) ⟨by omega,fun j hj=>?_⟩ (by omega) ?_
    ·by_cases h:j=k
     ·rw [h];exact hpk
     ·exact hn j (by omega)
    ·exact sb
  ·refine wk ?_
   refine retP rfl (by exact lw) ?_
   rw [idxF_none default (fun j hj=>hn j (by omega))];rfl
set_option maxRecDepth 10000 in
theorem pw_anyV (f:Nat) (caps:List PV) (p:List Int→Bool) (l:List (List Int)) (hf:Nat.blt f 1000000=true) (hl:l.length≤1000000000000) (hlow:∀c∈caps,Low c) (hp:∀k,k < l.length→PCalls Tryz.prog f (pints (l.getD k default) :: caps) (· = pbool (p (l.getD k default)))):PCalls Tryz.prog 55 [pvecs l, .fn f caps] (· = pbool (l.any p)):=by
 have hlow1:Low (.fn f caps):=.fn f caps hlow
 have hlow2:Low (pvecs l):=(low_pvecs l).2 trivial
 have h:=pw_idxV f caps p l hf hl hlow hp
 refine pcalls_of_pw typeTab_ok Tryz.func55 rfl (by kernel_rfl) (by simp [hlow2,hlow1]) (by simp [pvecs,PV.ownB]) (by rw [Tryz.ntmps55];simp) ?_
 rw [Tryz.ntmps55,Tryz.results55]
 refine wk ?_
 refine PWops.boolS rfl rfl rfl rfl rfl ?_ ?_
 ·intro hsp
  refine wk ?_
  refine retP rfl (by exact lw) ?_
  rw [←idxF_ge,hsp];rfl
 ·intro hsp
  refine wk ?_
  refine retP rfl (by exact lw) ?_
  rw [←idxF_ge,hsp];rfl
set_option maxRecDepth 10000 in
set_option maxHeartbeats 1000000 in
theorem pw_idxE (f:Nat) (caps:List PV) (p:PEntry→Bool) (l:List (PEntry)) (hf:Nat.blt f 1000000=true) (hl:l.length≤1000000000000) (hlow:∀c∈caps,Low c) (hp:∀k,k < l.length→PCalls Tryz.prog f (pentry (l.getD k default) :: caps) (· = pbool (p (l.getD k default)))):PCalls Tryz.prog 134 [pentries l, .fn f caps] (· = pint (idxF p l)):=by
 have hlow1:Low (.fn f caps):=.fn f caps hlow
 have hlow2:Low (pentries l):=(low_pentries l).2 trivial
 refine pcalls_of_pw typeTab_ok Tryz.func134 rfl (by kernel_rfl) (by simp [hlow2,hlow1]) (by simp [pentries,PV.ownB]) (by rw [Tryz.ntmps134];simp) ?_
 rw [Tryz.ntmps134,Tryz.results134]
 refine wk ?_
 refine PW.loop (fun k:Nat=>((((bot.put 0 (pentries l)).put 1 (.fn f caps)).put 7 (pint l.length)).put 8 (pint k))) (fun k=>k≤l.length∧∀j,j < k→p (l.getD j default)=false) (fun k=>l.length - k) 0 ⟨by omega,by simp⟩ ?_ ?_
 ·exact sb
 ·rintro k ⟨hk,hn⟩
  by_cases hlt:k < l.length
  ·refine wk ?_
   refine PWops.callV hf (hp k hlt) rfl rfl rfl rfl rfl rfl ?_
   cases hpk:p (l.getD k default) with
   |true=>
    refine wk ?_
    refine retP rfl (by exact lw) ?_
    rw [idxF_here default hlt hpk hn];rfl
   |false=>
    refine wk ?_
    refine loopP (k+1) ⟨by omega,fun j hj=>?_⟩ (by omega) ?_
    ·by_cases h:j=k
     ·rw [h];exact hpk
     ·exact hn j (by omega)
    ·exact sb
  ·refine wk ?_
   refine retP rfl (by exact lw) ?_
   rw [idxF_none default (fun j hj=>hn j (by omega))];rfl
set_option maxRecDepth 10000 in
theorem pw_anyE (f:Nat) (caps:List PV) (p:PEntry→Bool) (l:List (PEntry)) (hf:Nat.blt f 1000000=true) (hl:l.length≤1000000000000) (hlow:∀c∈caps,Low c) (hp:∀k,k < l.length→PCalls Tryz.prog f (pentry (l.getD k default) :: caps) (· = pbool (p (l.getD k default)))):PCalls Tryz.prog 56 [pentries l, .fn f caps] (· = pbool (l.any p)):=by
 have hlow1:Low (.fn f caps):=.fn f caps hlow
 have hlow2:Low (pentries l):=(low_pentries l).2 trivial
 have h:=pw_idxE f caps p l hf hl hlow hp
 refine pcalls_of_pw typeTab_ok Tryz.func56 rfl (by kernel_rfl) (by simp [hlow2,hlow1]) (by simp [pentries,PV.ownB]) (by rw [Tryz.ntmps56];simp) ?_
 rw [Tryz.ntmps56,Tryz.results56]
 refine wk ?_
 refine PWops.boolS rfl rfl rfl rfl rfl ?_ ?_
 ·intro hsp
  refine wk ?_
  refine retP rfl (by exact lw) ?_
  rw [←idxF_ge,hsp];rfl
 ·intro hsp
  refine wk ?_
  refine retP rfl (by exact lw) ?_
  rw [←idxF_ge,hsp];rfl
set_option maxRecDepth 10000 in
set_option maxHeartbeats 1000000 in
theorem pw_idxS (f:Nat) (caps:List PV) (p:ByteArray→Bool) (l:List (ByteArray)) (hf:Nat.blt f 1000000=true) (hl:l.length≤1000000000000) (hlow:∀c∈caps,Low c) (hp:∀k,k < l.length→PCalls Tryz.prog f (pstr (l.getD k default) :: caps) (· = pbool (p (l.getD k default)))):PCalls Tryz.prog 185 [pstrs l, .fn f caps] (· = pint (idxF p l)):=by
 have hlow1:Low (.fn f caps):=.fn f caps hlow
 have hlow2:Low (pstrs l):=(low_pstrs l).2 trivial
 refine pcalls_of_pw typeTab_ok Tryz.func185 rfl (by kernel_rfl) (by simp [hlow2,hlow1]) (by simp [pstrs,PV.ownB]) (by rw [Tryz.ntmps185];simp) ?_
 rw [Tryz.ntmps185,Tryz.results185]
 refine wk ?_
 refine PW.loop (fun k:Nat=>((((bot.put 0 (pstrs l)).put 1 (.fn f caps)).put 7 (pint l.length)).put 8 (pint k))) (fun k=>k≤l.length∧∀j,j < k→p (l.getD j default)=false) (fun k=>l.length - k) 0 ⟨by omega,by simp⟩ ?_ ?_
 ·exact sb
 ·rintro k ⟨hk,hn⟩
  by_cases hlt:k < l.length
  ·refine wk ?_
   refine PWops.callV hf (hp k hlt) rfl rfl rfl rfl rfl rfl ?_
   cases hpk:p (l.getD k default) with
   |true=>
    refine wk ?_
    refine retP rfl (by exact lw) ?_
    rw [idxF_here default hlt hpk hn];rfl
   |false=>
    refine wk ?_
    refine loopP (k+1) ⟨by omega,fun j hj=>?_⟩ (by omega) ?_
    ·by_cases h:j=k
     ·rw [h];exact hpk
     ·exact hn j (by omega)
    ·exact sb
  ·refine wk ?_
   refine retP rfl (by exact lw) ?_
   rw [idxF_none default (fun j hj=>hn j (by omega))];rfl
set_option maxRecDepth 10000 in
theorem pw_anyS (f:Nat) (caps:List PV) (p:ByteArray→Bool) (l:List (ByteArray)) (hf:Nat.blt f 1000000=true) (hl:l.length≤1000000000000) (hlow:∀c∈caps,Low c) (hp:∀k,k < l.length→PCalls Tryz.prog f (pstr (l.getD k default) :: caps) (· = pbool (p (l.getD k default)))):PCalls Tryz.prog 104 [pstrs l, .fn f caps] (· = pbool (l.any p)):=by
 have hlow1:Low (.fn f caps):=.fn f caps hlow
 have hlow2:Low (pstrs l):=(low_pstrs l).2 trivial
 have h:=pw_idxS f caps p l hf hl hlow hp
 refine pcalls_of_pw typeTab_ok Tryz.func104 rfl (by kernel_rfl) (by simp [hlow2,hlow1]) (by simp [pstrs,PV.ownB]) (by rw [Tryz.ntmps104];simp) ?_
 rw [Tryz.ntmps104,Tryz.results104]
 refine wk ?_
 refine PWops.boolS rfl rfl rfl rfl rfl ?_ ?_
 ·intro hsp
  refine wk ?_
  refine retP rfl (by exact lw) ?_
  rw [←idxF_ge,hsp];rfl
 ·intro hsp
  refine wk ?_
  refine retP rfl (by exact lw) ?_
  rw [←idxF_ge,hsp];rfl
set_option maxRecDepth 10000 in
set_option maxHeartbeats 1000000 in
theorem pw_idxT (f:Nat) (caps:List PV) (p:PTruth→Bool) (l:List (PTruth)) (hf:Nat.blt f 1000000=true) (hl:l.length≤1000000000000) (hlow:∀c∈caps,Low c) (hp:∀k,k < l.length→PCalls Tryz.prog f (ptruth (l.getD k default) :: caps) (· = pbool (p (l.getD k default)))):PCalls Tryz.prog 263 [ptruths l, .fn f caps] (· = pint (idxF p l)):=by
 have hlow1:Low (.fn f caps):=.fn f caps hlow
 have hlow2:Low (ptruths l):=(low_ptruths l).2 trivial
 refine pcalls_of_pw typeTab_ok Tryz.func263 rfl (by kernel_rfl) (by simp [hlow2,hlow1]) (by simp [ptruths,PV.ownB]) (by rw [Tryz.ntmps263];simp) ?_
 rw [Tryz.ntmps263,Tryz.results263]
 refine wk ?_
 refine PW.loop (fun k:Nat=>((((bot.put 0 (ptruths l)).put 1 (.fn f caps)).put 7 (pint l.length)).put 8 (pint k))) (fun k=>k≤l.length∧∀j,j < k→p (l.getD j default)=false) (fun k=>l.length - k) 0 ⟨by omega,by simp⟩ ?_ ?_
 ·exact sb
 ·rintro k ⟨hk,hn⟩
  by_cases hlt:k < l.length
  ·refine wk ?_
   refine PWops.callV hf (hp k hlt) rfl rfl rfl rfl rfl rfl ?_
   cases hpk:p (l.getD k default) with
   |true=>
    refine wk ?_
    refine retP rfl (by exact lw) ?_
    rw [idxF_here default hlt hpk hn];rfl
   |false=>
    refine wk ?_
    refine loopP (k+1) ⟨by omega,fun j hj=>?_⟩ (by omega) ?_
    ·by_cases h:j=k
     ·rw [h];exact hpk
     ·exact hn j (by omega)
    ·exact sb
  ·refine wk ?_
   refine retP rfl (by exact lw) ?_
   rw [idxF_none default (fun j hj=>hn j (by omega))];rfl
set_option maxRecDepth 10000 in
theorem pw_anyT (f:Nat) (caps:List PV) (p:PTruth→Bool) (l:List (PTruth)) (hf:Nat.blt f 1000000=true) (hl:l.length≤1000000000000) (hlow:∀c∈caps,Low c) (hp:∀k,k < l.length→PCalls Tryz.prog f (ptruth (l.getD k default) :: caps) (· = pbool (p (l.getD k default)))):PCalls Tryz.prog 240 [ptruths l, .fn f caps] (· = pbool (l.any p)):=by
 have hlow1:Low (.fn f caps):=.fn f caps hlow
 have hlow2:Low (ptruths l):=(low_ptruths l).2 trivial
 have h:=pw_idxT f caps p l hf hl hlow hp
 refine pcalls_of_pw typeTab_ok Tryz.func240 rfl (by kernel_rfl) (by simp [hlow2,hlow1]) (by simp [ptruths,PV.ownB]) (by rw [Tryz.ntmps240];simp) ?_
 rw [Tryz.ntmps240,Tryz.results240]
 refine wk ?_
 refine PWops.boolS rfl rfl rfl rfl rfl ?_ ?_
 ·intro hsp
  refine wk ?_
  refine retP rfl (by exact lw) ?_
  rw [←idxF_ge,hsp];rfl
 ·intro hsp
  refine wk ?_
  refine retP rfl (by exact lw) ?_
  rw [←idxF_ge,hsp];rfl
set_option maxRecDepth 10000 in
set_option maxHeartbeats 1000000 in
theorem pw_idxD (f:Nat) (caps:List PV) (p:PDef→Bool) (l:List (PDef)) (hf:Nat.blt f 1000000=true) (hl:l.length≤1000000000000) (hlow:∀c∈caps,Low c) (hp:∀k,k < l.length→PCalls Tryz.prog f (.agg (pdefL (l.getD k default)) :: caps) (· = pbool (p (l.getD k default)))):PCalls Tryz.prog 175 [pdefs l, .fn f caps] (· = pint (idxF p l)):=by
 have hlow1:Low (.fn f caps):=.fn f caps hlow
 have hlow2:Low (pdefs l):=(low_pdefs l).2 trivial
 refine pcalls_of_pw typeTab_ok Tryz.func175 rfl (by kernel_rfl) (by simp [hlow2,hlow1]) (by simp [pdefs,PV.ownB]) (by rw [Tryz.ntmps175];simp) ?_
 rw [Tryz.ntmps175,Tryz.results175]
 refine wk ?_
 refine PW.loop (fun k:Nat=>((((bot.put 0 (pdefs l)).put 1 (.fn f caps)).put 7 (pint l.length)).put 8 (pint k))) (fun k=>k≤l.length∧∀j,j < k→p (l.getD j default)=false) (fun k=>l.length - k) 0 ⟨by omega,by simp⟩ ?_ ?_
 ·exact sb
 ·rintro k ⟨hk,hn⟩
  by_cases hlt:k < l.length
  ·refine wk ?_
   refine PWops.callV hf (hp k hlt) rfl rfl rfl rfl rfl rfl ?_
   cases hpk:p (l.getD k default) with
   |true=>
    refine wk ?_
    refine retP rfl (by exact lw) ?_
    rw [idxF_here default hlt hpk hn];rfl
   |false=>
    refine wk ?_
    refine loopP (k+1) ⟨by omega,fun j hj=>?_⟩ (by omega) ?_
    ·by_cases h:j=k
     ·rw [h];exact hpk
     ·exact hn j (by omega)
    ·exact sb
  ·refine wk ?_
   refine retP rfl (by exact lw) ?_
   rw [idxF_none default (fun j hj=>hn j (by omega))];rfl
structure PBox where
 lo:List Int
 hi:List Int
 deriving DecidableEq,Inhabited
def pboxL (b:PBox):List PV := [pints b.lo,pints b.hi]
def pbox (b:PBox):PV:=.agg (pboxL b)
theorem low_pboxL (b:PBox):∀c∈pboxL b,Low c:=by
 intro c hc
 simp only [pboxL,List.mem_cons,List.not_mem_nil,or_false] at hc
 rcases hc with rfl|rfl<;>exact (low_pints _).2 trivial
theorem low_pbox (b:PBox):Low (pbox b)↔True:=⟨fun _=>trivial,fun _=>.agg _ (low_pboxL b)⟩
def farB (n:Int):Bool:=decide (n < -1000) || decide (1000 < n)
def vecB (v:List Int):Bool:=decide (1≤v.length) && (decide (v.length≤32) && !v.any farB)
set_option maxRecDepth 10000 in
theorem pw_far (n:Int):PCalls Tryz.prog 225 [pint n] (· = pbool (farB n)):=by
 refine pcalls_of_pw typeTab_ok Tryz.func225 rfl (by kernel_rfl) (by simp [low_pint]) (by simp [pint,PV.ownB]) (by rw [Tryz.ntmps225];simp) ?_
 rw [Tryz.ntmps225,Tryz.results225]
 unfold farB
 by_cases h1:n < -1000
 ·refine wk ?_
  refine retP rfl (by exact lw) ?_
  simp [pbool,h1]
 ·by_cases h2:1000 < n
  ·refine wk ?_
   refine retP rfl (by exact lw) ?_
   simp [pbool,h2]
  ·refine wk ?_
   refine retP rfl (by exact lw) ?_
   simp [pbool,h1,h2]
set_option maxRecDepth 10000 in
theorem pw_isVector (v:List Int) (hl:v.length≤1000000000000):PCalls Tryz.prog 136 [pints v] (· = pbool (vecB v)):=by
 have h:=pw_anyI 225 [] farB v rfl hl (by simp) (fun k _=>pw_far _)
 refine pcalls_of_pw typeTab_ok Tryz.func136 rfl (by kernel_rfl) (by simp [low_pints]) (by simp [pints,PV.ownB]) (by rw [Tryz.ntmps136];simp) ?_
 rw [Tryz.ntmps136,Tryz.results136]
 unfold vecB
 by_cases h1:1≤v.length
 ·by_cases h2:v.length≤32
  ·refine wk ?_
   cases hb:v.any farB <;>
   ·rw [hb] at *
    refine wk ?_
    refine retP rfl (by exact lw) ?_
    simp [pbool,h1,h2]
  ·refine wk ?_
   refine retP rfl (by exact lw) ?_
   simp [pbool,h2]
 ·refine wk ?_
  refine retP rfl (by exact lw) ?_
  simp [pbool,h1]
def prsL (a b:List Int):List (List PV):=(List.range (min a.length b.length)).map fun k => [pint (a.getD k default),pint (b.getD k default)]
theorem prsL_len (a b:List Int):(prsL a b).length=min a.length b.length:=by simp [prsL]
theorem prsL_take {a b:List Int} {k:Nat} (h:k < min a.length b.length):(prsL a b).take (k+1)=(prsL a b).take k ++ [[pint (a.getD k default),pint (b.getD k default)]]:=by
 rw [List.take_add_one]
 congr 1
 simp [prsL,h]
def Part (xs pre:List (List PV)):Prop:=∃k,pre=xs.take k
set_option maxRecDepth 10000 in
set_option maxHeartbeats 1000000 in
theorem it_pairs (a b:List Int) (ha:a.length≤1000000000000) (hb:b.length≤1000000000000):ItSpec Tryz.prog 231 [.ep [pints a] 0, .ep [pints b] 0] (Part (prsL a b)) (· = prsL a b):=by
 refine itspec_of_pwj typeTab_ok Tryz.func231 rfl (by kernel_rfl) (by simp [low_ep,low_pints]) (by simp [PV.ownB]) (by rw [Tryz.ntmps231];simp) ?_
 intro E Φ0 W l hgiv hy hr
 rw [Tryz.ntmps231,Tryz.results231]
 refine jw0 ?_
 refine PWJ.of_pw ?_
 refine wk ?_
 refine jw0 ?_
 simp only [Bool.false_eq_true,if_false]
 rw [show (if (b.length:Int) < a.length then (b.length:Int) else a.length)=((min a.length b.length:Nat):Int) from by split<;>omega]
 obtain ⟨m,hm⟩:∃m,m=min a.length b.length:=⟨_,rfl⟩
 rw [←hm]
 refine PWJ.loop (fun k:Nat=>(((((bot.put 0 (.val (.func (.yield l) #[] #[]))).put 1 (.ep [pints a] 0)).put 2 (.ep [pints b] 0)).put 9 (pint m)).put 10 (pint k))) (fun k=>some ((prsL a b).take k)) (fun k=>k≤m) (fun k=>m - k) 0 (by omega) ?_ rfl ?_
 ·exact sb
 ·intro k hk
  by_cases hlt:k < m
  ·refine jw0 ?_
   refine PWJ.of_pw ?_
   refine wk ?_
   refine jw0 ?_
   refine PWJ.of_pw ?_
   refine wk ?_
   refine jw0 ?_
   refine PWJ.drawN 9 (x := [pint (a.getD k default),pint (b.getD k default)]) (d:=22) typeTab_ok (by kernel_rfl) hgiv hy hr (by kernel_rfl) (by kernel_rfl) (by rfl) (by rfl) ?_
   refine wk ?_
   refine ⟨⟨rfl,by decide,⟨_,_,rfl,rfl,rfl,rfl⟩,rfl,by simp [low_pint],⟨k+1,(prsL_take (by omega)).symm⟩,fun id bs e=>(by cases e),fun id es c e=>(by cases e)⟩,fun b' => ?_⟩
   cases b' with
   |true=>
    refine wk ?_
    refine jw0 ?_
    refine PWJ.of_pw ?_
    refine wk ?_
    refine jw0 ?_
    refine loopJ (k+1) (by omega) (by omega) ?_ ?_
    ·exact sb
    ·simp only [if_true];rw [prsL_take (by omega)]
   |false=>
    refine wk ?_
    refine jw0 ?_
    exact ⟨⟨_,rfl⟩,fun xs e=>by simp at e⟩
  ·refine jw0 ?_
   refine PWJ.of_pw ?_
   refine wk ?_
   refine jw0 ?_
   exact ⟨⟨_,rfl⟩,fun xs e=>by simp at e;rw [←e];exact List.take_of_length_le (by rw [prsL_len];omega)⟩
theorem part_x {a b:List Int} {pre:List (List PV)} {x:List PV} (h:Part (prsL a b) (pre ++ [x])):∃k,k < min a.length b.length∧x = [pint (a.getD k default),pint (b.getD k default)]∧pre=(prsL a b).take k:=by
 obtain ⟨k,hk⟩:=h
 have hl:pre.length+1=min k (prsL a b).length:=by
  have:=congrArg List.length hk
  simpa using this
 obtain ⟨j,rfl⟩:∃j,j=pre.length:=⟨_,rfl⟩
 have hj:pre.length < min a.length b.length:=by rw [prsL_len] at hl;omega
 refine ⟨pre.length,hj,?_,?_⟩
 ·have h1:(pre ++ [x])[pre.length]? = some x:=by simp
  rw [hk,List.getElem?_take,if_pos (by omega)] at h1
  simp only [prsL,List.getElem?_map,List.getElem?_range hj,Option.map_some,Option.some.injEq] at h1
  exact h1.symm
 ·have h1:pre=(pre ++ [x]).take pre.length:=by simp
  rw [hk,List.take_take] at h1
  rw [h1]
  congr 1
  simp;omega
set_option maxRecDepth 10000 in
theorem pw_pairs (a b:List Int):PCalls Tryz.prog 146 [pints a,pints b] (· = .fn 231 [.ep [pints a] 0, .ep [pints b] 0]):=by
 refine pcalls_of_pw typeTab_ok Tryz.func146 rfl (by kernel_rfl) (by simp [low_pints]) (by simp [pints,PV.ownB]) (by rw [Tryz.ntmps146];simp) ?_
 rw [Tryz.ntmps146,Tryz.results146]
 refine PW.seq ?_
 refine PW.region typeTab_ok (by kernel_rfl) ?_
 refine wg ?_
 refine PW.freezeP (id:=0) (s:=2) (off:=0) (σ':=(bot.setb 1 [pints b]).put 3 (.ptr 1 0)) rfl rfl (fun c hc=>by simp only [List.mem_cons,List.not_mem_nil,or_false] at hc;subst hc;exact (low_pints _).2 trivial) (by exact sbr0) rfl ?_
 refine PW.freezeP (id:=1) (s:=3) (off:=0) (σ':=bot.put 2 (.ep [pints a] 0)) rfl rfl (fun c hc=>by simp only [List.mem_cons,List.not_mem_nil,or_false] at hc;subst hc;exact (low_pints _).2 trivial) (by exact sbr0) rfl ?_
 refine wk ?_
 exact retP rfl (by simp [low_fn,low_ep,low_pints]) rfl
def boxB (b:PBox):Bool:=vecB b.lo && (vecB b.hi && (decide (b.lo.length=b.hi.length) && (List.range b.lo.length).all fun k=>decide (b.lo.getD k default≤b.hi.getD k default)))
set_option maxRecDepth 10000 in
set_option maxHeartbeats 1000000 in
theorem pw_boxValid (b:PBox) (h1:b.lo.length≤1000000000000) (h2:b.hi.length≤1000000000000):PCalls Tryz.prog 65 [pbox b] (· = pbool (boxB b)):=by
 have hv1:=pw_isVector b.lo h1
 have hv2:=pw_isVector b.hi h2
 have hp:=pw_pairs b.lo b.hi
 have hl1:=low_pboxL b
 refine pcalls_of_pw typeTab_ok Tryz.func65 rfl (by kernel_rfl) (by simp [low_pbox]) (by simp [pbox,PV.ownB]) (by rw [Tryz.ntmps65];simp) ?_
 rw [Tryz.ntmps65,Tryz.results65]
 unfold boxB pbox pboxL at *
 by_cases e1:vecB b.lo=true
 ·by_cases e2:vecB b.hi=true
  ·by_cases e3:b.lo.length=b.hi.length
   ·rw [e1] at hv1
    rw [e2] at hv2
    refine wk ?_
    refine PW.rangeFunc (A:=Part (prsL b.lo b.hi)) (S:=(· = prsL b.lo b.hi)) 3000000 [3000001] (fun _=>(bot.setb 3000001 [pbool false]).put 2 (.ptr 3000001 0)) (fun pre=>∀x∈pre,∃u v:Int,x = [pint u,pint v]∧u≤v) (by simp) rfl rfl (by simp [low_ep,low_pints]) (it_pairs _ _ h1 h2) (by exact sbr0) (fun pre=>by exact kn0) (by intro pre i hi;simp only [List.mem_cons,List.not_mem_nil,or_false] at hi;rcases hi with rfl|rfl|rfl|rfl|rfl<;>rfl) rfl (by decide) (fun pre=>by exact ow0) (by simp) ?_ ?_ ?_
    ·intro pre x hx
     obtain ⟨k,-,rfl,-⟩:=part_x hx
     refine ⟨rfl,fun p hp=>?_⟩
     simp only [List.mem_cons,List.not_mem_nil,or_false] at hp
     rcases hp with rfl|rfl<;>exact ⟨.val _,rfl⟩
    ·intro pre x hI hx
     obtain ⟨k,hk,rfl,-⟩:=part_x hx
     simp only [putps]
     refine wk ?_
     refine normP ?_
     by_cases hle:b.lo.getD k default≤b.hi.getD k default
     ·refine wk ?_
      refine roundP ?_ (by exact sb) (by exact lt0)
      intro y hy
      rcases List.mem_append.1 hy with hy|hy
      ·exact hI y hy
      ·simp only [List.mem_cons,List.not_mem_nil,or_false] at hy
       exact ⟨_,_,hy,hle⟩
     ·refine wk ?_
      refine roundP_ret ((bot.setb 3000001 [pbool false]).put 2 (.ptr 3000001 0)) ((bot.setb 1 [pbool false]).put 2 (.ptr 1 0)) (by exact lt0) (by exact sb) (by exact kn0) (by exact sbr0) ?_
      refine blockP_ret (thenP_ret (retP rfl (by exact lw) ?_))
      have:((List.range b.lo.length).all fun k=>decide (b.lo.getD k default≤b.hi.getD k default))=false:=by
       rw [List.all_eq_false]
       exact ⟨k,by simp;omega,by simpa using hle⟩
      rw [this,e1,e2]
      simp [pbool]
    ·intro xs hxs hI
     subst hxs
     refine ⟨(bot.setb 1 [pbool false]).put 2 (.ptr 1 0),by exact sbr0,?_⟩
     refine wk ?_
     refine retP rfl (by exact lw) ?_
     have:((List.range b.lo.length).all fun k=>decide (b.lo.getD k default≤b.hi.getD k default))=true:=by
      rw [List.all_eq_true]
      intro k hk
      have hk' : k < b.lo.length:=by simpa using hk
      obtain ⟨u,v,h1,h2⟩:=hI [pint (b.lo.getD k default),pint (b.hi.getD k default)] (List.mem_map.2 ⟨k,by simp;omega,rfl⟩)
      simp only [List.cons.injEq,pint,PV.val.injEq,Value.int.injEq,true_and,and_true] at h1
      rw [decide_eq_true_eq,h1.1,h1.2]
      exact h2
     rw [this,e1,e2]
     simp [pbool,e3]
   ·rw [e1] at hv1
    rw [e2] at hv2
    refine wk ?_
    refine retP rfl (by exact lw) ?_
    simp [pbool,e3]
  ·simp only [Bool.not_eq_true] at e2
   rw [e1] at hv1
   rw [e2] at hv2
   refine wk ?_
   refine retP rfl (by exact lw) ?_
   simp [pbool,e2]
 ·simp only [Bool.not_eq_true] at e1
  rw [e1] at hv1
  refine wk ?_
  refine retP rfl (by exact lw) ?_
  simp [pbool,e1]
end
end Go.Proofs.YtoamkpgaaanafaaGreat
