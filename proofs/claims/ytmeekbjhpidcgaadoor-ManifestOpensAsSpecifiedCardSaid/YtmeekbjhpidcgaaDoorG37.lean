/- Out of: Ti, Tj. -/
import Derived.Test.YtmeekbjhpidcgaaDoorG35
namespace Go.Proofs.YtmeekbjhpidcgaaDoor
set_option linter.unusedSimpArgs false
set_option linter.unusedVariables false
set_option linter.unnecessarySimpa false
section
open Go.RowKit
def posR (l:List PRef) (t:PRef):Nat:=(l.takeWhile fun r=>refLt r t).length
theorem posR_at {t:PRef} : ∀{l:List PRef} {j:Nat},j≤l.length→(∀x,x < j→refLt (l.getD x default) t=true)→(j < l.length→refLt (l.getD j default) t=false)→posR l t=j
 | [],j,h,_,_=>by simp at h;subst h;rfl
 |r :: l,0,_,_,h2=>by
  have:=h2 (by simp)
  simp only [posR]
  have e:refLt r t=false:=this
  rw [List.takeWhile_cons_of_neg (by rw [e];simp)];rfl
 |r :: l,j+1,h,h1,h2=>by
  have e:refLt r t=true:=h1 0 (by omega)
  have ih:=posR_at (t:=t) (l:=l) (j:=j) (by simpa using h) (fun x hx=>h1 (x+1) (by omega)) (fun hj=>h2 (by simpa using hj))
  simp only [posR] at ih ⊢
  rw [List.takeWhile_cons_of_pos (p:=fun r=>refLt r t) e,List.length_cons,ih]
theorem refLt_ltK (r t:PRef):refLt r t=ltK r t.kind t.id:=rfl
def foundR (l:List PRef) (t:PRef):Bool:=decide (posR l t < l.length) && decide (ordR (l.getD (posR l t) default) t=0)
theorem mid_eq (i j : Nat) (h : i + j ≤ 4000000000) : IntKind.i64.wrap ((IntKind.u64.wrap ((i : Int) + (j : Int))).fdiv (2 ^ min (Int.toNat 1) IntKind.u64.bits)) = (((i + j) / 2 : Nat) : Int) := by
  have h1 : IntKind.u64.wrap ((i : Int) + (j : Int)) = (i : Int) + j := by
    show ((i : Int) + j).emod (2 ^ 64) = _
    exact Int.emod_eq_of_lt (by omega) (by have : (2 : Int) ^ 64 = 18446744073709551616 := by decide
                                           omega)
  have h2 : (2 : Int) ^ min (Int.toNat 1) IntKind.u64.bits = 2 := rfl
  rw [h1, h2, wrap64_id]
  · rw [Int.fdiv_eq_ediv_of_nonneg _ (by decide)]; omega
  · rw [Int.fdiv_eq_ediv_of_nonneg _ (by decide)]; omega
  · rw [Int.fdiv_eq_ediv_of_nonneg _ (by decide)]; omega
theorem lo_fn (f:FuncId):Low (.fn f []):=.fn _ _ (by simp)
set_option maxRecDepth 10000 in
set_option maxHeartbeats 2000000 in
theorem pw_search (l:List PRef) (t:PRef) (hl:l.length≤1000000000) (hs:risesM l=true):PCalls Tryd.prog 36 [prefs l,pref t, .fn 37 []] (· = .tup [pint (posR l t),pbool (foundR l t)]):=by
 have hl1:Low (prefs l):=(low_prefs _).2 trivial
 have hl2:=low_prefL t
 have hl3:=lo_fn 37
 refine pcalls_of_pw typeTab_ok Tryd.func36 rfl (by kernel_rfl) (by simp [low_pint,low_pints,low_pstr,low_pbool,low_pbytes,low_pstrs,low_prefs,low_pref,lo_fn]) (by simp [pint,pints,pstr,pbool,pstrs,pbytes,PV.ownB,prefs,pref]) (by rw [Tryd.ntmps36];simp) ?_
 rw [Tryd.ntmps36,Tryd.results36]
 have f1:=rows_len l
 have hmono:=fun x y=>ltK_mono (l:=l) hs (k:=t.kind) (i:=t.id) (x:=x) (y:=y)
 refine wk ?_
 refine PW.loop (fun p:Nat×Nat=>(((((((bot.setb 0 (prefL t)).put 0 (prefs l)).put 2 (.fn 37 [])).put 4 (.ptr 0 0)).put 8 (pint l.length)).put 9 (pint p.1)).put 10 (pint p.2))) (fun p=>p.1≤p.2∧p.2≤l.length∧(∀x,x < p.1→refLt (l.getD x default) t=true)∧(∀x,p.2≤x→x < l.length→refLt (l.getD x default) t=false)) (fun p=>p.2 - p.1) (0,l.length) ⟨by simp,by simp,fun x hx=>by simp at hx,fun x h1 h2=>by simp at h1;omega⟩ ?_ ?_
 ·exact sb
 ·rintro ⟨i,j⟩ ⟨h1,h2,h3,h4⟩
  simp only at h1 h2 h3 h4
  by_cases hlt:i < j
  ·have hu:=fun _:Unit=>And.intro h3 h4
   clear h3 h4
   refine wk ?_
   rw [mid_eq (i,j).1 (i,j).2 (by simp only;omega)]
   obtain ⟨m,hm⟩:∃m,m=((i,j).1+(i,j).2) / 2:=⟨_,rfl⟩
   rw [←hm]
   simp only at hm
   have hmj:i≤m∧m < j:=by omega
   have ho:=pw_order (l.getD m default) t
   have hz:=ordR_lt (a:=l.getD m default) (b:=t)
   generalize ordR (l.getD m default) t=z at *
   by_cases hz0:z < 0
   ·refine wk ?_
    refine loopP (m+1,j) ⟨by simp only;omega,h2,?_,(hu ()).2⟩ (by simp only;omega) ?_
    ·intro x hx
     simp only at hx
     exact hmono x m (by omega) (by omega) (hz.1 hz0)
    exact sb
   ·refine wk ?_
    refine loopP (i,m) ⟨by simp only;omega,by simp only;omega,(hu ()).1,?_⟩ (by simp only;omega) ?_
    ·intro x hx hxl
     simp only at hx
     cases e:refLt (l.getD x default) t with
     |false=>rfl
     |true=>exact absurd (hz.2 (hmono m x hx hxl e)) hz0
    exact sb
  ·obtain rfl:i=j:=by omega
   have hp:posR l t=i:=posR_at h2 h3 (fun h=>h4 i (Nat.le_refl _) h)
   clear h3 h4 hmono
   unfold foundR
   rw [hp]
   by_cases hlt2:i < l.length
   ·have ho:=pw_order (l.getD i default) t
    generalize ordR (l.getD i default) t=z at *
    by_cases hz0:z=0
    ·refine wk ?_
     refine retP (r:=.tup [pint i,pbool true]) rfl (by exact lw) ?_
     simp [pbool,hlt2,hz0]
    ·refine wk ?_
     refine retP (r:=.tup [pint i,pbool false]) rfl (by exact lw) ?_
     simp [pbool,hz0]
   ·refine wk ?_
    refine retP (r:=.tup [pint i,pbool false]) rfl (by exact lw) ?_
    simp [pbool,hlt2]
def zeroR:PRef:=⟨0,0,[0,0,0,0,0,0,0,0,0,0,0,0,0,0,0,0]⟩
def hasO (o:Option PRef):PV:=.tup [pref (o.getD zeroR),pbool o.isSome]
theorem posR_spec {t:PRef} : ∀(l:List PRef),posR l t≤l.length∧(∀x,x < posR l t→refLt (l.getD x default) t=true)∧(posR l t < l.length→refLt (l.getD (posR l t) default) t=false)
 | []=>⟨Nat.zero_le _,fun x hx=>by simp [posR] at hx,fun h=>by simp at h⟩
 |r :: l=>by
  obtain ⟨h1,h2,h3⟩:=posR_spec (t:=t) l
  cases e:refLt r t with
  |true=>
   have hp:posR (r :: l) t=posR l t+1:=by
    unfold posR
    rw [List.takeWhile_cons_of_pos (p:=fun r=>refLt r t) e,List.length_cons]
   rw [hp]
   refine ⟨by simpa using h1,fun x hx=>?_,fun h=>h3 (by simpa using h)⟩
   cases x with
   |zero=>exact e
   |succ x=>exact h2 x (by omega)
  |false=>
   have hp:posR (r :: l) t=0:=by
    unfold posR
    rw [List.takeWhile_cons_of_neg (p:=fun r=>refLt r t) (by rw [e];simp)];rfl
   rw [hp]
   exact ⟨Nat.zero_le _,fun x hx=>by omega,fun _=>e⟩
theorem has_pos {l:List PRef} (hs:risesM l=true) (k i:Int) (d:List Int):hasR l k i=if foundR l ⟨k,i,d⟩=true then some (l.getD (posR l ⟨k,i,d⟩) default) else none:=by
 obtain ⟨h1,h2,h3⟩:=posR_spec (t:=⟨k,i,d⟩) l
 rw [has_split hs (j:=posR l ⟨k,i,d⟩) (k:=k) (i:=i) (fun x hx hxl=>?_) (fun x hx _=>h2 x hx)]
 ·unfold foundR
  simp only [Bool.and_eq_true,decide_eq_true_eq,ordR_zero]
 ·cases e:ltK (l.getD x default) k i with
  |false=>rfl
  |true=>
   have:=ltK_mono hs hx hxl e
   have h4:=h3 (by omega)
   rw [refLt_ltK] at h4
   rw [this] at h4;cases h4
set_option maxRecDepth 10000 in
set_option maxHeartbeats 2000000 in
theorem pw_has (m:PMan) (k i:Int) (hl:m.refs.length≤1000000000) (hs:risesM m.refs=true):PCalls Tryd.prog 17 [pman m,pint k,pint i] (· = hasO (hasR m.refs k i)):=by
 have hc:=pw_search m.refs ⟨k,i,[]⟩ hl hs
 have hlm:=low_pmanL m
 have hlz:=low_prefL zeroR
 have hp:=has_pos hs k i []
 have hps:=(posR_spec (t:=⟨k,i,[]⟩) m.refs).1
 refine pcalls_of_pw typeTab_ok Tryd.func17 rfl (by kernel_rfl) (by simp [low_pint,low_pints,low_pstr,low_pbool,low_pbytes,low_pstrs,low_pman]) (by simp [pint,pints,pstr,pbool,pstrs,pbytes,PV.ownB,pman]) (by rw [Tryd.ntmps17];simp) ?_
 rw [Tryd.ntmps17,Tryd.results17]
 have f1:=rows_len m.refs
 rw [hp]
 have hft:foundR m.refs ⟨k,i,[]⟩=true→posR m.refs ⟨k,i,[]⟩ < m.refs.length:=fun h=>by simp only [foundR,Bool.and_eq_true,decide_eq_true_eq] at h;exact h.1
 clear hp
 generalize posR m.refs ⟨k,i,[]⟩=j at *
 cases hf:foundR m.refs ⟨k,i,[]⟩ with
 |true=>
  rw [hf] at hc
  have hj:=hft hf
  clear hft hf
  rw [if_pos rfl]
  have hlr:=low_prefL (m.refs.getD j default)
  refine wk ?_
  refine retP (r:=hasO (some (m.refs.getD j default))) rfl (.tup _ (by simp only [List.mem_cons,List.not_mem_nil,or_false];rintro x (rfl|rfl);exact (low_pref _).2 trivial;exact .val _)) rfl
 |false=>
  rw [hf] at hc
  clear hft hf
  rw [if_neg (by simp)]
  refine wk ?_
  refine retP (r:=hasO none) rfl (.tup _ (by simp only [List.mem_cons,List.not_mem_nil,or_false];rintro x (rfl|rfl);exact (low_pref _).2 trivial;exact .val _)) rfl
end
end Go.Proofs.YtmeekbjhpidcgaaDoor
