/- Out of: Tb. -/
import Derived.Test.YtmeekbjhpidcgaaDoorG20
namespace Go.Proofs.YtmeekbjhpidcgaaDoor
set_option linter.unusedSimpArgs false
set_option linter.unusedVariables false
set_option linter.unnecessarySimpa false
section
open Go.RowKit
def wideB (n:Int):Bool := !noteOK n
set_option maxRecDepth 10000 in
theorem pw_wide (n:Int):PCalls Tryd.prog 57 [pint n] (· = pbool (wideB n)):=by
 refine pcalls_of_pw typeTab_ok Tryd.func57 rfl (by kernel_rfl) (by simp [low_pint,low_pints,low_pstr,low_pbool,low_pbytes,low_pstrs]) (by simp [pint,pints,pstr,pbool,pstrs,pbytes,PV.ownB]) (by rw [Tryd.ntmps57];simp) ?_
 rw [Tryd.ntmps57,Tryd.results57]
 unfold wideB noteOK
 by_cases h1:n < -1099511627776
 ·refine wk ?_
  refine retP rfl (by exact lw) ?_
  simp [pbool];omega
 ·by_cases h2:1099511627776 < n
  ·refine wk ?_
   refine retP rfl (by exact lw) ?_
   simp [pbool];omega
  ·refine wk ?_
   refine retP rfl (by exact lw) ?_
   simp [pbool];omega
theorem ref_cell {l:List PRef} {k:Nat} {r:PRef} (h:l[k]? = some r):(((l.flatMap prefL).drop (k * 18)).take 18).map PV.bare=prefL r:=by
 rw [flatMap_row (f:=prefL) (k:=18) (fun _=>rfl) h];rfl
def upR (l:List PRef) (k:Nat):Prop:=∀j,j < k→refOK (l.getD j default)=true∧(0 < j→refLt (l.getD (j - 1) default) (l.getD j default)=true)
theorem rises_up:∀l:List PRef,risesM l=true↔upR l l.length
 | []=>⟨fun _ j hj=>by simp at hj,fun _=>rfl⟩
 | [r]=>by
  constructor
  ·intro h j hj
   obtain rfl:j=0:=by simp at hj;omega
   exact ⟨h,by omega⟩
  ·intro h;exact (h 0 (by simp)).1
 |r :: x :: l=>by
  have ih:=rises_up (x :: l)
  simp only [risesM,Bool.and_eq_true]
  constructor
  ·rintro ⟨h1,h2,h3⟩ j hj
   have h4:=ih.1 h3
   cases j with
   |zero=>exact ⟨h1,by omega⟩
   |succ j=>
    have h5:=h4 j (by simpa using hj)
    refine ⟨h5.1,fun _=>?_⟩
    cases j with
    |zero=>exact h2
    |succ j=>exact h5.2 (by omega)
  ·intro h
   refine ⟨(h 0 (by simp)).1,(h 1 (by simp)).2 (by omega),ih.2 fun j hj=>?_⟩
   have:=h (j+1) (by simpa using hj)
   refine ⟨this.1,fun h0=>?_⟩
   have h6:=this.2 (by omega)
   obtain ⟨i,rfl⟩:∃i,j=i+1:=⟨j - 1,by omega⟩
   exact h6
theorem up_bad {l:List PRef} {k:Nat} (hk:k < l.length) (h:¬(refOK (l.getD k default)=true∧(0 < k→refLt (l.getD (k - 1) default) (l.getD k default)=true))):risesM l=false:=by
 cases hr:risesM l with
 |false=>rfl
 |true=>exact absurd ((rises_up l).1 hr k hk) h
theorem getD_row {l:List PRef} {k:Nat} (h:k < l.length):l[k]? = some (l.getD k default):=by
 rw [List.getD_eq_getElem?_getD,List.getElem?_eq_getElem h];rfl
set_option maxRecDepth 10000 in
set_option maxHeartbeats 4000000 in
theorem pw_right (m:PMan) (h1:m.notes.length≤1000000000) (h2:m.refs.length≤1000000000):PCalls Tryd.prog 44 [pman m] (· = pbool (rightM m)):=by
 have hc:=pw_anyI 57 [] wideB m.notes rfl (by omega) (by simp) (fun k _=>pw_wide _)
 have hlm:=low_pmanL m
 have hln:Low (pints m.notes):=(low_pints _).2 trivial
 have hlr:Low (prefs m.refs):=(low_prefs _).2 trivial
 refine pcalls_of_pw typeTab_ok Tryd.func44 rfl (by kernel_rfl) (by simp [low_pint,low_pints,low_pstr,low_pbool,low_pbytes,low_pstrs,low_pman]) (by simp [pint,pints,pstr,pbool,pstrs,pbytes,PV.ownB,pman]) (by rw [Tryd.ntmps44];simp) ?_
 rw [Tryd.ntmps44,Tryd.results44]
 have fl:=rows_len m.refs
 refine wk ?_
 refine PW.loop (fun k:Nat=>(((((bot.setb 0 (pmanL m)).put 1 (.ptr 0 0)).put 7 (prefs m.refs)).put 8 (pint m.refs.length)).put 9 (pint k))) (fun k=>k≤m.refs.length∧upR m.refs k) (fun k=>m.refs.length - k) 0 ⟨by omega,fun j hj=>by omega⟩ ?_ ?_
 ·exact sb
 ·rintro k ⟨hk,hu⟩
  by_cases hlt:k < m.refs.length
  ·have hr:=getD_row hlt
   have hr':=ref_cell hr
   have bad:¬(refOK (m.refs.getD k default)=true∧(0 < k→refLt (m.refs.getD (k - 1) default) (m.refs.getD k default)=true))→rightM m=false:=fun h=>by
    unfold rightM
    rw [up_bad hlt h];simp
   obtain ⟨r,hrr⟩:∃r,r=m.refs.getD k default:=⟨_,rfl⟩
   rw [←hrr] at hr hr' bad
   have hok:refOK r=true↔(1≤r.kind∧r.kind≤9)∧1≤r.id∧r.id≤1099511627776:=by simp [refOK];omega
   have hu2:=fun _:Unit=>hu
   clear hu
   by_cases a1:r.kind < 1
   ·refine wk ?_
    refine retP rfl (by exact lw) ?_
    rw [bad (fun h=>by have:=hok.1 h.1;omega)];rfl
   by_cases a2:9 < r.kind
   ·refine wk ?_
    refine retP rfl (by exact lw) ?_
    rw [bad (fun h=>by have:=hok.1 h.1;omega)];rfl
   by_cases a3:r.id < 1
   ·refine wk ?_
    refine retP rfl (by exact lw) ?_
    rw [bad (fun h=>by have:=hok.1 h.1;omega)];rfl
   by_cases a4:1099511627776 < r.id
   ·refine wk ?_
    refine retP rfl (by exact lw) ?_
    rw [bad (fun h=>by have:=hok.1 h.1;omega)];rfl
   have hokr:refOK r=true:=hok.2 (by omega)
   by_cases hk0:k=0
   ·subst hk0
    refine wk ?_
    refine loopP 1 ⟨by omega,fun j hj=>?_⟩ (by omega) ?_
    ·obtain rfl:j=0:=by omega
     exact ⟨by rw [←hrr];exact hokr,by omega⟩
    ·exact sb
   ·obtain ⟨j,rfl⟩:∃j,k=j+1:=⟨k - 1,by omega⟩
    have ho:=pw_order (m.refs.getD (((j+1:Nat):Int) - 1).toNat default) r
    have hlt':=ordR_lt (a:=m.refs.getD (((j+1:Nat):Int) - 1).toNat default) (b:=r)
    have ej:(((j+1:Nat):Int) - 1).toNat=j:=by omega
    generalize ordR (m.refs.getD (((j+1:Nat):Int) - 1).toNat default) r=z at *
    simp only [Nat.add_sub_cancel] at bad
    by_cases hz:z < 0
    ·refine wk ?_
     refine loopP (j+2) ⟨by omega,fun i hi=>?_⟩ (by omega) ?_
     ·by_cases hij:i=j+1
      ·subst hij
       rw [←hrr]
       exact ⟨hokr,fun _=>by rw [ej] at hlt'; exact hlt'.1 hz⟩
      ·exact hu2 () i (by omega)
     ·exact sb
    ·refine wk ?_
     refine retP rfl (by exact lw) ?_
     rw [bad (fun h=>hz (hlt'.2 (by rw [ej];exact h.2 (by omega))))];rfl
  ·obtain rfl:k=m.refs.length:=by omega
   have hR:risesM m.refs=true:=(rises_up _).2 hu
   have hany:m.notes.any wideB = !(m.notes.all noteOK):=by simp [wideB,List.any_eq_not_all_not]
   have eR:rightM m=(decide (0≤m.ver) && (decide (m.ver≤1099511627776) && (m.notes.all noteOK && (decide (0 < m.ver) || decide (m.notes.length+m.refs.length=0))))):=by unfold rightM;rw [hR];simp
   rw [hany] at hc
   clear hu hR hany
   rw [eR]
   clear eR
   by_cases b1:0≤m.ver
   ·by_cases b2:m.ver≤1099511627776
    ·cases hn:m.notes.all noteOK with
     |false=>
      rw [hn] at hc
      refine wk ?_
      refine retP rfl (by exact lw) ?_
      simp [pbool]
     |true=>
      rw [hn] at hc
      by_cases b3:0 < m.ver
      ·refine wk ?_
       refine retP rfl (by exact lw) ?_
       simp [pbool,b1,b2,b3]
      ·by_cases b4:m.notes.length+m.refs.length=0
       ·refine wk ?_
        refine retP rfl (by exact lw) ?_
        simp [pbool,b1,b2,b4]
       ·refine wk ?_
        refine retP rfl (by exact lw) ?_
        simp only [pbool,decide_eq_false b3,decide_eq_false b4,Bool.or_self,Bool.and_false]
    ·refine wk ?_
     refine retP rfl (by exact lw) ?_
     simp [pbool,b2]
   ·refine wk ?_
    refine retP rfl (by exact lw) ?_
    simp [pbool,b1]
set_option maxRecDepth 10000 in
set_option maxHeartbeats 1000000 in
theorem pw_mCheck (m:PMan) (h1:m.notes.length≤1000000000) (h2:m.refs.length≤1000000000):PCalls Tryd.prog 26 [pman m] (· = pint (checkM 2 3 m)):=by
 have hc:=pw_right m h1 h2
 have hlm:=low_pmanL m
 refine pcalls_of_pw typeTab_ok Tryd.func26 rfl (by kernel_rfl) (by simp [low_pint,low_pints,low_pstr,low_pbool,low_pbytes,low_pstrs,low_pman]) (by simp [pint,pints,pstr,pbool,pstrs,pbytes,PV.ownB,pman]) (by rw [Tryd.ntmps26];simp) ?_
 rw [Tryd.ntmps26,Tryd.results26]
 unfold checkM
 by_cases a1:16 < m.notes.length
 ·rw [if_pos (.inl a1)]
  refine wk ?_
  exact retP rfl (by exact lw) rfl
 by_cases a2:600 < m.refs.length
 ·rw [if_pos (.inr a2)]
  refine wk ?_
  exact retP rfl (by exact lw) rfl
 rw [if_neg (by omega)]
 cases hr:rightM m with
 |true=>
  rw [hr] at hc
  rw [if_pos rfl]
  refine wk ?_
  exact retP rfl (by exact lw) rfl
 |false=>
  rw [hr] at hc
  rw [if_neg (by simp)]
  refine wk ?_
  exact retP rfl (by exact lw) rfl
end
end Go.Proofs.YtmeekbjhpidcgaaDoor
