/- Out of: Tc. -/
import Derived.Test.YtmeekbjhpidcgaaDoorG23
namespace Go.Proofs.YtmeekbjhpidcgaaDoor
set_option linter.unusedSimpArgs false
set_option linter.unusedVariables false
set_option linter.unnecessarySimpa false
section
open Go.RowKit
set_option maxRecDepth 10000 in
theorem pw_less (a b:PRef):PCalls Tryd.prog 31 [pref a,pref b] (· = pbool (refLt a b)):=by
 refine pcalls_of_pw typeTab_ok Tryd.func31 rfl (by kernel_rfl) (by simp [low_pint,low_pints,low_pstr,low_pbool,low_pbytes,low_pstrs,low_pref]) (by simp [pint,pints,pstr,pbool,pstrs,pbytes,PV.ownB,pref]) (by rw [Tryd.ntmps31];simp) ?_
 rw [Tryd.ntmps31,Tryd.results31]
 unfold refLt
 by_cases h1:a.kind < b.kind
 ·refine wk ?_
  refine retP rfl (by exact lw) ?_
  simp [pbool,h1]
 ·by_cases h2:a.kind=b.kind
  ·by_cases h3:a.id < b.id
   ·refine wk ?_
    refine retP rfl (by exact lw) ?_
    simp [pbool,h2,h3]
   ·refine wk ?_
    refine retP rfl (by exact lw) ?_
    simp [pbool,h2,h3]
  ·refine wk ?_
   refine retP rfl (by exact lw) ?_
   simp [pbool,h1,h2]
theorem notes_up {l:List Int} {k:Nat} (h:∀j,j < k→noteOK (l.getD j default)=true) (hk:noteOK (l.getD k default)=true):∀j,j < k+1→noteOK (l.getD j default)=true:=fun j hj=>by
 by_cases e:j=k
 ·subst e;exact hk
 ·exact h j (by omega)
theorem notes_all {l:List Int} (h:∀j,j < l.length→noteOK (l.getD j default)=true):l.all noteOK=true:=by
 rw [List.all_eq_true]
 intro x hx
 obtain ⟨j,hj,rfl⟩:=List.getElem_of_mem hx
 have:=h j hj
 rwa [List.getD_eq_getElem?_getD,List.getElem?_eq_getElem hj] at this
theorem notes_bad {l:List Int} {k:Nat} (hk:k < l.length) (h:noteOK (l.getD k default)=false):l.all noteOK=false:=by
 rw [List.all_eq_false]
 refine ⟨l.getD k default,?_,by rw [h];simp⟩
 rw [List.getD_eq_getElem?_getD,List.getElem?_eq_getElem hk];exact List.getElem_mem hk
set_option maxRecDepth 10000 in
set_option maxHeartbeats 4000000 in
theorem pw_rCheck (m:PMan) (h1:m.notes.length≤1000000000) (h2:m.refs.length≤1000000000):PCalls Tryd.prog 11 [pman m] (· = pint (checkM 2 3 m)):=by
 have hlm:=low_pmanL m
 have hln:Low (pints m.notes):=(low_pints _).2 trivial
 have hlr:Low (prefs m.refs):=(low_prefs _).2 trivial
 refine pcalls_of_pw typeTab_ok Tryd.func11 rfl (by kernel_rfl) (by simp [low_pint,low_pints,low_pstr,low_pbool,low_pbytes,low_pstrs,low_pman]) (by simp [pint,pints,pstr,pbool,pstrs,pbytes,PV.ownB,pman]) (by rw [Tryd.ntmps11];simp) ?_
 rw [Tryd.ntmps11,Tryd.results11]
 have fl:=rows_len m.refs
 unfold checkM
 by_cases a1:16 < m.notes.length
 ·rw [if_pos (.inl a1)]
  refine wk ?_
  exact retP rfl (by exact lw) rfl
 by_cases a2:600 < m.refs.length
 ·rw [if_pos (.inr a2)]
  refine wk ?_
  exact retP rfl (by exact lw) rfl
 rw [if_neg (by omega)]
 have bad:rightM m=false→(if rightM m=true then (0:Int) else 3)=3:=fun h=>by rw [h];rfl
 by_cases b1:m.ver < 0
 ·rw [bad (by unfold rightM;rw [decide_eq_false (show ¬0≤m.ver by omega)];rfl)]
  refine wk ?_
  exact retP rfl (by exact lw) rfl
 by_cases b2:1099511627776 < m.ver
 ·rw [bad (by unfold rightM;rw [decide_eq_false (show ¬m.ver≤1099511627776 by omega)];simp)]
  refine wk ?_
  exact retP rfl (by exact lw) rfl
 by_cases b3:m.ver=0
 ·by_cases b4:m.notes.length+m.refs.length=0
  ·have n0:m.notes = []:=List.eq_nil_of_length_eq_zero (by omega)
   have n1:m.refs = []:=List.eq_nil_of_length_eq_zero (by omega)
   have hr:rightM m=true:=by simp [rightM,b3,n0,n1,risesM]
   rw [if_pos hr]
   clear bad hr
   obtain ⟨v,ns,rs⟩:=m
   simp only at *
   subst n0 n1
   refine wk ?_
   refine PW.loop (fun _:Nat=>((bot.setb 0 (pmanL ⟨v,[],[]⟩)).put 1 (.ptr 0 0)).put 3 (pint 0)) (fun k=>k=0) (fun _=>0) 0 rfl ?_ ?_
   ·exact sb
   ·rintro k rfl
    refine wk ?_
    refine PW.loop (fun _:Nat=>((bot.setb 0 (pmanL ⟨v,[],[]⟩)).put 1 (.ptr 0 0)).put 4 (pint 0)) (fun k=>k=0) (fun _=>0) 0 rfl ?_ ?_
    ·exact sb
    ·rintro k rfl
     refine wk ?_
     exact retP rfl (by exact lw) rfl
  ·rw [bad (by simp only [rightM];rw [decide_eq_false (show ¬0 < m.ver by omega),decide_eq_false b4];simp)]
   refine wk ?_
   exact retP rfl (by exact lw) rfl
 have eR:rightM m=(m.notes.all noteOK && risesM m.refs):=by
  unfold rightM
  rw [decide_eq_true (show 0≤m.ver by omega),decide_eq_true (show m.ver≤1099511627776 by omega),decide_eq_true (show 0 < m.ver by omega)]
  simp
 refine wk ?_
 refine PW.loop (fun k:Nat=>((bot.setb 0 (pmanL m)).put 1 (.ptr 0 0)).put 3 (pint k)) (fun k=>k≤m.notes.length∧∀j,j < k→noteOK (m.notes.getD j default)=true) (fun k=>m.notes.length - k) 0 ⟨by omega,fun j hj=>by omega⟩ ?_ ?_
 ·exact sb
 ·rintro k ⟨hk,hu⟩
  by_cases hlt:k < m.notes.length
  ·have hu2:=fun _:Unit=>hu
   clear hu
   cases hn:noteOK (m.notes.getD k default) with
   |false=>
    rw [bad (by rw [eR,notes_bad hlt hn];rfl)]
    have hn' : m.notes.getD k default < -1099511627776∨1099511627776 < m.notes.getD k default:=by
     simp only [noteOK,Bool.and_eq_false_iff,decide_eq_false_iff_not] at hn;omega
    clear bad eR hn
    by_cases c1:m.notes.getD k default < -1099511627776
    ·refine wk ?_
     exact retP rfl (by exact lw) rfl
    ·have c2:1099511627776 < m.notes.getD k default:=by omega
     refine wk ?_
     exact retP rfl (by exact lw) rfl
   |true=>
    have hn' : -1099511627776≤m.notes.getD k default∧m.notes.getD k default≤1099511627776:=by
     simp only [noteOK,Bool.and_eq_true,decide_eq_true_eq] at hn;omega
    refine wk ?_
    refine loopP (k+1) ⟨by omega,notes_up (hu2 ()) hn⟩ (by omega) ?_
    exact sb
  ·obtain rfl:k=m.notes.length:=by omega
   rw [notes_all hu,Bool.true_and] at eR
   clear hu
   rw [eR] at bad ⊢
   clear eR
   refine wk ?_
   refine PW.loop (fun k:Nat=>((bot.setb 0 (pmanL m)).put 1 (.ptr 0 0)).put 4 (pint k)) (fun k=>k≤m.refs.length∧upR m.refs k) (fun k=>m.refs.length - k) 0 ⟨by omega,fun j hj=>by omega⟩ ?_ ?_
   ·exact sb
   ·rintro k ⟨hk,hu⟩
    by_cases hlt:k < m.refs.length
    ·have hr:=getD_row hlt
     have hr':=ref_cell hr
     have bad2:¬(refOK (m.refs.getD k default)=true∧(0 < k→refLt (m.refs.getD (k - 1) default) (m.refs.getD k default)=true))→(if risesM m.refs=true then (0:Int) else 3)=3:=fun h=>bad (up_bad hlt h)
     clear bad
     obtain ⟨r,hrr⟩:∃r,r=m.refs.getD k default:=⟨_,rfl⟩
     rw [←hrr] at hr hr' bad2
     have hok:refOK r=true↔(1≤r.kind∧r.kind≤9)∧1≤r.id∧r.id≤1099511627776:=by simp [refOK];omega
     have hu2:=fun _:Unit=>hu
     clear hu
     by_cases a1:r.kind < 1
     ·rw [bad2 (fun h=>by have:=hok.1 h.1;omega)]
      refine wk ?_
      exact retP rfl (by exact lw) rfl
     by_cases a2:9 < r.kind
     ·rw [bad2 (fun h=>by have:=hok.1 h.1;omega)]
      refine wk ?_
      exact retP rfl (by exact lw) rfl
     by_cases a3:r.id < 1
     ·rw [bad2 (fun h=>by have:=hok.1 h.1;omega)]
      refine wk ?_
      exact retP rfl (by exact lw) rfl
     by_cases a4:1099511627776 < r.id
     ·rw [bad2 (fun h=>by have:=hok.1 h.1;omega)]
      refine wk ?_
      exact retP rfl (by exact lw) rfl
     have hokr:refOK r=true:=hok.2 (by omega)
     by_cases hk0:k=0
     ·subst hk0
      clear bad2
      refine wk ?_
      refine loopP 1 ⟨by omega,fun j hj=>?_⟩ (by omega) ?_
      ·obtain rfl:j=0:=by omega
       exact ⟨by rw [←hrr];exact hokr,by omega⟩
      ·exact sb
     ·obtain ⟨j,rfl⟩:∃j,k=j+1:=⟨k - 1,by omega⟩
      have ho:=pw_less (m.refs.getD (((j+1:Nat):Int) - 1).toNat default) r
      have ej:(((j+1:Nat):Int) - 1).toNat=j:=by omega
      simp only [Nat.add_sub_cancel] at bad2
      cases hz:refLt (m.refs.getD (((j+1:Nat):Int) - 1).toNat default) r with
      |true=>
       rw [hz] at ho
       clear bad2
       refine wk ?_
       refine loopP (j+2) ⟨by omega,fun i hi=>?_⟩ (by omega) ?_
       ·by_cases hij:i=j+1
        ·subst hij
         rw [←hrr]
         exact ⟨hokr,fun _=>by rw [ej] at hz;exact hz⟩
        ·exact hu2 () i (by omega)
       ·exact sb
      |false=>
       rw [bad2 (fun h=>by have h2:=h.2 (by omega);rw [ej,h2] at hz;cases hz)]
       rw [hz] at ho
       clear bad2
       refine wk ?_
       exact retP rfl (by exact lw) rfl
    ·obtain rfl:k=m.refs.length:=by omega
     have hR:risesM m.refs=true:=(rises_up _).2 hu
     clear hu bad
     rw [if_pos hR]
     clear hR
     refine wk ?_
     exact retP rfl (by exact lw) rfl
end
end Go.Proofs.YtmeekbjhpidcgaaDoor
