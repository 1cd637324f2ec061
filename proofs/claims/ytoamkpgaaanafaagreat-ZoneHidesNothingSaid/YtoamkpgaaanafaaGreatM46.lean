/- Out of: Uc, We0, Hs. -/
import Derived.Test.YtoamkpgaaanafaaGreatM40
import Derived.Test.YtoamkpgaaanafaaGreatM42
import Derived.Test.YtoamkpgaaanafaaGreatM43
namespace Go.Proofs.YtoamkpgaaanafaaGreat
set_option linter.unusedSimpArgs false
set_option linter.unusedVariables false
set_option linter.unnecessarySimpa false
section
open Go.RowKit
def fewDefs6B (s:PSchema):Bool:=(s.defs.take 7).all smallDefB && decide (s.defs.length≤6)
set_option maxRecDepth 10000 in
set_option maxHeartbeats 1000000 in
theorem pw_fewDefs6 (s:PSchema) (hl:s.defs.length≤20000000000000) (hw:∀d∈s.defs,d.words.length≤20000000000000):PCalls Tryz.prog 50 [pschema s,pint 6] (· = pbool (fewDefs6B s)):=by
 refine pcalls_of_pw typeTab_ok Tryz.func50 rfl (by kernel_rfl) (by exact lw) (by simp [pschema,pint,PV.ownB]) (by rw [Tryz.ntmps50];simp) ?_
 rw [Tryz.ntmps50,Tryz.results50]
 refine wk ?_
 refine PW.loop (fun k:Nat=>((((bot.setb 0 (schCellsP s)).put 1 (pint 6)).put 2 (.ptr 0 0)).put 4 (pbool false)).put 5 (pint k)) (fun k=>k≤s.defs.length∧k≤7∧(s.defs.take k).all smallDefB=true) (fun k=>s.defs.length - k) 0 ⟨by omega,by omega,by simp⟩ ?_ ?_
 ·exact sb
 ·rintro k ⟨hk,hk2,hall⟩
  by_cases hlt:k < s.defs.length
  ·by_cases h20:k≤6
   ·obtain ⟨d,hd⟩:=ints_get s.defs k hlt
    have hrow:=flatMap_row (f:=pdefL) (k:=5) (fun _=>rfl) hd
    have hlen:=flatMap_len (f:=pdefL) (k:=5) (fun _=>rfl) s.defs
    have hbad:smallDefB d=false→fewDefs6B s=false:=by
     intro hs
     have:(s.defs.take 7).all smallDefB=false:=by
      rw [List.all_eq_false]
      exact ⟨d,by rw [List.mem_take_iff_getElem];obtain ⟨h3,h4⟩:=List.getElem?_eq_some_iff.1 hd;exact ⟨k,by omega,h4⟩,by simp [hs]⟩
     simp [fewDefs6B,this]
    have hwl:=hw d (mem_of_get hd)
    have hrow' : (((s.defs.flatMap pdefL).drop (k * 5)).take 5).map PV.bare=pdefL d:=by rw [hrow];rfl
    by_cases h60:60 < d.words.length
    ·refine wk ?_
     refine retP rfl (by exact lw) ?_
     rw [hbad (by simp [smallDefB];omega)];rfl
    ·by_cases h100:100 < d.name.size
     ·refine wk ?_
      refine retP rfl (by exact lw) ?_
      rw [hbad (by simp [smallDefB];omega)];rfl
     ·refine wk ?_
      refine PW.loop (fun j:Nat=>((((((bot.setb 0 (schCellsP s)).setb 4005 (pdefL d)).put 1 (pint 6)).put 2 (.ptr 0 0)).put 4 (pbool false)).put 5 (pint k)).put 6 (.ptr 4005 0) |>.put 7 (pint j)) (fun j=>j≤d.words.length∧(d.words.take j).all (fun s=>decide (s.size≤100))=true) (fun j=>d.words.length - j) 0 ⟨by omega,by simp⟩ ?_ ?_
      ·exact sb
      ·rintro j ⟨hj,hja⟩
       by_cases hjl:j < d.words.length
       ·obtain ⟨x,hx⟩:=ints_get d.words j hjl
        have hx':=map_get (f:=pstr) hx
        by_cases hx100:100 < x.size
        ·refine wk ?_
         refine retP rfl (by exact lw) ?_
         rw [hbad ?_]
         ·rfl
         ·have:d.words.all (fun s=>decide (s.size≤100))=false:=by
           rw [List.all_eq_false];exact ⟨x,mem_of_get hx,by simp;omega⟩
          simp [smallDefB,this]
        ·refine wk ?_
         refine loopP (j+1) ⟨by omega,?_⟩ (by omega) ?_
         ·rw [List.take_add_one,List.all_append,hja,hx]
          simp;omega
         ·exact sb
       ·have hwa:d.words.all (fun s=>decide (s.size≤100))=true:=by rw [List.take_of_length_le (by omega)] at hja;exact hja
        refine wk ?_
        refine loopP (k+1) ⟨by omega,by omega,?_⟩ (by omega) ?_
        ·rw [List.take_add_one,List.all_append,hall,hd]
         simp only [Option.toList_some,List.all_cons,List.all_nil,Bool.and_true,Bool.true_and]
         simp only [smallDefB,hwa,Bool.and_true,Bool.and_eq_true,decide_eq_true_eq];omega
        ·exact sb
   ·have hr:fewDefs6B s=false:=by simp [fewDefs6B];omega
    have h20' : ¬s.defs.length≤6:=by omega
    refine wk ?_
    refine retP rfl (by exact lw) ?_
    rw [hr];rfl
  ·have e21:(s.defs.take 7).all smallDefB=true:=by
    rw [List.take_of_length_le (by omega)] at hall
    rw [List.all_eq_true] at hall ⊢
    exact fun x hx=>hall x (List.mem_of_mem_take hx)
   by_cases h20:s.defs.length≤6
   ·refine wk ?_
    refine retP rfl (by exact lw) ?_
    simp [fewDefs6B,e21,h20,pbool]
   ·refine wk ?_
    refine retP rfl (by exact lw) ?_
    simp [fewDefs6B,h20,pbool]
theorem fewDefs6B_few {s:PSchema} (h:fewDefs6B s=true):FewS s:=by
 simp only [fewDefs6B,Bool.and_eq_true,decide_eq_true_eq,List.all_eq_true] at h
 obtain ⟨h1,h2⟩:=h
 refine ⟨by omega,fun d hd=>?_⟩
 rw [List.take_of_length_le (by omega)] at h1
 have:=h1 d hd
 simpa [smallDefB,FewD] using this
theorem fewDefs6_len {s:PSchema} (h:fewDefs6B s=true):s.defs.length≤6:=by
 simp only [fewDefs6B,Bool.and_eq_true,decide_eq_true_eq] at h
 exact h.2
set_option maxRecDepth 10000 in
theorem pw_lsmall (s:PSchema) (pv:List (List Int)) (hl:s.defs.length≤20000000000000) (hw:∀d∈s.defs,d.words.length≤20000000000000) (hp:pv.length≤20000000000000):PCalls Tryz.prog 11 [pschema s,pvecs pv] (· = pbool (fewDefs6B s && few9 pv 9)):=by
 have c1:=pw_fewDefs6 s hl hw
 have c2:=pw_r9Few pv 9 hp
 have hls:=low_schCells s
 refine pcalls_of_pw typeTab_ok Tryz.func11 rfl (by kernel_rfl) (by simp [low_pint,low_pints,low_pstr,low_pbool,low_pbox,low_pvecs,low_pentry,low_pentries,low_psum,low_pschema,low_pshells,low_pstrs,low_pfld,low_pdef]) (by simp [pint,pints,pstr,pbool,pbox,pvecs,pentry,pentries,psum,psumL,pschema,pshells,pstrs,pfld,pfldL,pdefL,PV.ownB]) (by rw [Tryz.ntmps11];simp) ?_
 rw [Tryz.ntmps11,Tryz.results11]
 cases e1:fewDefs6B s with
 |false=>
  rw [e1] at c1
  refine wk ?_
  exact retP rfl (by exact lw) rfl
 |true=>
  rw [e1] at c1
  cases e2:few9 pv 9 <;>
  ·rw [e2] at c2
   refine wk ?_
   exact retP rfl (by exact lw) rfl
set_option maxRecDepth 10000 in
theorem pw_lright (s:PSchema) (pv:List (List Int)) (hs:SmallS s) (h1:pv.length≤1000000) (h2:∀v∈pv,v.length≤1000000):PCalls Tryz.prog 24 [pschema s,pvecs pv] (· = pbool (decide (checkE s=0) && pivS s pv)):=by
 have c1:=pcRefCheck s hs
 have c2:=pw_rPivots s pv h1 h2
 have hls:=low_schCells s
 refine pcalls_of_pw typeTab_ok Tryz.func24 rfl (by kernel_rfl) (by simp [low_pint,low_pints,low_pstr,low_pbool,low_pbox,low_pvecs,low_pentry,low_pentries,low_psum,low_pschema,low_pshells,low_pstrs,low_pfld,low_pdef]) (by simp [pint,pints,pstr,pbool,pbox,pvecs,pentry,pentries,psum,psumL,pschema,pshells,pstrs,pfld,pfldL,pdefL,PV.ownB]) (by rw [Tryz.ntmps24];simp) ?_
 rw [Tryz.ntmps24,Tryz.results24]
 generalize checkE s=c at *
 by_cases e1:c=0
 ·cases e2:pivS s pv <;>
  ·rw [e2] at c2
   refine wk ?_
   exact retP rfl (by exact lw) (by simp [pbool,e1])
 ·refine wk ?_
  exact retP rfl (by exact lw) (by simp [pbool,e1])
theorem entry_right {s:PSchema} {e:PEntry} (hc:checkE s=0) (h:entryA s e=0):vecB e.vec=true∧(e.vec.length:Int)=s.dims:=by
 rw [entryA_E hc] at h
 exact entryE_vec h
theorem pivS_get {s:PSchema} {pv:List (List Int)} (h:pivS s pv=true):pv.length≤8∧∀k,k < pv.length→vecB (pv.getD k default)=true∧((pv.getD k default).length:Int)=s.dims:=by
 simp only [pivS,Bool.and_eq_true,Bool.not_eq_true',decide_eq_true_eq] at h
 exact ⟨h.2,fun k hk=>wrongV_ok (by rw [h.1];decide) _ (getD_mem hk)⟩
end
section
open Go.RowKit
variable {s:PSchema} {pv:List (List Int)}
theorem sumB_mk {n:Int} {z:PSum} (h:SumV s n z):sumB s n z=true:=by
 simp only [sumB,Bool.and_eq_true,decide_eq_true_eq,withinB_iff,List.all_eq_true,List.mem_range]
 exact ⟨h.count,h.box,h.dims,h.num,h.shells,h.len,⟨h.frm.1,h.frm.2.1⟩,h.frm.2.2,h.to,⟨h.born.1,h.born.2.1⟩,h.born.2.2,h.field⟩
theorem one_list (hc:checkE s=0) (hp:pivS s pv=true) (hS:SmallS s) {l:List PEntry} (h0:0 < l.length) (hl:l.length≤1000) (hA:FitL l) (he:∀e∈l,entryE s e=0) :
  zOf s pv l=(ofL s pv l,0)∧SumOK s pv l∧SumV s pv.length (ofL s pv l)∧SmallZ (ofL s pv l)∧CountZ (ofL s pv l)∧(ofL s pv l).fields.length=s.defs.length∧(ofL s pv l).shells.length=pv.length∧∀e∈l,obeysZ s pv (ofL s pv l) e=true:=by
 obtain ⟨p1,p2⟩:=pivS_get hp
 have hw:¬pv.any (wrongV s)=true:=by
  simp only [pivS,Bool.and_eq_true,Bool.not_eq_true',decide_eq_true_eq] at hp
  rw [hp.1];decide
 have hA0:∀e∈l,entryA s e=0:=fun e h=>by rw [entryA_E hc];exact he e h
 have hk:=sumOK_of hc (by omega) hw he
 obtain ⟨d1,d2,-,-⟩:=of_len hk h0 hl
 obtain ⟨s1,s2,-⟩:=of_small hk h0 hl hS hA
 refine ⟨?_,hk,of_sumV hc hk h0 (by omega) hA0,s1,s2,d1,d2,fun e h=>mem_obeys hc hk (by omega) hA0 h⟩
 unfold zOf
 rw [if_neg ?_,if_neg ?_,if_neg (by omega)]
 ·rintro (h|h)
  ·omega
  ·rw [List.any_eq_true] at h
   obtain ⟨e,h1,h2⟩:=h
   rw [hA0 e h1] at h2
   simp at h2
 ·rintro (h|h|h)
  ·exact h hc
  ·omega
  ·exact hw h
end
end Go.Proofs.YtoamkpgaaanafaaGreat
