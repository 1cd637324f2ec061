/- Merged: Vf. -/
import Derived.Test.YtoamkpgaaanafaaGreatS35
/- The specification's sums: single, words, joined, Join, Of. -/
namespace Go.Proofs.YtoamkpgaaanafaaGreat
set_option linter.unusedSimpArgs false
set_option linter.unusedVariables false
set_option linter.unnecessarySimpa false
open Go.RowKit
set_option maxRecDepth 10000 in
set_option maxHeartbeats 2000000 in
theorem pw_rWords (a b:List ByteArray) (h1:a.length≤1000000) (h2:b.length≤1000000):PCalls Tryz.prog 198 [pstrs a,pstrs b] (· = pstrs (mergeW a b)):=by
 refine PCalls.weak ?_
 refine pcalls_of_pw typeTab_ok Tryz.func198 rfl (by kernel_rfl) (by simp [low_pint,low_pints,low_pstr,low_pbool,low_pbox,low_pvecs,low_pentry,low_pentries,low_psum,low_pschema,low_pshells,low_pstrs,low_pfld,low_pdef]) (by simp [pint,pints,pstr,pbool,pbox,pvecs,pentry,pentries,psum,psumL,pschema,pshells,pstrs,pfld,pfldL,pdefL,PV.ownB]) (by rw [Tryz.ntmps198];simp) ?_
 rw [Tryz.ntmps198,Tryz.results198]
 refine wk ?_
 refine PW.loop (fun x:Nat×Nat×List ByteArray=>(bot.put 0 (pstrs a) |>.put 1 (pstrs b) |>.put 5 (.sl x.2.2.length 1 (x.2.2.map pstr) (some 9)) |>.put 6 (pint x.1) |>.put 7 (pint x.2.1))) (fun x=>x.1≤a.length∧x.2.1≤b.length∧x.2.2.length≤x.1+x.2.1∧x.2.2 ++ mergeW (a.drop x.1) (b.drop x.2.1)=mergeW a b) (fun x=>(a.length - x.1)+(b.length - x.2.1)) (0,0,[]) ⟨by simp,by simp,by simp,by simp⟩ ?_ ?_
 ·exact sb
 rintro ⟨i,j,out⟩ ⟨hi,hj,hl,he⟩
 simp only at hi hj hl he ⊢
 have hlo:∀x,Low (.sl (out.length+1) 1 (out.map pstr ++ [pstr x]) (some 9)):=fun x=>.sl _ _ _ _ fun c hc=>by
  rcases List.mem_append.1 hc with h|h
  ·obtain ⟨z,-,rfl⟩:=List.mem_map.1 h;exact .val _
  ·simp only [List.mem_cons,List.not_mem_nil,or_false] at h;subst h;exact .val _
 have takeA:i < a.length→a.drop i=a.getD i default :: a.drop (i+1):=fun h=>by rw [getD_atW h];exact List.drop_eq_getElem_cons h
 have takeB:j < b.length→b.drop j=b.getD j default :: b.drop (j+1):=fun h=>by rw [getD_atW h];exact List.drop_eq_getElem_cons h
 have e1:∀x:ByteArray,PV.sl (out ++ [x]).length 1 ((out ++ [x]).map pstr) (some 9) = .sl (out.length+1) 1 (out.map pstr ++ [pstr x]) (some 9):=fun x=>by
  rw [List.length_append,List.map_append];rfl
 by_cases h1:i < a.length
 ·by_cases h2:j < b.length
  ·rw [takeA h1,takeB h2,mergeW] at he
   cases q1:Op.bytesLess (a.getD i default).toList (b.getD j default).toList with
   |true=>
    rw [if_pos q1] at he
    refine wk ?_
    refine loopP (i+1,j,out ++ [a.getD i default]) ⟨by simp only;omega,hj,by simp;omega,?_⟩ (by simp only;omega) ?_
    ·simp only
     rw [List.append_assoc,takeB h2];exact he
    ·simp only [e1]
     have hlo1:=hlo (a.getD i default)
     exact sb
   |false=>
    rw [if_neg (by rw [q1];decide)] at he
    cases q2:((a.getD i default).toList == (b.getD j default).toList) with
    |true=>
     rw [if_pos q2] at he
     refine wk ?_
     refine loopP (i+1,j+1,out ++ [b.getD j default]) ⟨by simp only;omega,by simp only;omega,by simp;omega,?_⟩ (by simp only;omega) ?_
     ·simp only
      rw [List.append_assoc];exact he
     ·simp only [e1]
      have hlo1:=hlo (b.getD j default)
      exact sb
    |false=>
     rw [if_neg (by rw [q2];decide)] at he
     refine wk ?_
     refine loopP (i,j+1,out ++ [b.getD j default]) ⟨hi,by simp only;omega,by simp;omega,?_⟩ (by simp only;omega) ?_
     ·simp only
      rw [List.append_assoc,takeA h1];exact he
     ·simp only [e1]
      have hlo1:=hlo (b.getD j default)
      exact sb
  ·have hjj:j=b.length:=by omega
   rw [takeA h1,show b.drop j = [] from List.drop_eq_nil_of_le (by omega),mergeW] at he
   refine wk ?_
   refine loopP (i+1,j,out ++ [a.getD i default]) ⟨by simp only;omega,hj,by simp;omega,?_⟩ (by simp only;omega) ?_
   ·simp only
    rw [List.append_assoc,show b.drop j = [] from List.drop_eq_nil_of_le (by omega),mergeW_nil];exact he
   ·simp only [e1]
    have hlo1:=hlo (a.getD i default)
    exact sb
 ·have hii:i=a.length:=by omega
  rw [show a.drop i = [] from List.drop_eq_nil_of_le (by omega)] at he
  by_cases h2:j < b.length
  ·rw [takeB h2,mergeW] at he
   refine wk ?_
   refine loopP (i,j+1,out ++ [b.getD j default]) ⟨hi,by simp only;omega,by simp;omega,?_⟩ (by simp only;omega) ?_
   ·simp only
    rw [List.append_assoc,show a.drop i = [] from List.drop_eq_nil_of_le (by omega),mergeW];exact he
   ·simp only [e1]
    have hlo1:=hlo (b.getD j default)
    exact sb
  ·rw [show b.drop j = [] from List.drop_eq_nil_of_le (by omega),mergeW,List.append_nil] at he
   subst he
   refine wk ?_
   refine retP (r:=.sl (mergeW a b).length 1 ((mergeW a b).map pstr) none) rfl ((low_pstrs _).2 trivial) (Weak.refl _)
set_option maxRecDepth 10000 in
set_option maxHeartbeats 2000000 in
theorem pw_rJoined (a b:PField) (ha:a.words.length≤100000) (hb:b.words.length≤100000) (na : -1000000≤a.has∧a.has≤1000000) (nb : -1000000≤b.has∧b.has≤1000000):PCalls Tryz.prog 115 [pfld a,pfld b] (· = pfld (joinR a b)):=by
 have c1:=pw_rWords a.words b.words (by omega) (by omega)
 have hla:=low_pfldL a
 have hlb:=low_pfldL b
 have hlj:=low_pfldL (joinR a b)
 obtain ⟨n1,n2⟩:=na
 obtain ⟨n3,n4⟩:=nb
 refine PCalls.weak ?_
 refine pcalls_of_pw typeTab_ok Tryz.func115 rfl (by kernel_rfl) (by simp [low_pint,low_pints,low_pstr,low_pbool,low_pbox,low_pvecs,low_pentry,low_pentries,low_psum,low_pschema,low_pshells,low_pstrs,low_pfld,low_pdef]) (by simp [pint,pints,pstr,pbool,pbox,pvecs,pentry,pentries,psum,psumL,pschema,pshells,pstrs,pfld,pfldL,pdefL,PV.ownB]) (by rw [Tryz.ntmps115];simp) ?_
 rw [Tryz.ntmps115,Tryz.results115]
 unfold joinR at *
 by_cases q1:a.has=0
 ·rw [if_pos q1] at *
  unfold pfld pfldL at *
  refine wk ?_
  have e:PV.sl (0+b.words.length) 1 ([] ++ b.words.map pstr) none=pstrs b.words:=sl_eq (by omega) (by simp)
  refine retP (r:=.agg [pint b.has,pint b.lo,pint b.hi, .sl (0+b.words.length) 1 ([] ++ b.words.map pstr) none]) rfl (by rw [e];exact .agg _ hlb) (by rw [e];exact Weak.refl _)
 ·rw [if_neg q1] at *
  by_cases q2:b.has=0
  ·rw [if_pos q2] at *
   unfold pfld pfldL at *
   refine wk ?_
   have e:PV.sl (0+a.words.length) 1 ([] ++ a.words.map pstr) none=pstrs a.words:=sl_eq (by omega) (by simp)
   refine retP (r:=.agg [pint a.has,pint a.lo,pint a.hi, .sl (0+a.words.length) 1 ([] ++ a.words.map pstr) none]) rfl (by rw [e];exact .agg _ hla) (by rw [e];exact Weak.refl _)
  ·rw [if_neg q2] at *
   unfold pfld pfldL at *
   refine wk ?_
   exact retP (r:=.agg [pint (a.has+b.has),pint (mnI a.lo b.lo),pint (mxI a.hi b.hi),pstrs (mergeW a.words b.words)]) rfl (.agg _ hlj) (Weak.refl _)
/- The sum of one entry. -/
def sglS (s:PSchema) (pv:List (List Int)) (e:PEntry):List PShell:=pv.map fun p=>⟨keyV s.metric p e.vec,keyV s.metric p e.vec⟩
theorem sglS_take {s:PSchema} {pv:List (List Int)} {e:PEntry} {k:Nat} (h:k < pv.length):((sglS s pv e).take (k+1)).flatMap pshL=((sglS s pv e).take k).flatMap pshL ++ pshL ⟨keyV s.metric (pv.getD k default) e.vec,keyV s.metric (pv.getD k default) e.vec⟩:=by
 rw [List.take_add_one,List.flatMap_append]
 congr 1
 rw [getD_atW h]
 simp [sglS,h]
def rawF (d:PDef) (e:PEntry):List PV:=if (getA e.attrs d.name).2=true then [pint 1,pint (getA e.attrs d.name).1.n,pint (getA e.attrs d.name).1.n,if d.kind=2 then .sl 1 1 [pstr (getA e.attrs d.name).1.s] none else .nilsl] else [pint 0,pint 0,pint 0, .nilsl]
theorem rawF_weak (d:PDef) (e:PEntry):WeakL (rawF d e) (pfldL (fldOne d e)):=by
 unfold rawF fldOne
 split
 ·refine .cons (.refl _) (.cons (.refl _) (.cons (.refl _) (.cons ?_ .nil)))
  simp only
  split
  ·exact .refl _
  ·exact .nil 1
 ·exact .cons (.refl _) (.cons (.refl _) (.cons (.refl _) (.cons (.nil 1) .nil)))
theorem rawF_low (d:PDef) (e:PEntry):∀c∈rawF d e,Low c:=by
 intro c hc
 unfold rawF at hc
 split at hc
 ·simp only [List.mem_cons,List.not_mem_nil,or_false] at hc
  rcases hc with rfl|rfl|rfl|rfl
  ·exact .val _
  ·exact .val _
  ·exact .val _
  ·split
   ·exact .sl _ _ _ _ (by intro c hc;simp only [List.mem_cons,List.not_mem_nil,or_false] at hc;subst hc;exact .val _)
   ·exact .nilsl
 ·simp only [List.mem_cons,List.not_mem_nil,or_false] at hc
  rcases hc with rfl|rfl|rfl|rfl
  ·exact .val _
  ·exact .val _
  ·exact .val _
  ·exact .nilsl
def rawK (s:PSchema) (e:PEntry) (k:Nat):List PV:=(s.defs.take k).flatMap fun d=>rawF d e
theorem rawK_succ {s:PSchema} {e:PEntry} {k:Nat} (h:k < s.defs.length):rawK s e (k+1)=rawK s e k ++ rawF (s.defs.getD k default) e:=by
 unfold rawK
 rw [List.take_add_one,List.getElem?_eq_getElem h,getD_atW h,Option.toList_some,List.flatMap_append]
 simp only [List.flatMap_cons,List.flatMap_nil,List.append_nil]
theorem rawK_low (s:PSchema) (e:PEntry) (k:Nat):∀c∈rawK s e k,Low c:=by
 intro c hc
 obtain ⟨d,-,hd⟩:=List.mem_flatMap.1 hc
 exact rawF_low d e c hd
theorem WeakL.append {a b c d:List PV} (h:WeakL a b) (k:WeakL c d):WeakL (a ++ c) (b ++ d):=by
 induction h with
 |nil=>exact k
 |cons h1 _ ih=>exact .cons h1 ih
theorem rawK_weak (e:PEntry):∀l:List PDef,WeakL (l.flatMap fun d=>rawF d e) ((l.map fun d=>fldOne d e).flatMap pfldL)
 | []=>.nil
 |d :: r=>by
  rw [List.flatMap_cons,List.map_cons,List.flatMap_cons]
  exact WeakL.append (rawF_weak d e) (rawK_weak e r)
def vecC (e:PEntry):PV:=.sl (0+e.vec.length) 1 ([] ++ e.vec.map pint) none
theorem vecC_eq (e:PEntry):vecC e=pints e.vec:=sl_eq (by omega) (by simp)
theorem low_vecC (e:PEntry):Low (vecC e):=by rw [vecC_eq];exact (low_pints _).2 trivial
set_option maxRecDepth 10000 in
set_option maxHeartbeats 4000000 in
theorem pw_rSingle (s:PSchema) (pv:List (List Int)) (e:PEntry) (hm:keyB s.metric=true) (h1:pv.length≤1000) (hp:∀k,k < pv.length→vecB (pv.getD k default)=true∧(pv.getD k default).length=e.vec.length) (hv:vecB e.vec=true) (ha:e.attrs.length≤1000000) (hd:s.defs.length≤1000):PCalls Tryz.prog 61 [pschema s,pvecs pv,pentry e] (· = psum (singleP s pv e)):=by
 have hv2:e.vec.length≤32:=(vecB_get hv).1.2
 have hls:=low_schCells s
 have hle:=low_entCells e
 have hlp:Low (pvecs pv):=(low_pvecs _).2 trivial
 have hzn:=low_zNil
 have hlv:=low_vecC e
 have hlA:∀k,∀c∈zC (tOne e) 1 (vecC e) (vecC e) (.sl k 2 (((sglS s pv e).take k).flatMap pshL) (some 119)) .nilsl,Low c:=fun k=>low_zC hlv hlv (low_shown _ _ _) .nilsl
 have hlB:∀k,∀c∈zC (tOne e) 1 (vecC e) (vecC e) (.sl pv.length 2 ((sglS s pv e).flatMap pshL) (some 119)) (.sl k 4 (rawK s e k) (some 100)),Low c:=fun k=>low_zC hlv hlv (low_shown _ _ _) (.sl _ _ _ _ (rawK_low s e k))
 refine PCalls.weak ?_
 refine pcalls_of_pw typeTab_ok Tryz.func61 rfl (by kernel_rfl) (by simp [low_pint,low_pints,low_pstr,low_pbool,low_pbox,low_pvecs,low_pentry,low_pentries,low_psum,low_pschema,low_pshells,low_pstrs,low_pfld,low_pdef]) (by simp [pint,pints,pstr,pbool,pbox,pvecs,pentry,pentries,psum,psumL,pschema,pshells,pstrs,pfld,pfldL,pdefL,PV.ownB]) (by rw [Tryz.ntmps61];simp) ?_
 rw [Tryz.ntmps61,Tryz.results61]
 refine wk ?_
 refine PW.loop (fun k:Nat=>(bot.setb 0 (schCellsP s) |>.setb 1 (entCellsP e) |>.setb 2 zNil |>.setb 1020 (zC (tOne e) 1 (vecC e) (vecC e) (.sl k 2 (((sglS s pv e).take k).flatMap pshL) (some 119)) .nilsl) |>.put 1 (pvecs pv) |>.put 3 (.ptr 0 0) |>.put 5 (.ptr 1 0) |>.put 6 (.ptr 2 0) |>.put 7 (.ptr 1020 0) |>.put 8 (pint k))) (fun k=>k≤pv.length) (fun k=>pv.length - k) 0 (by omega) ?_ ?_
 ·exact sb
 intro k hk
 have hlAk:=hlA k
 by_cases hlt:k < pv.length
 ·obtain ⟨b1,b2⟩:=hp k hlt
  have ck:=pw_r4Key s.metric (pv.getD k default) e.vec hm b1 hv b2
  have hlA1:=hlA (k+1)
  rw [sglS_take hlt] at hlA1
  refine wk ?_
  refine loopP (k+1) (by omega) (by omega) ?_
  simp only [sglS_take hlt]
  exact sb
 have hkk:k=pv.length:=by omega
 subst hkk
 have eS:(sglS s pv e).take pv.length=sglS s pv e:=List.take_of_length_le (by simp [sglS])
 rw [eS] at hlAk ⊢
 have hlB0:=hlB 0
 have hlS:Low (.sl pv.length 2 ((sglS s pv e).flatMap pshL) (some 119)):=low_shown _ _ _
 refine wk ?_
 refine PW.loop (fun k:Nat=>(bot.setb 0 (schCellsP s) |>.setb 1 (entCellsP e) |>.setb 2 zNil |>.setb 1020 (zC (tOne e) 1 (vecC e) (vecC e) (.sl pv.length 2 ((sglS s pv e).flatMap pshL) (some 119)) (.sl k 4 (rawK s e k) (some 100))) |>.put 3 (.ptr 0 0) |>.put 5 (.ptr 1 0) |>.put 6 (.ptr 2 0) |>.put 7 (.ptr 1020 0) |>.put 10 (pint k))) (fun k=>k≤s.defs.length) (fun k=>s.defs.length - k) 0 (by omega) ?_ ?_
 ·exact sb
 intro k hk
 have hlBk:=hlB k
 by_cases hlt:k < s.defs.length
 ·have cg:=pcRefGet e.attrs (s.defs.getD k default).name ha
  have hlB1:=hlB (k+1)
  rw [rawK_succ hlt] at hlB1
  have hraw:=rawF_low (s.defs.getD k default) e
  cases q1:(getA e.attrs (s.defs.getD k default).name).2 with
  |false=>
   rw [q1] at cg
   have er:rawF (s.defs.getD k default) e = [pint 0,pint 0,pint 0, .nilsl]:=by rw [rawF,if_neg (by rw [q1];decide)]
   rw [er] at hlB1 hraw
   refine wk ?_
   refine loopP (k+1) (by omega) (by omega) ?_
   simp only [rawK_succ hlt,er]
   exact sb
  |true=>
   rw [q1] at cg
   by_cases q2:(s.defs.getD k default).kind=2
   ·have er:rawF (s.defs.getD k default) e = [pint 1,pint (getA e.attrs (s.defs.getD k default).name).1.n,pint (getA e.attrs (s.defs.getD k default).name).1.n, .sl 1 1 [pstr (getA e.attrs (s.defs.getD k default).name).1.s] none]:=by rw [rawF,if_pos q1,if_pos q2]
    rw [er] at hlB1 hraw
    refine wk ?_
    refine loopP (k+1) (by omega) (by omega) ?_
    simp only [rawK_succ hlt,er]
    exact sb
   ·have er:rawF (s.defs.getD k default) e = [pint 1,pint (getA e.attrs (s.defs.getD k default).name).1.n,pint (getA e.attrs (s.defs.getD k default).name).1.n, .nilsl]:=by rw [rawF,if_pos q1,if_neg q2]
    rw [er] at hlB1 hraw
    refine wk ?_
    refine loopP (k+1) (by omega) (by omega) ?_
    simp only [rawK_succ hlt,er]
    exact sb
 have hkk:k=s.defs.length:=by omega
 subst hkk
 refine wk ?_
 refine retP (r:=.agg (zC (tOne e) 1 (vecC e) (vecC e) (.sl pv.length 2 ((sglS s pv e).flatMap pshL) none) (.sl s.defs.length 4 (rawK s e s.defs.length) none))) rfl (.agg _ (low_zC hlv hlv (low_shown _ _ _) (.sl _ _ _ _ (rawK_low s e _)))) ?_
 refine Weak.agg ?_
 refine .cons (.refl _) (.cons (Weak.eq (vecC_eq e)) (.cons (Weak.eq (vecC_eq e)) (.cons ?_ (.cons (.refl _) (.cons (.refl _) (.cons (.refl _) (.cons (.refl _) (.cons (.refl _) (.cons ?_ .nil)))))))))
 ·exact Weak.eq (sl_eq (by simp [singleP]) rfl)
 ·unfold rawK
  rw [List.take_length,pflds,singleP,List.length_map]
  exact Weak.sl (rawK_weak e s.defs)
end Go.Proofs.YtoamkpgaaanafaaGreat
