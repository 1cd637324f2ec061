/- Out of: Tf. -/
import Derived.Test.YtmeekbjhpidcgaaDoorG28
namespace Go.Proofs.YtmeekbjhpidcgaaDoor
set_option linter.unusedSimpArgs false
set_option linter.unusedVariables false
set_option linter.unnecessarySimpa false
section
open Go.RowKit
theorem refsOf_get:∀(t:List ByteArray) (r:List Int) (i:Nat),r.length=2 * t.length→i < t.length→(refsOf r t)[i]? = some ⟨r.getD (2 * i) default,r.getD (2 * i+1) default,bytesL (t.getD i default)⟩
 | [],r,i,h,hi=>by simp at hi
 |s :: t,r,i,h,hi=>by
  match r,h with
  | [],h=>simp at h
  | [k],h=>simp at h;omega
  |k :: j :: r,h=>
   cases i with
   |zero=>rfl
   |succ i=>
    have ih:=refsOf_get t r i (by simp at h;omega) (by simpa using hi)
    show (refsOf r t)[i]? = _
    rw [ih]
    rfl
theorem refsOf_len (t:List ByteArray) (r:List Int) (h:r.length=2 * t.length):(refsOf r t).length=t.length:=(refsOf_back t r h).2.2
def fldR (L:List PRef) (k:Nat):PV:=.sl k 18 ((L.take k).flatMap prefL) (some 44)
theorem fldR_succ {L:List PRef} {k:Nat} {x:PRef} (h:L[k]? = some x):fldR L (k+1) = .sl (k+1) 18 ((L.take k).flatMap prefL ++ prefL x) (some 44):=by
 rw [fldR,List.take_add_one,h]
 simp [List.flatMap_append]
def manC (v:Int) (ns:List Int) (p:PV):List PV := [pint v,pints ns,p]
theorem low_fldR (L:List PRef) (k:Nat):Low (fldR L k):=.sl _ _ _ _ (low_rows _)
theorem low_manC (v:Int) (ns:List Int) (L:List PRef) (k:Nat):∀c∈manC v ns (fldR L k),Low c:=by
 intro c hc
 simp only [manC,List.mem_cons,List.not_mem_nil,or_false] at hc
 rcases hc with rfl|rfl|rfl
 ·exact .val _
 ·exact (low_pints _).2 trivial
 ·exact low_fldR L k
def nilM:List PV := [pint 0, .nilsl, .nilsl]
theorem low_nilM:∀c∈nilM,Low c:=by
 intro c hc
 simp only [nilM,List.mem_cons,List.not_mem_nil,or_false] at hc
 rcases hc with rfl|rfl|rfl
 ·exact .val _
 ·exact .nilsl
 ·exact .nilsl
theorem weak_nilM:Weak (.agg nilM) (pman zeroM):=.agg (.cons (.refl _) (.cons (.nil 1) (.cons (.nil 18) .nil)))
def pmanO:Option PMan→PV
 |none=>.tup [pman zeroM,pint 11]
 |some m=>.tup [pman m,pint 0]
theorem weak_none:Weak (.tup [.agg nilM,pint 11]) (pmanO none):=.tup (.cons weak_nilM (.cons (.refl _) .nil))
theorem low_none:Low (.tup [.agg nilM,pint 11]):=low_tup.2 (by simp only [List.mem_cons,List.not_mem_nil,or_false];rintro x (rfl|rfl);exact .agg _ low_nilM;exact .val _)
theorem strC_eq (s:ByteArray):strC s=(bytesL s).map pbyte:=by simp [strC,bytesL,pbyte]
theorem strC_dig {s:ByteArray} (k i:Int) (h:s.size=16):strC s=digL ⟨k,i,bytesL s⟩:=by
 rw [strC_eq]
 have hl:(bytesL s).length=16:=by rw [bytesL_len,h]
 unfold digL dg
 simp only
 generalize bytesL s=d at hl
 match d,hl with
 | [_,_,_,_,_,_,_,_,_,_,_,_,_,_,_,_],_=>rfl
theorem low_pmanO (o:Option PMan):Low (pmanO o):=by
 cases o<;>exact .tup _ (by simp only [List.mem_cons,List.not_mem_nil,or_false];rintro x (rfl|rfl);exact (low_pman _).2 trivial;exact .val _)
set_option maxRecDepth 10000 in
set_option maxHeartbeats 8000000 in
theorem pw_mDecode (bs:List Int) (hby:Byte bs) (hl:bs.length≤1000000000):PCalls Tryd.prog 55 [pbytes bs] (· = pmanO (decA bs)):=by
 have hln:=low_nilM
 refine PCalls.weak ?_
 refine pcalls_of_pw typeTab_ok Tryd.func55 rfl (by kernel_rfl) (by simp [low_pint,low_pints,low_pstr,low_pbool,low_pbytes,low_pstrs]) (by simp [pint,pints,pstr,pbool,pstrs,pbytes,PV.ownB]) (by rw [Tryd.ntmps55];simp) ?_
 rw [Tryd.ntmps55,Tryd.results55]
 have cg:=pcGetInts bs hby (by omega)
 obtain ⟨a,u,er,h1⟩:∃a u er,getInts bs=(a,u,er):=⟨_,_,_,rfl⟩
 rw [h1] at cg
 simp only at cg
 refine wk ?_
 by_cases g1:er=0
 case neg=>
  refine wk ?_
  refine retP (r:=.tup [.agg nilM,pint 11]) rfl low_none ?_
  have hD:decA bs=none:=by rw [decA,h1,if_pos (.inl g1)]
  rw [hD];exact weak_none
 subst g1
 obtain ⟨t1,t2,t3⟩:=getInts_take bs a u hby.all h1
 have t4:=getInts_short bs a u hby.all h1
 refine wk ?_
 by_cases g2:a.length=0
 ·refine wk ?_
  refine retP (r:=.tup [.agg nilM,pint 11]) rfl low_none ?_
  have hD:decA bs=none:=by rw [decA,h1,if_pos (.inr (List.eq_nil_of_length_eq_zero g2))]
  rw [hD];exact weak_none
 obtain ⟨U,rfl⟩:∃N:Nat,u=N:=⟨u.toNat,by omega⟩
 have cg2:=pcGetInts (bs.drop U) (hby.drop U) (by rw [List.length_drop];omega)
 obtain ⟨b,v,er,h2⟩:∃b v er,getInts (bs.drop U)=(b,v,er):=⟨_,_,_,rfl⟩
 rw [h2] at cg2
 simp only at cg2
 have hne:¬((0:Int)≠0∨a = []):=by rintro (h|h);exact h rfl;rw [h] at g2;exact g2 rfl
 have hD:decA bs=if er≠0 then none else
   if (getStrs (bs.drop (U+v.toNat))).2.2≠0∨b.length≠2 * (getStrs (bs.drop (U+v.toNat))).1.length then none
   else if (getStrs (bs.drop (U+v.toNat))).1.any (fun s=>decide (s.size≠16))=true then none
   else if checkM 1 2 ⟨a.headD 0,a.tail,refsOf b (getStrs (bs.drop (U+v.toNat))).1⟩≠0∨encM ⟨a.headD 0,a.tail,refsOf b (getStrs (bs.drop (U+v.toNat))).1⟩≠bs then none else some ⟨a.headD 0,a.tail,refsOf b (getStrs (bs.drop (U+v.toNat))).1⟩:=by
  rw [decA,h1]
  simp only
  rw [if_neg hne,Int.toNat_natCast,h2]
 clear hne h1 t1
 refine wk ?_
 by_cases g3:er=0
 case neg=>
  refine wk ?_
  refine retP (r:=.tup [.agg nilM,pint 11]) rfl low_none ?_
  rw [hD,if_pos g3];exact weak_none
 subst g3
 rw [if_neg (by simp)] at hD
 obtain ⟨t5,t6,t7⟩:=getInts_take (bs.drop U) b v (hby.drop U).all h2
 have t8:=getInts_short (bs.drop U) b v (hby.drop U).all h2
 obtain ⟨V,rfl⟩:∃N:Nat,v=N:=⟨v.toNat,by omega⟩
 rw [Int.toNat_natCast] at hD
 rw [List.length_drop] at t7 t8
 have eUV:((U:Int)+V).toNat=U+V:=by omega
 have cs:=pcGetStrs (bs.drop (U+V)) (hby.drop (U+V)) (by rw [List.length_drop];omega)
 obtain ⟨d,w,er,h3⟩:∃d w er,getStrs (bs.drop (U+V))=(d,w,er):=⟨_,_,_,rfl⟩
 rw [h3] at cs hD
 simp only at cs hD
 clear h2 t5
 refine wk ?_
 by_cases g4:er=0
 case neg=>
  refine wk ?_
  refine retP (r:=.tup [.agg nilM,pint 11]) rfl low_none ?_
  rw [hD,if_pos (.inl g4)];exact weak_none
 subst g4
 have t9:=getStrs_len (bs.drop (U+V)) d w (hby.drop (U+V)).all h3
 have t10:=t9.1
 have t11:=t9.2
 rw [List.length_drop] at t10
 clear t9 h3
 by_cases g5:b.length=2 * d.length
 case neg=>
  refine wk ?_
  refine retP (r:=.tup [.agg nilM,pint 11]) rfl low_none ?_
  rw [hD,if_pos (.inr g5)];exact weak_none
 rw [if_neg (by simp [g5])] at hD
 obtain ⟨L,hL⟩:∃L,L=refsOf b d:=⟨_,rfl⟩
 rw [←hL] at hD
 have hLl:L.length=d.length:=by rw [hL];exact refsOf_len d b g5
 have hLg:∀i,i < d.length→L[i]? = some ⟨b.getD (2 * i) default,b.getD (2 * i+1) default,bytesL (d.getD i default)⟩:=fun i hi=>by rw [hL];exact refsOf_get d b i g5 hi
 obtain ⟨v0,ns,rfl⟩:∃v0 ns,a=v0 :: ns:=by cases a with|nil=>exact absurd rfl g2|cons x y=>exact ⟨x,y,rfl⟩
 simp only [List.headD_cons,List.tail_cons] at hD
 have hbad:(∃i,i < d.length∧(d.getD i default).size≠16)→decA bs=none:=fun ⟨i,hi,h⟩=>by
  rw [hD,if_pos]
  rw [List.any_eq_true]
  refine ⟨d.getD i default,?_,by simpa using h⟩
  rw [List.getD_eq_getElem?_getD,List.getElem?_eq_getElem hi];exact List.getElem_mem hi
 clear hL
 have hDu:=fun _:Unit=>hD
 clear hD
 refine wk ?_
 refine PW.loop (fun i:Nat=>((((((((((((bot.setb 0 nilM).setb 10006 (manC v0 ns (fldR L i))).put 0 (pbytes bs)).put 2 (.ptr 0 0)).put 7 (pints b)).put 9 (pstrs d)).put 11 (.ptr 10006 0)).put 66 (pstrs d)).put 67 (pint d.length)).put 68 (pint i))).put 3 (pint 0))) (fun i=>i≤d.length∧∀j,j < i→(d.getD j default).size=16) (fun i=>d.length - i) 0 ⟨by omega,fun j hj=>by omega⟩ ?_ ?_
 ·have hlm:=low_manC v0 ns L 0
  exact sb
 ·rintro i ⟨hi,hs⟩
  have hlm:=low_manC v0 ns L i
  by_cases hlt:i < d.length
  ·have hsu:=fun _:Unit=>hs
   clear hs
   refine wk ?_
   by_cases g6:(d.getD i default).size=16
   case neg=>
    refine wk ?_
    refine retP (r:=.tup [.agg nilM,pint 11]) rfl low_none ?_
    rw [hbad ⟨i,hlt,g6⟩];exact weak_none
   have hx:=hLg i hlt
   have hfs:=fldR_succ hx
   have hlm2:=low_manC v0 ns L (i+1)
   have hdr:=strC_dig (b.getD (2 * i) default) (b.getD (2 * i+1) default) g6
   refine wk ?_
   refine PWops.bytS rfl rfl rfl rfl rfl rfl rfl rfl rfl rfl rfl rfl (by omega) g6 hdr ?_
   refine wk ?_
   refine loopP (i+1) ⟨by omega,fun j hj=>?_⟩ (by omega) ?_
   ·by_cases hj2:j=i
    ·subst hj2;exact g6
    ·exact hsu () j (by omega)
   rw [hfs] at hlm2
   try dsimp only
   rw [hfs]
   exact sb
  ·obtain rfl:i=d.length:=by omega
   have hany:d.any (fun s=>decide (s.size≠16))=false:=by
    rw [List.any_eq_false]
    intro s hs'
    obtain ⟨j,hj,rfl⟩:=List.getElem_of_mem hs'
    have:=hs j hj
    rw [List.getD_eq_getElem?_getD,List.getElem?_eq_getElem hj] at this
    simpa using this
   have hdg:∀r∈L,r.dig.length=16∧∀c∈r.dig,0≤c∧c < 256:=by
    intro r hr
    obtain ⟨j,hj,rfl⟩:=List.getElem_of_mem hr
    have h4:=hLg j (by omega)
    rw [List.getElem?_eq_getElem hj,Option.some.injEq] at h4
    rw [h4]
    simp only
    exact ⟨by rw [bytesL_len];exact hs j (by omega),bytesL_byte _⟩
   have hD:=hDu ()
   rw [hany,if_neg (by simp)] at hD
   clear hany hs hLg hbad hDu t11 cs cg cg2
   simp only [List.length_cons] at t4
   have e0:L.take d.length=L:=List.take_of_length_le (by omega)
   have hm1:ns.length≤1000000000:=by omega
   have hm2:L.length≤1000000000:=by omega
   have hck:=pw_mCheck ⟨v0,ns,L⟩ hm1 hm2
   have hcod:checkM 2 3 ⟨v0,ns,L⟩=0↔checkM 1 2 ⟨v0,ns,L⟩=0:=by unfold checkM;repeat' split<;>simp
   have hD2:decA bs=if checkM 1 2 ⟨v0,ns,L⟩≠0∨encM ⟨v0,ns,L⟩≠bs then none else some ⟨v0,ns,L⟩:=hD
   have hd' : DigsOK ⟨v0,ns,L⟩:=hdg
   clear hD hdg
   have hlp:Low (pints ns):=(low_pints _).2 trivial
   have hlr:Low (prefs L):=(low_prefs _).2 trivial
   have hl3:=low_pmanL ⟨v0,ns,L⟩
   unfold fldR
   rw [e0,←hLl]
   by_cases z0:checkM 1 2 ⟨v0,ns,L⟩=0
   ·have z1:=hcod.2 z0
    rw [z1] at hck
    obtain ⟨n1,n2,hrM⟩:=checkM_ok (by decide) (by decide) z0
    obtain ⟨q1,q2⟩:=rightM_fit hrM
    have hEnc:=pw_mEncode ⟨v0,ns,L⟩ ⟨q1,q2,hd',by omega,by omega⟩
    have hbe:=pw_bytesEqual (encM ⟨v0,ns,L⟩) bs (Byte.of encM_byte) hby
    by_cases z2:encM ⟨v0,ns,L⟩=bs
    ·rw [hD2,if_neg (by rintro (h|h);exact h z0;exact h z2)]
     rw [decide_eq_true z2] at hbe
     clear hD2 hcod hd' hrM q1 q2
     refine wk ?_
     exact retP (r:=pmanO (some ⟨v0,ns,L⟩)) rfl (low_pmanO _) (Weak.refl _)
    ·rw [hD2,if_pos (.inr z2)]
     rw [decide_eq_false z2] at hbe
     clear hD2 hcod hd' hrM q1 q2
     refine wk ?_
     exact retP (r:=.tup [.agg nilM,pint 11]) rfl low_none weak_none
   ·have z1:checkM 2 3 ⟨v0,ns,L⟩≠0:=fun h=>z0 (hcod.1 h)
    rw [hD2,if_pos (.inl z0)]
    clear hD2 hd' hcod z0
    generalize checkM 2 3 ⟨v0,ns,L⟩=z at *
    refine wk ?_
    exact retP (r:=.tup [.agg nilM,pint 11]) rfl low_none weak_none
end
end Go.Proofs.YtmeekbjhpidcgaaDoor
