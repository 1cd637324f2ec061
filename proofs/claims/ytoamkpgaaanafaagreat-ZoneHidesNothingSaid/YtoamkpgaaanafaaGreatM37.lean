/- Out of: Zw. -/
import Derived.Test.YtoamkpgaaanafaaGreatM36
namespace Go.Proofs.YtoamkpgaaanafaaGreat
set_option linter.unusedSimpArgs false
set_option linter.unusedVariables false
set_option linter.unnecessarySimpa false
section
open Go.RowKit
set_option maxRecDepth 10000 in
theorem pw_of1 (s:PSchema) (v:List Int) (hv:v.length≤1000000):PCalls Tryz.prog 53 [pints v, .ep (schCellsP s) 0] (· = pbool (wrongV s v)):=by
 have h:=pw_vecValid v (by omega)
 have hlow:Low (.ep (schCellsP s) 0):=.ep _ _ (low_schCells s)
 refine pcalls_of_pw typeTab_ok Tryz.func53 rfl (by kernel_rfl) (by simp [low_pints,hlow]) (by simp [pints,PV.ownB]) (by rw [Tryz.ntmps53];simp) ?_
 rw [Tryz.ntmps53,Tryz.results53]
 unfold wrongV
 cases e1:vecB v with
 |false=>
  rw [e1] at h
  refine wk ?_
  exact retP rfl (by exact lw) (by simp [pbool])
 |true=>
  rw [e1] at h
  by_cases e2:(v.length:Int)=s.dims
  ·refine wk ?_
   exact retP rfl (by exact lw) (by simp only [pbool];simp [e2])
  ·refine wk ?_
   exact retP rfl (by exact lw) (by simp only [pbool,decide_eq_true e2];rfl)
set_option maxRecDepth 10000 in
theorem pw_of2 (s:PSchema) (e:PEntry) (hs:SmallS s) (hv:e.vec.length≤1000000) (ha:e.attrs.length≤1000000):PCalls Tryz.prog 57 [pentry e, .ep (schCellsP s) 0] (· = pbool (decide (entryA s e≠0))):=by
 have h:=pcEntry s e hs hv ha
 have hlow:Low (.ep (schCellsP s) 0):=.ep _ _ (low_schCells s)
 have hle:=low_entCells e
 refine pcalls_of_pw typeTab_ok Tryz.func57 rfl (by kernel_rfl) (by simp [low_pentry,hlow]) (by simp [pentry,PV.ownB]) (by rw [Tryz.ntmps57];simp) ?_
 rw [Tryz.ntmps57,Tryz.results57]
 generalize entryA s e=r at *
 by_cases h0:r=0
 ·refine wk ?_
  exact retP rfl (by exact lw) (by simp [pbool,h0])
 ·refine wk ?_
  exact retP rfl (by exact lw) (by simp [pbool,h0])
def zC (t:TSt) (n:Int) (lo hi sh fl:PV):List PV := [pint n,lo,hi,sh,pint t.fromLo,pint t.fromHi,pint t.toHi,pint t.bornLo,pint t.bornHi,fl]
def zNil:List PV:=zC ⟨0,0,0,0,0⟩ 0 .nilsl .nilsl .nilsl .nilsl
theorem low_zC {t:TSt} {n:Int} {lo hi sh fl:PV} (h1:Low lo) (h2:Low hi) (h3:Low sh) (h4:Low fl):∀c∈zC t n lo hi sh fl,Low c:=by
 intro c hc
 simp only [zC,List.mem_cons,List.not_mem_nil,or_false] at hc
 rcases hc with rfl|rfl|rfl|rfl|rfl|rfl|rfl|rfl|rfl|rfl<;>first|exact .val _|assumption
theorem low_zNil:∀c∈zNil,Low c:=low_zC .nilsl .nilsl .nilsl .nilsl
theorem weak_zNil {c:Int} : Weak (.tup [.agg zNil, .val (.int .i64 c)]) (.tup [psum zeroZ,pint c]):=
 Weak.tup (.cons (.agg (.cons (.refl _) (.cons (.nil 1) (.cons (.nil 1) (.cons (.nil 2) (.cons (.refl _) (.cons (.refl _) (.cons (.refl _) (.cons (.refl _) (.cons (.refl _) (.cons (.nil 4) .nil))))))))))) (.cons (.refl _) .nil))
theorem getD_atW {α:Type} [Inhabited α] {l:List α} {k:Nat} (h:k < l.length):l.getD k default=l[k]:=by rw [List.getD_eq_getElem?_getD,List.getElem?_eq_getElem h];rfl
theorem tK_succ {l:List PEntry} {k:Nat} (h:k < l.length):tK l (k+1)=tStep (tK l k) (l.getD k default):=by
 unfold tK
 rw [List.take_add_one,List.foldl_append,List.getElem?_eq_getElem h]
 simp [h]
def vecsK (l:List PEntry) (k:Nat):PV:=.sl k 1 (((l.take k).map (·.vec)).map pints) (some 27)
theorem vecsK_succ {l:List PEntry} {k:Nat} (h:k < l.length):vecsK l (k+1) = .sl (k+1) 1 (((l.take k).map (·.vec)).map pints ++ [pints (l.getD k default).vec]) (some 27):=by
 unfold vecsK
 rw [List.take_add_one,List.getElem?_eq_getElem h,getD_atW h,Option.toList_some,List.map_append,List.map_append]
 rfl
noncomputable def fldsK (s:PSchema) (l:List PEntry) (k:Nat):List PV:=((s.defs.take k).map fun d=>fieldOfP d l).flatMap pfldL
theorem fldsK_succ {s:PSchema} {l:List PEntry} {k:Nat} (h:k < s.defs.length):fldsK s l (k+1)=fldsK s l k ++ pfldL (fieldOfP (s.defs.getD k default) l):=by
 unfold fldsK
 rw [List.take_add_one,List.getElem?_eq_getElem h,getD_atW h,Option.toList_some,List.map_append,List.flatMap_append]
 simp only [List.map_cons,List.map_nil,List.flatMap_cons,List.flatMap_nil,List.append_nil]
theorem low_fldsK (s:PSchema) (l:List PEntry) (k:Nat):∀c∈fldsK s l k,Low c:=by
 intro c hc
 obtain ⟨z,-,hz⟩:=List.mem_flatMap.1 hc
 exact low_pfldL z c hz
theorem low_vecsK (l:List PEntry) (k:Nat):Low (vecsK l k):=.sl _ _ _ _ fun c hc=>by
 obtain ⟨z,-,rfl⟩:=List.mem_map.1 hc
 exact (low_pints z).2 trivial
end
section
open Go.RowKit
variable {P:Program} {M:Nat} {Q:Exit→PS→Prop} {σ:PS}
theorem PW.cutW {α:Type} {c y1 y2:Code} (st:α→PS) (I:α→Prop) (h1:PW P M c (ThenP P M y1 (MidP M st I Q)) σ) (h2:∀x,I x→PW P M y2 Q (st x)):PW P M c (ThenP P M y1 (ThenP P M y2 Q)) σ:=by
 refine PW.conseq h1 fun e σ' h=>?_
 cases e with
 |normal=>exact PW.cutT st I h h2
 |_=>exact h
end
section
open Go.RowKit
def ShV (S:List PShell) (q:PV):Prop:=q=pshells S∨(q = .nilsl∧S = [])
theorem ShV.low {S:List PShell} {q:PV} (h:ShV S q):Low q:=by
 rcases h with rfl|⟨rfl,-⟩
 ·exact (low_pshells _).2 trivial
 ·exact .nilsl
theorem ShV.weak {S:List PShell} {q:PV} (h:ShV S q):Weak q (pshells S):=by
 rcases h with rfl|⟨rfl,rfl⟩
 ·exact .refl _
 ·exact .nil 2
theorem ShV.bare {S:List PShell} {q:PV} (h:ShV S q):q.bare=q:=by
 rcases h with rfl|⟨rfl,-⟩<;>rfl
set_option maxRecDepth 10000 in
set_option maxHeartbeats 8000000 in
theorem pw_zOf (s:PSchema) (pv:List (List Int)) (l:List PEntry) (hs:SmallS s) (h1:pv.length≤1000000) (h2:∀v∈pv,v.length≤1000000) (h3:l.length≤1000000) (h4:∀k,k < l.length→(l.getD k default).vec.length≤1000000∧(l.getD k default).attrs.length≤1000000∧∀a∈(l.getD k default).attrs,a.s.size≤1000000000) :
  PCalls Tryz.prog 15 [pschema s,pvecs pv,pentries l] (· = .tup [psum (zOf s pv l).1,pint (zOf s pv l).2]):=by
 have hls:=low_schCells s
 have hls1:Low (.ep (schCellsP s) 0):=.ep _ _ hls
 have hzn:=low_zNil
 have hlp:Low (pvecs pv):=(low_pvecs pv).2 trivial
 have hll:Low (pentries l):=(low_pentries l).2 trivial
 refine PCalls.weak ?_
 refine pcalls_of_pw typeTab_ok Tryz.func15 rfl (by kernel_rfl) (by simp [low_pschema,low_pvecs,low_pentries]) (by simp [pschema,pvecs,pentries,PV.ownB]) (by rw [Tryz.ntmps15];simp) ?_
 rw [Tryz.ntmps15,Tryz.results15]
 have c0:=pcCheck s hs
 have c1:=pw_anyV 53 [.ep (schCellsP s) 0] (wrongV s) pv rfl (by omega) (by simp [hls1]) (fun k hk=>pw_of1 s _ (h2 _ (getD_mem hk)))
 have c2:=pw_anyE 57 [.ep (schCellsP s) 0] (fun e=>decide (entryA s e≠0)) l rfl (by omega) (by simp [hls1]) (fun k hk=>pw_of2 s _ hs (h4 k hk).1 (h4 k hk).2.1)
 unfold zOf
 refine PW.seq ?_
 refine PW.region typeTab_ok (by kernel_rfl) ?_
 refine wg ?_
 refine PW.freezeP (id:=0) (s:=3) (off:=0) (σ':=((((bot.setb 1 zNil).put 1 (pvecs pv)).put 2 (pentries l)).put 6 (.ptr 1 0))) rfl rfl hls (by exact sbr0) rfl ?_
 have bad1:(checkE s≠0∨8 < pv.length∨pv.any (wrongV s)=true)→Weak (.tup [.agg zNil, .val (.int .i64 1)]) (.tup [psum (if checkE s≠0∨8 < pv.length∨pv.any (wrongV s)=true then (zeroZ,(1:Int)) else if l.length=0∨(l.any fun e=>decide (entryA s e≠0))=true then (zeroZ,3) else if 4096 < l.length then (zeroZ,2) else (ofL s pv l,0)).1,pint (if checkE s≠0∨8 < pv.length∨pv.any (wrongV s)=true then (zeroZ,(1:Int)) else if l.length=0∨(l.any fun e=>decide (entryA s e≠0))=true then (zeroZ,3) else if 4096 < l.length then (zeroZ,2) else (ofL s pv l,0)).2]):=fun h=>by
  rw [if_pos h];exact weak_zNil
 have lowN:∀c:Int,Low (.tup [.agg zNil, .val (.int .i64 c)]):=fun c=>low_tup.2 (by simp only [List.mem_cons,List.not_mem_nil,or_false];rintro x (rfl|rfl);exact .agg _ hzn;exact .val _)
 by_cases e0:checkE s=0
 rotate_left
 ·refine wk ?_
  exact retP (r:=.tup [.agg zNil,pint 1]) rfl (lowN 1) (bad1 (.inl e0))
 by_cases e1:8 < pv.length
 ·refine wk ?_
  exact retP (r:=.tup [.agg zNil,pint 1]) rfl (lowN 1) (bad1 (.inr (.inl e1)))
 cases e2:pv.any (wrongV s) with
 |true=>
  rw [e2] at c1
  refine wk ?_
  exact retP (r:=.tup [.agg zNil,pint 1]) rfl (lowN 1) (by rw [e2] at bad1;exact bad1 (.inr (.inr rfl)))
 |false=>
  rw [e2] at c1
  clear bad1
  rw [if_neg (by simp [e0,e1])]
  by_cases e3:l.length=0
  ·rw [if_pos (.inl e3)]
   refine wk ?_
   exact retP (r:=.tup [.agg zNil,pint 3]) rfl (lowN 3) weak_zNil
  cases e4:(l.any fun e=>decide (entryA s e≠0)) with
  |true=>
   rw [e4] at c2
   rw [if_pos (.inr rfl)]
   refine wk ?_
   exact retP (r:=.tup [.agg zNil,pint 3]) rfl (lowN 3) weak_zNil
  |false=>
   rw [e4] at c2
   rw [if_neg (by simp [e3])]
   by_cases e5:4096 < l.length
   ·rw [if_pos e5]
    refine wk ?_
    exact retP (r:=.tup [.agg zNil,pint 2]) rfl (lowN 2) weak_zNil
   rw [if_neg e5]
   have hle:=low_entCells (l.getD 0 default)
   have hzC:∀t,∀c∈zC t l.length .nilsl .nilsl .nilsl .nilsl,Low c:=fun t=>low_zC .nilsl .nilsl .nilsl .nilsl
   have hz0:=hzC (tK l 0)
   have hv0:=low_vecsK l 0
   refine wk ?_
   clear c0 c1 c2 hle
   refine PW.loop (fun k:Nat=>(((((((((((bot.setb 1 zNil).setb 9013 (zC (tK l k) l.length .nilsl .nilsl .nilsl .nilsl)).put 1 (pvecs pv)).put 2 (pentries l)).put 3 (.ep (schCellsP s) 0)).put 6 (.ptr 1 0)).put 10 (.ptr 9013 0)).put 11 (vecsK l k)).put 60 (pentries l)).put 61 (pint l.length)).put 62 (pint k))) (fun k=>k≤l.length) (fun k=>l.length - k) 0 (by omega) ?_ ?_
   ·exact sb
   intro k hk
   have hzk:=hzC (tK l k)
   have hvk:=low_vecsK l k
   by_cases hlt:k < l.length
   ·have hle:=low_entCells (l.getD k default)
    have hzk1:=hzC (tK l (k+1))
    have hvk1:=low_vecsK l (k+1)
    rw [tK_succ hlt] at hzk1
    rw [vecsK_succ hlt] at hvk1
    refine wg ?_
    refine PW.region typeTab_ok (by kernel_rfl) ?_
    refine wg ?_
    refine PW.region typeTab_ok (by kernel_rfl) ?_
    refine wg ?_
    refine PW.region typeTab_ok (by kernel_rfl) ?_
    refine wg ?_
    refine PW.drawE typeTab_ok (by kernel_rfl) (by kernel_rfl) (by kernel_rfl) ?_
    refine wg ?_
    refine PW.drawE typeTab_ok (by kernel_rfl) (by kernel_rfl) (by kernel_rfl) ?_
    refine wg ?_
    refine wk ?_
    refine loopP (k+1) (by omega) (by omega) ?_
    simp only [tK_succ hlt,vecsK_succ hlt]
    exact sb
   have hkk:k=l.length:=by omega
   subst hkk
   have eV:vecsK l l.length = .sl (l.map (·.vec)).length 1 ((l.map (·.vec)).map pints) (some 27):=by
    unfold vecsK
    rw [List.take_length,List.length_map]
   have eT:tK l l.length=tSt l:=by unfold tK tSt;rw [List.take_length]
   have hvl:∀v∈l.map (·.vec),v.length≤1000000:=fun v hv=>by
    obtain ⟨e,he,rfl⟩:=List.mem_map.1 hv
    obtain ⟨j,hj,rfl⟩:=List.getElem_of_mem he
    have:=(h4 j hj).1
    rwa [getD_atW hj] at this
   have c3:=pw_boxOf (l.map (·.vec)) (by rw [List.length_map];omega) hvl
   have c4:=pw_shells s.metric pv (l.map (·.vec)) h1 h2 (by rw [List.length_map];omega) hvl
   rw [eV] at hvk ⊢
   rw [eT] at hzk ⊢
   unfold ofL
   generalize tSt l=T at *
   generalize hL:l.map (·.vec)=L at *
   obtain ⟨B,hB⟩:∃B,(boxOf L).1=B:=⟨_,rfl⟩
   obtain ⟨S,hS⟩:∃S,(shellP s.metric pv L).1=S:=⟨_,rfl⟩
   rw [hB] at c3 ⊢
   rw [hS] at c4 ⊢
   have hlB:∀q,Low q→∀c∈zC T l.length (pints B.lo) (pints B.hi) q .nilsl,Low c:=fun q h=>low_zC ((low_pints _).2 trivial) ((low_pints _).2 trivial) h .nilsl
   have hlB0:=hlB .nilsl .nilsl
   have hlBS:=hlB (pshells S) ((low_pshells S).2 trivial)
   unfold pbox pboxL at c3
   refine wg ?_
   refine PW.region typeTab_ok (by kernel_rfl) ?_
   refine wg ?_
   refine PW.region typeTab_ok (by kernel_rfl) ?_
   refine wg ?_
   clear c3
   refine PW.cutW (fun q:PV=>(bot.setb 1 zNil |>.setb 9013 (zC T l.length (pints B.lo) (pints B.hi) q .nilsl) |>.put 2 (pentries l) |>.put 3 (.ep (schCellsP s) 0) |>.put 6 (.ptr 1 0) |>.put 10 (.ptr 9013 0))) (fun q=>ShV (if 0 < pv.length then S else []) q) ?_ ?_
   ·by_cases hp:0 < pv.length
    ·refine wk ?_
     refine midP (pshells S) (by rw [if_pos hp];exact .inl rfl) ?_
     exact sb
    ·refine wk ?_
     refine midP .nilsl (by rw [if_neg hp];exact .inr ⟨rfl,rfl⟩) ?_
     exact sb
   intro q hq
   clear c4
   generalize (if 0 < pv.length then S else [])=S2 at *
   have hlq:=hq.low
   have hwq:=hq.weak
   rcases hq with rfl|⟨rfl,-⟩
   ·have hlF:∀k,∀c∈zC T l.length (pints B.lo) (pints B.hi) (pshells S2) (.sl k 4 (fldsK s l k) (some 100)),Low c:=fun k=>low_zC ((low_pints _).2 trivial) ((low_pints _).2 trivial) hlq (.sl _ _ _ _ (low_fldsK s l k))
    have hlF0:=hlF 0
    have hld:Low (pdefs s.defs):=(low_pdefs _).2 trivial
    refine wk ?_
    refine PW.loop (fun k:Nat=>(bot.setb 1 zNil |>.setb 9013 (zC T l.length (pints B.lo) (pints B.hi) (pshells S2) (.sl k 4 (fldsK s l k) (some 100))) |>.put 2 (pentries l) |>.put 6 (.ptr 1 0) |>.put 10 (.ptr 9013 0) |>.put 121 (pdefs s.defs) |>.put 122 (pint s.defs.length) |>.put 123 (pint k))) (fun k=>k≤s.defs.length) (fun k=>s.defs.length - k) 0 (by omega) ?_ ?_
    ·exact sb
    intro k hk
    have hd1:s.defs.length≤1000:=hs.1
    have hlFk:=hlF k
    by_cases hlt:k < s.defs.length
    ·have c5:=pw_fieldOf (s.defs.getD k default) l h3 (fun k hk=>(h4 k hk).2.1) (fun k hk=>(h4 k hk).2.2)
     have hlFk1:=hlF (k+1)
     rw [fldsK_succ hlt] at hlFk1
     have hldk:=low_pdefL (s.defs.getD k default)
     refine wk ?_
     refine loopP (k+1) (by omega) (by omega) ?_
     simp only [fldsK_succ hlt]
     exact sb
    have hkk:k=s.defs.length:=by omega
    subst hkk
    have eF:fldsK s l s.defs.length=(s.defs.map fun d=>fieldOfP d l).flatMap pfldL:=by unfold fldsK;rw [List.take_length]
    rw [eF] at hlFk ⊢
    refine wk ?_
    refine retP (r:=.tup [.agg (zC T l.length (pints B.lo) (pints B.hi) (pshells S2) (.sl s.defs.length 4 ((s.defs.map fun d=>fieldOfP d l).flatMap pfldL) none)),pint 0]) ?_ (low_tup.2 (by simp only [List.mem_cons,List.not_mem_nil,or_false];rintro x (rfl|rfl);exact .agg _ (low_zC ((low_pints _).2 trivial) ((low_pints _).2 trivial) hlq (.sl _ _ _ _ (by rw [←eF];exact low_fldsK s l _)));exact .val _)) ?_
    ·rfl
    ·refine Weak.tup (.cons (.agg ?_) (.cons (.refl _) .nil))
     refine .cons (.refl _) (.cons (.refl _) (.cons (.refl _) (.cons hwq (.cons (.refl _) (.cons (.refl _) (.cons (.refl _) (.cons (.refl _) (.cons (.refl _) (.cons ?_ .nil)))))))))
     rw [pflds,List.length_map]
     exact .refl _
   ·have hlF:∀k,∀c∈zC T l.length (pints B.lo) (pints B.hi) .nilsl (.sl k 4 (fldsK s l k) (some 100)),Low c:=fun k=>low_zC ((low_pints _).2 trivial) ((low_pints _).2 trivial) hlq (.sl _ _ _ _ (low_fldsK s l k))
    have hlF0:=hlF 0
    have hld:Low (pdefs s.defs):=(low_pdefs _).2 trivial
    refine wk ?_
    refine PW.loop (fun k:Nat=>(bot.setb 1 zNil |>.setb 9013 (zC T l.length (pints B.lo) (pints B.hi) .nilsl (.sl k 4 (fldsK s l k) (some 100))) |>.put 2 (pentries l) |>.put 6 (.ptr 1 0) |>.put 10 (.ptr 9013 0) |>.put 121 (pdefs s.defs) |>.put 122 (pint s.defs.length) |>.put 123 (pint k))) (fun k=>k≤s.defs.length) (fun k=>s.defs.length - k) 0 (by omega) ?_ ?_
    ·exact sb
    intro k hk
    have hd1:s.defs.length≤1000:=hs.1
    have hlFk:=hlF k
    by_cases hlt:k < s.defs.length
    ·have c5:=pw_fieldOf (s.defs.getD k default) l h3 (fun k hk=>(h4 k hk).2.1) (fun k hk=>(h4 k hk).2.2)
     have hlFk1:=hlF (k+1)
     rw [fldsK_succ hlt] at hlFk1
     have hldk:=low_pdefL (s.defs.getD k default)
     refine wk ?_
     refine loopP (k+1) (by omega) (by omega) ?_
     simp only [fldsK_succ hlt]
     exact sb
    have hkk:k=s.defs.length:=by omega
    subst hkk
    have eF:fldsK s l s.defs.length=(s.defs.map fun d=>fieldOfP d l).flatMap pfldL:=by unfold fldsK;rw [List.take_length]
    rw [eF] at hlFk ⊢
    refine wk ?_
    refine retP (r:=.tup [.agg (zC T l.length (pints B.lo) (pints B.hi) .nilsl (.sl s.defs.length 4 ((s.defs.map fun d=>fieldOfP d l).flatMap pfldL) none)),pint 0]) ?_ (low_tup.2 (by simp only [List.mem_cons,List.not_mem_nil,or_false];rintro x (rfl|rfl);exact .agg _ (low_zC ((low_pints _).2 trivial) ((low_pints _).2 trivial) hlq (.sl _ _ _ _ (by rw [←eF];exact low_fldsK s l _)));exact .val _)) ?_
    ·rfl
    ·refine Weak.tup (.cons (.agg ?_) (.cons (.refl _) .nil))
     refine .cons (.refl _) (.cons (.refl _) (.cons (.refl _) (.cons hwq (.cons (.refl _) (.cons (.refl _) (.cons (.refl _) (.cons (.refl _) (.cons (.refl _) (.cons ?_ .nil)))))))))
     rw [pflds,List.length_map]
     exact .refl _
end
end Go.Proofs.YtoamkpgaaanafaaGreat
