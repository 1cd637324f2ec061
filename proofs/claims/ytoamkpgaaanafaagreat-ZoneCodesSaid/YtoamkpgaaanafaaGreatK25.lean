/- Out of: Zw, Cg. -/
import Derived.Test.YtoamkpgaaanafaaGreatK1
import Derived.Test.YtoamkpgaaanafaaGreatK2
import Derived.Test.YtoamkpgaaanafaaGreatK4
import Derived.Test.YtoamkpgaaanafaaGreatK5
import Derived.Test.YtoamkpgaaanafaaGreatK6
import Derived.Test.YtoamkpgaaanafaaGreatK8
import Derived.Test.YtoamkpgaaanafaaGreatK9
import Derived.Test.YtoamkpgaaanafaaGreatK10
import Derived.Test.YtoamkpgaaanafaaGreatK11
import Derived.Test.YtoamkpgaaanafaaGreatK12
import Derived.Test.YtoamkpgaaanafaaGreatK13
import Derived.Test.YtoamkpgaaanafaaGreatK14
import Derived.Test.YtoamkpgaaanafaaGreatK15
import Derived.Test.YtoamkpgaaanafaaGreatK16
import Derived.Test.YtoamkpgaaanafaaGreatK17
import Derived.Test.YtoamkpgaaanafaaGreatK18
import Derived.Test.YtoamkpgaaanafaaGreatK19
import Derived.Test.YtoamkpgaaanafaaGreatK21
import Derived.Test.YtoamkpgaaanafaaGreatK24
namespace Go.Proofs.YtoamkpgaaanafaaGreat
set_option linter.unusedSimpArgs false
set_option linter.unusedVariables false
set_option linter.unnecessarySimpa false
section
open Go.RowKit
set_option maxRecDepth 10000 in
theorem pw_of1 (s:PSchema) (v:List Int) (hv:v.length≤1000000):PCalls Tryz.prog 53 [pints v, .ep (schCellsP s) 0] (· = pbool (wrongV s v)):=by
 have h:=pw_vecValid v (by omega)
 have hlow:Low (.ep (schCellsP s) 0):=.ep _ _ (low_schCells s)
 refine pcalls_of_pw typeTab_ok Tryz.func53 rfl (by kernel_rfl) (by simp [low_pints,hlow]) (by simp [pints,PV.ownB]) (by rw [Tryz.ntmps53];simp) ?_
 rw [Tryz.ntmps53,Tryz.results53]
 unfold wrongV
 cases e1:vecB v with
 |false=>
  rw [e1] at h
  refine wk ?_
  exact retP rfl (by exact lw) (by simp [pbool])
 |true=>
  rw [e1] at h
  by_cases e2:(v.length:Int)=s.dims
  ·refine wk ?_
   exact retP rfl (by exact lw) (by simp only [pbool];simp [e2])
  ·refine wk ?_
   exact retP rfl (by exact lw) (by simp only [pbool,decide_eq_true e2];rfl)
set_option maxRecDepth 10000 in
theorem pw_of2 (s:PSchema) (e:PEntry) (hs:SmallS s) (hv:e.vec.length≤1000000) (ha:e.attrs.length≤1000000):PCalls Tryz.prog 57 [pentry e, .ep (schCellsP s) 0] (· = pbool (decide (entryA s e≠0))):=by
 have h:=pcEntry s e hs hv ha
 have hlow:Low (.ep (schCellsP s) 0):=.ep _ _ (low_schCells s)
 have hle:=low_entCells e
 refine pcalls_of_pw typeTab_ok Tryz.func57 rfl (by kernel_rfl) (by simp [low_pentry,hlow]) (by simp [pentry,PV.ownB]) (by rw [Tryz.ntmps57];simp) ?_
 rw [Tryz.ntmps57,Tryz.results57]
 generalize entryA s e=r at *
 by_cases h0:r=0
 ·refine wk ?_
  exact retP rfl (by exact lw) (by simp [pbool,h0])
 ·refine wk ?_
  exact retP rfl (by exact lw) (by simp [pbool,h0])
def zC (t:TSt) (n:Int) (lo hi sh fl:PV):List PV := [pint n,lo,hi,sh,pint t.fromLo,pint t.fromHi,pint t.toHi,pint t.bornLo,pint t.bornHi,fl]
def zNil:List PV:=zC ⟨0,0,0,0,0⟩ 0 .nilsl .nilsl .nilsl .nilsl
theorem low_zC {t:TSt} {n:Int} {lo hi sh fl:PV} (h1:Low lo) (h2:Low hi) (h3:Low sh) (h4:Low fl):∀c∈zC t n lo hi sh fl,Low c:=by
 intro c hc
 simp only [zC,List.mem_cons,List.not_mem_nil,or_false] at hc
 rcases hc with rfl|rfl|rfl|rfl|rfl|rfl|rfl|rfl|rfl|rfl<;>first|exact .val _|assumption
theorem low_zNil:∀c∈zNil,Low c:=low_zC .nilsl .nilsl .nilsl .nilsl
theorem weak_zNil {c:Int} : Weak (.tup [.agg zNil, .val (.int .i64 c)]) (.tup [psum zeroZ,pint c]):=
 Weak.tup (.cons (.agg (.cons (.refl _) (.cons (.nil 1) (.cons (.nil 1) (.cons (.nil 2) (.cons (.refl _) (.cons (.refl _) (.cons (.refl _) (.cons (.refl _) (.cons (.refl _) (.cons (.nil 4) .nil))))))))))) (.cons (.refl _) .nil))
theorem getD_atW {α:Type} [Inhabited α] {l:List α} {k:Nat} (h:k < l.length):l.getD k default=l[k]:=by rw [List.getD_eq_getElem?_getD,List.getElem?_eq_getElem h];rfl
theorem tK_succ {l:List PEntry} {k:Nat} (h:k < l.length):tK l (k+1)=tStep (tK l k) (l.getD k default):=by
 unfold tK
 rw [List.take_add_one,List.foldl_append,List.getElem?_eq_getElem h]
 simp [h]
def vecsK (l:List PEntry) (k:Nat):PV:=.sl k 1 (((l.take k).map (·.vec)).map pints) (some 27)
theorem vecsK_succ {l:List PEntry} {k:Nat} (h:k < l.length):vecsK l (k+1) = .sl (k+1) 1 (((l.take k).map (·.vec)).map pints ++ [pints (l.getD k default).vec]) (some 27):=by
 unfold vecsK
 rw [List.take_add_one,List.getElem?_eq_getElem h,getD_atW h,Option.toList_some,List.map_append,List.map_append]
 rfl
noncomputable def fldsK (s:PSchema) (l:List PEntry) (k:Nat):List PV:=((s.defs.take k).map fun d=>fieldOfP d l).flatMap pfldL
theorem fldsK_succ {s:PSchema} {l:List PEntry} {k:Nat} (h:k < s.defs.length):fldsK s l (k+1)=fldsK s l k ++ pfldL (fieldOfP (s.defs.getD k default) l):=by
 unfold fldsK
 rw [List.take_add_one,List.getElem?_eq_getElem h,getD_atW h,Option.toList_some,List.map_append,List.flatMap_append]
 simp only [List.map_cons,List.map_nil,List.flatMap_cons,List.flatMap_nil,List.append_nil]
theorem low_fldsK (s:PSchema) (l:List PEntry) (k:Nat):∀c∈fldsK s l k,Low c:=by
 intro c hc
 obtain ⟨z,-,hz⟩:=List.mem_flatMap.1 hc
 exact low_pfldL z c hz
theorem low_vecsK (l:List PEntry) (k:Nat):Low (vecsK l k):=.sl _ _ _ _ fun c hc=>by
 obtain ⟨z,-,rfl⟩:=List.mem_map.1 hc
 exact (low_pints z).2 trivial
end
section
open Go.RowKit
variable {P:Program} {M:Nat} {Q:Exit→PS→Prop} {σ:PS}
theorem PW.cutW {α:Type} {c y1 y2:Code} (st:α→PS) (I:α→Prop) (h1:PW P M c (ThenP P M y1 (MidP M st I Q)) σ) (h2:∀x,I x→PW P M y2 Q (st x)):PW P M c (ThenP P M y1 (ThenP P M y2 Q)) σ:=by
 refine PW.conseq h1 fun e σ' h=>?_
 cases e with
 |normal=>exact PW.cutT st I h h2
 |_=>exact h
end
section
open Go.RowKit
def ShV (S:List PShell) (q:PV):Prop:=q=pshells S∨(q = .nilsl∧S = [])
theorem ShV.low {S:List PShell} {q:PV} (h:ShV S q):Low q:=by
 rcases h with rfl|⟨rfl,-⟩
 ·exact (low_pshells _).2 trivial
 ·exact .nilsl
theorem ShV.weak {S:List PShell} {q:PV} (h:ShV S q):Weak q (pshells S):=by
 rcases h with rfl|⟨rfl,rfl⟩
 ·exact .refl _
 ·exact .nil 2
theorem ShV.bare {S:List PShell} {q:PV} (h:ShV S q):q.bare=q:=by
 rcases h with rfl|⟨rfl,-⟩<;>rfl
set_option maxRecDepth 10000 in
set_option maxHeartbeats 8000000 in
theorem pw_zOf (s:PSchema) (pv:List (List Int)) (l:List PEntry) (hs:SmallS s) (h1:pv.length≤1000000) (h2:∀v∈pv,v.length≤1000000) (h3:l.length≤1000000) (h4:∀k,k < l.length→(l.getD k default).vec.length≤1000000∧(l.getD k default).attrs.length≤1000000∧∀a∈(l.getD k default).attrs,a.s.size≤1000000000) :
  PCalls Tryz.prog 15 [pschema s,pvecs pv,pentries l] (· = .tup [psum (zOf s pv l).1,pint (zOf s pv l).2]):=by
 have hls:=low_schCells s
 have hls1:Low (.ep (schCellsP s) 0):=.ep _ _ hls
 have hzn:=low_zNil
 have hlp:Low (pvecs pv):=(low_pvecs pv).2 trivial
 have hll:Low (pentries l):=(low_pentries l).2 trivial
 refine PCalls.weak ?_
 refine pcalls_of_pw typeTab_ok Tryz.func15 rfl (by kernel_rfl) (by simp [low_pschema,low_pvecs,low_pentries]) (by simp [pschema,pvecs,pentries,PV.ownB]) (by rw [Tryz.ntmps15];simp) ?_
 rw [Tryz.ntmps15,Tryz.results15]
 have c0:=pcCheck s hs
 have c1:=pw_anyV 53 [.ep (schCellsP s) 0] (wrongV s) pv rfl (by omega) (by simp [hls1]) (fun k hk=>pw_of1 s _ (h2 _ (getD_mem hk)))
 have c2:=pw_anyE 57 [.ep (schCellsP s) 0] (fun e=>decide (entryA s e≠0)) l rfl (by omega) (by simp [hls1]) (fun k hk=>pw_of2 s _ hs (h4 k hk).1 (h4 k hk).2.1)
 unfold zOf
 refine PW.seq ?_
 refine PW.region typeTab_ok (by kernel_rfl) ?_
 refine wg ?_
 refine PW.freezeP (id:=0) (s:=3) (off:=0) (σ':=((((bot.setb 1 zNil).put 1 (pvecs pv)).put 2 (pentries l)).put 6 (.ptr 1 0))) rfl rfl hls (by exact sbr0) rfl ?_
 have bad1:(checkE s≠0∨8 < pv.length∨pv.any (wrongV s)=true)→Weak (.tup [.agg zNil, .val (.int .i64 1)]) (.tup [psum (if checkE s≠0∨8 < pv.length∨pv.any (wrongV s)=true then (zeroZ,(1:Int)) else if l.length=0∨(l.any fun e=>decide (entryA s e≠0))=true then (zeroZ,3) else if 4096 < l.length then (zeroZ,2) else (ofL s pv l,0)).1,pint (if checkE s≠0∨8 < pv.length∨pv.any (wrongV s)=true then (zeroZ,(1:Int)) else if l.length=0∨(l.any fun e=>decide (entryA s e≠0))=true then (zeroZ,3) else if 4096 < l.length then (zeroZ,2) else (ofL s pv l,0)).2]):=fun h=>by
  rw [if_pos h];exact weak_zNil
 have lowN:∀c:Int,Low (.tup [.agg zNil, .val (.int .i64 c)]):=fun c=>low_tup.2 (by simp only [List.mem_cons,List.not_mem_nil,or_false];rintro x (rfl|rfl);exact .agg _ hzn;exact .val _)
 by_cases e0:checkE s=0
 rotate_left
 ·refine wk ?_
  exact retP (r:=.tup [.agg zNil,pint 1]) rfl (lowN 1) (bad1 (.inl e0))
 by_cases e1:8 < pv.length
 ·refine wk ?_
  exact retP (r:=.tup [.agg zNil,pint 1]) rfl (lowN 1) (bad1 (.inr (.inl e1)))
 cases e2:pv.any (wrongV s) with
 |true=>
  rw [e2] at c1
  refine wk ?_
  exact retP (r:=.tup [.agg zNil,pint 1]) rfl (lowN 1) (by rw [e2] at bad1;exact bad1 (.inr (.inr rfl)))
 |false=>
  rw [e2] at c1
  clear bad1
  rw [if_neg (by simp [e0,e1])]
  by_cases e3:l.length=0
  ·rw [if_pos (.inl e3)]
   refine wk ?_
   exact retP (r:=.tup [.agg zNil,pint 3]) rfl (lowN 3) weak_zNil
  cases e4:(l.any fun e=>decide (entryA s e≠0)) with
  |true=>
   rw [e4] at c2
   rw [if_pos (.inr rfl)]
   refine wk ?_
   exact retP (r:=.tup [.agg zNil,pint 3]) rfl (lowN 3) weak_zNil
  |false=>
   rw [e4] at c2
   rw [if_neg (by simp [e3])]
   by_cases e5:4096 < l.length
   ·rw [if_pos e5]
    refine wk ?_
    exact retP (r:=.tup [.agg zNil,pint 2]) rfl (lowN 2) weak_zNil
   rw [if_neg e5]
   have hle:=low_entCells (l.getD 0 default)
   have hzC:∀t,∀c∈zC t l.length .nilsl .nilsl .nilsl .nilsl,Low c:=fun t=>low_zC .nilsl .nilsl .nilsl .nilsl
   have hz0:=hzC (tK l 0)
   have hv0:=low_vecsK l 0
   refine wk ?_
   clear c0 c1 c2 hle
   refine PW.loop (fun k:Nat=>(((((((((((bot.setb 1 zNil).setb 9013 (zC (tK l k) l.length .nilsl .nilsl .nilsl .nilsl)).put 1 (pvecs pv)).put 2 (pentries l)).put 3 (.ep (schCellsP s) 0)).put 6 (.ptr 1 0)).put 10 (.ptr 9013 0)).put 11 (vecsK l k)).put 60 (pentries l)).put 61 (pint l.length)).put 62 (pint k))) (fun k=>k≤l.length) (fun k=>l.length - k) 0 (by omega) ?_ ?_
   ·exact sb
   intro k hk
   have hzk:=hzC (tK l k)
   have hvk:=low_vecsK l k
   by_cases hlt:k < l.length
   ·have hle:=low_entCells (l.getD k default)
    have hzk1:=hzC (tK l (k+1))
    have hvk1:=low_vecsK l (k+1)
    rw [tK_succ hlt] at hzk1
    rw [vecsK_succ hlt] at hvk1
    refine wg ?_
    refine PW.region typeTab_ok (by kernel_rfl) ?_
    refine wg ?_
    refine PW.region typeTab_ok (by kernel_rfl) ?_
    refine wg ?_
    refine PW.region typeTab_ok (by kernel_rfl) ?_
    refine wg ?_
    refine PW.drawE typeTab_ok (by kernel_rfl) (by kernel_rfl) (by kernel_rfl) ?_
    refine wg ?_
    refine PW.drawE typeTab_ok (by kernel_rfl) (by kernel_rfl) (by kernel_rfl) ?_
    refine wg ?_
    refine wk ?_
    refine loopP (k+1) (by omega) (by omega) ?_
    simp only [tK_succ hlt,vecsK_succ hlt]
    exact sb
   have hkk:k=l.length:=by omega
   subst hkk
   have eV:vecsK l l.length = .sl (l.map (·.vec)).length 1 ((l.map (·.vec)).map pints) (some 27):=by
    unfold vecsK
    rw [List.take_length,List.length_map]
   have eT:tK l l.length=tSt l:=by unfold tK tSt;rw [List.take_length]
   have hvl:∀v∈l.map (·.vec),v.length≤1000000:=fun v hv=>by
    obtain ⟨e,he,rfl⟩:=List.mem_map.1 hv
    obtain ⟨j,hj,rfl⟩:=List.getElem_of_mem he
    have:=(h4 j hj).1
    rwa [getD_atW hj] at this
   have c3:=pw_boxOf (l.map (·.vec)) (by rw [List.length_map];omega) hvl
   have c4:=pw_shells s.metric pv (l.map (·.vec)) h1 h2 (by rw [List.length_map];omega) hvl
   rw [eV] at hvk ⊢
   rw [eT] at hzk ⊢
   unfold ofL
   generalize tSt l=T at *
   generalize hL:l.map (·.vec)=L at *
   obtain ⟨B,hB⟩:∃B,(boxOf L).1=B:=⟨_,rfl⟩
   obtain ⟨S,hS⟩:∃S,(shellP s.metric pv L).1=S:=⟨_,rfl⟩
   rw [hB] at c3 ⊢
   rw [hS] at c4 ⊢
   have hlB:∀q,Low q→∀c∈zC T l.length (pints B.lo) (pints B.hi) q .nilsl,Low c:=fun q h=>low_zC ((low_pints _).2 trivial) ((low_pints _).2 trivial) h .nilsl
   have hlB0:=hlB .nilsl .nilsl
   have hlBS:=hlB (pshells S) ((low_pshells S).2 trivial)
   unfold pbox pboxL at c3
   refine wg ?_
   refine PW.region typeTab_ok (by kernel_rfl) ?_
   refine wg ?_
   refine PW.region typeTab_ok (by kernel_rfl) ?_
   refine wg ?_
   clear c3
   refine PW.cutW (fun q:PV=>(bot.setb 1 zNil |>.setb 9013 (zC T l.length (pints B.lo) (pints B.hi) q .nilsl) |>.put 2 (pentries l) |>.put 3 (.ep (schCellsP s) 0) |>.put 6 (.ptr 1 0) |>.put 10 (.ptr 9013 0))) (fun q=>ShV (if 0 < pv.length then S else []) q) ?_ ?_
   ·by_cases hp:0 < pv.length
    ·refine wk ?_
     refine midP (pshells S) (by rw [if_pos hp];exact .inl rfl) ?_
     exact sb
    ·refine wk ?_
     refine midP .nilsl (by rw [if_neg hp];exact .inr ⟨rfl,rfl⟩) ?_
     exact sb
   intro q hq
   clear c4
   generalize (if 0 < pv.length then S else [])=S2 at *
   have hlq:=hq.low
   have hwq:=hq.weak
   rcases hq with rfl|⟨rfl,-⟩
   ·have hlF:∀k,∀c∈zC T l.length (pints B.lo) (pints B.hi) (pshells S2) (.sl k 4 (fldsK s l k) (some 100)),Low c:=fun k=>low_zC ((low_pints _).2 trivial) ((low_pints _).2 trivial) hlq (.sl _ _ _ _ (low_fldsK s l k))
    have hlF0:=hlF 0
    have hld:Low (pdefs s.defs):=(low_pdefs _).2 trivial
    refine wk ?_
    refine PW.loop (fun k:Nat=>(bot.setb 1 zNil |>.setb 9013 (zC T l.length (pints B.lo) (pints B.hi) (pshells S2) (.sl k 4 (fldsK s l k) (some 100))) |>.put 2 (pentries l) |>.put 6 (.ptr 1 0) |>.put 10 (.ptr 9013 0) |>.put 121 (pdefs s.defs) |>.put 122 (pint s.defs.length) |>.put 123 (pint k))) (fun k=>k≤s.defs.length) (fun k=>s.defs.length - k) 0 (by omega) ?_ ?_
    ·exact sb
    intro k hk
    have hd1:s.defs.length≤1000:=hs.1
    have hlFk:=hlF k
    by_cases hlt:k < s.defs.length
    ·have c5:=pw_fieldOf (s.defs.getD k default) l h3 (fun k hk=>(h4 k hk).2.1) (fun k hk=>(h4 k hk).2.2)
     have hlFk1:=hlF (k+1)
     rw [fldsK_succ hlt] at hlFk1
     have hldk:=low_pdefL (s.defs.getD k default)
     refine wk ?_
     refine loopP (k+1) (by omega) (by omega) ?_
     simp only [fldsK_succ hlt]
     exact sb
    have hkk:k=s.defs.length:=by omega
    subst hkk
    have eF:fldsK s l s.defs.length=(s.defs.map fun d=>fieldOfP d l).flatMap pfldL:=by unfold fldsK;rw [List.take_length]
    rw [eF] at hlFk ⊢
    refine wk ?_
    refine retP (r:=.tup [.agg (zC T l.length (pints B.lo) (pints B.hi) (pshells S2) (.sl s.defs.length 4 ((s.defs.map fun d=>fieldOfP d l).flatMap pfldL) none)),pint 0]) ?_ (low_tup.2 (by simp only [List.mem_cons,List.not_mem_nil,or_false];rintro x (rfl|rfl);exact .agg _ (low_zC ((low_pints _).2 trivial) ((low_pints _).2 trivial) hlq (.sl _ _ _ _ (by rw [←eF];exact low_fldsK s l _)));exact .val _)) ?_
    ·rfl
    ·refine Weak.tup (.cons (.agg ?_) (.cons (.refl _) .nil))
     refine .cons (.refl _) (.cons (.refl _) (.cons (.refl _) (.cons hwq (.cons (.refl _) (.cons (.refl _) (.cons (.refl _) (.cons (.refl _) (.cons (.refl _) (.cons ?_ .nil)))))))))
     rw [pflds,List.length_map]
     exact .refl _
   ·have hlF:∀k,∀c∈zC T l.length (pints B.lo) (pints B.hi) .nilsl (.sl k 4 (fldsK s l k) (some 100)),Low c:=fun k=>low_zC ((low_pints _).2 trivial) ((low_pints _).2 trivial) hlq (.sl _ _ _ _ (low_fldsK s l k))
    have hlF0:=hlF 0
    have hld:Low (pdefs s.defs):=(low_pdefs _).2 trivial
    refine wk ?_
    refine PW.loop (fun k:Nat=>(bot.setb 1 zNil |>.setb 9013 (zC T l.length (pints B.lo) (pints B.hi) .nilsl (.sl k 4 (fldsK s l k) (some 100))) |>.put 2 (pentries l) |>.put 6 (.ptr 1 0) |>.put 10 (.ptr 9013 0) |>.put 121 (pdefs s.defs) |>.put 122 (pint s.defs.length) |>.put 123 (pint k))) (fun k=>k≤s.defs.length) (fun k=>s.defs.length - k) 0 (by omega) ?_ ?_
    ·exact sb
    intro k hk
    have hd1:s.defs.length≤1000:=hs.1
    have hlFk:=hlF k
    by_cases hlt:k < s.defs.length
    ·have c5:=pw_fieldOf (s.defs.getD k default) l h3 (fun k hk=>(h4 k hk).2.1) (fun k hk=>(h4 k hk).2.2)
     have hlFk1:=hlF (k+1)
     rw [fldsK_succ hlt] at hlFk1
     have hldk:=low_pdefL (s.defs.getD k default)
     refine wk ?_
     refine loopP (k+1) (by omega) (by omega) ?_
     simp only [fldsK_succ hlt]
     exact sb
    have hkk:k=s.defs.length:=by omega
    subst hkk
    have eF:fldsK s l s.defs.length=(s.defs.map fun d=>fieldOfP d l).flatMap pfldL:=by unfold fldsK;rw [List.take_length]
    rw [eF] at hlFk ⊢
    refine wk ?_
    refine retP (r:=.tup [.agg (zC T l.length (pints B.lo) (pints B.hi) .nilsl (.sl s.defs.length 4 ((s.defs.map fun d=>fieldOfP d l).flatMap pfldL) none)),pint 0]) ?_ (low_tup.2 (by simp only [List.mem_cons,List.not_mem_nil,or_false];rintro x (rfl|rfl);exact .agg _ (low_zC ((low_pints _).2 trivial) ((low_pints _).2 trivial) hlq (.sl _ _ _ _ (by rw [←eF];exact low_fldsK s l _)));exact .val _)) ?_
    ·rfl
    ·refine Weak.tup (.cons (.agg ?_) (.cons (.refl _) .nil))
     refine .cons (.refl _) (.cons (.refl _) (.cons (.refl _) (.cons hwq (.cons (.refl _) (.cons (.refl _) (.cons (.refl _) (.cons (.refl _) (.cons (.refl _) (.cons ?_ .nil)))))))))
     rw [pflds,List.length_map]
     exact .refl _
theorem pcRefGetInt (bs:List Int) (hby:Byte bs):PCalls Tryz.prog 208 [pbytes bs] (· = .tup [pint (getI bs).1,pint (getI bs).2.1,pint (getI bs).2.2]):=
 pcalls1 (by kernel_rfl) fun Φ μ w v himm hr=>(refGetInt v bs w (bytes_of_rep himm hr) hby).mono (by
  rintro e w' ⟨rfl,k,rfl⟩
  exact post_flat himm (RepL.cons (.val _ rfl) (RepL.cons (.val _ rfl) (RepL.cons (.val _ rfl) RepL.nil))).tup rfl rfl ((Still.one _ _).below _))
theorem pcRefLength (bs:List Int) (hby:Byte bs):PCalls Tryz.prog 207 [pbytes bs,pint 1] (· = .tup [pint (lenL bs 1).1,pint (lenL bs 1).2.1,pint (lenL bs 1).2.2]):=
 pcalls2 (by kernel_rfl) fun Φ μ w v u himm hr hr2=>by
  obtain ⟨rfl,-⟩:=hr2.val_inv
  exact (refLength v bs 1 w (bytes_of_rep himm hr) hby (by omega) (by omega)).mono (by
  rintro e w' ⟨rfl,k,rfl⟩
  exact post_flat himm (RepL.cons (.val _ rfl) (RepL.cons (.val _ rfl) (RepL.cons (.val _ rfl) RepL.nil))).tup rfl rfl ((Still.one _ _).below _))
theorem pcRefGetInts (bs:List Int) (hby:Byte bs) (hl:bs.length≤1000000000):PCalls Tryz.prog 125 [pbytes bs] (· = .tup [pints (getInts bs).1,pint (getInts bs).2.1,pint (getInts bs).2.2]):=
 pcalls1 (by kernel_rfl) fun Φ μ w v himm hr=>(refGetInts v bs w (bytes_of_rep himm hr) hby hl).mono (by
  rintro e w' ⟨u,rfl,ho,hb⟩
  exact post_tup3 himm (plain_int _) ho hb)
set_option maxRecDepth 10000 in
set_option maxHeartbeats 1000000 in
theorem pw_refGetBytes (bs:List Int) (hby:Byte bs) (hl:bs.length≤1000000000):PCalls Tryz.prog 209 [pbytes bs] (· = .tup [pstr (getS bs).1,pint (getS bs).2.1,pint (getS bs).2.2]):=by
 refine pcalls_of_pw typeTab_ok Tryz.func209 rfl (by kernel_rfl) (by exact lw) (by simp [pbytes,PV.ownB]) (Nat.le_of_ble_eq_true rfl) ?_
 have cg:=pcRefGetInt bs hby
 have ok:=getI_ok bs hby.all
 obtain ⟨n,u,er,h1⟩:∃n u er,getI bs=(n,u,er):=⟨_,_,_,rfl⟩
 have hG:getS bs=if er≠0 then (ByteArray.empty,0,er) else if n < 0 then (ByteArray.empty,0,11) else if (bs.length:Int) - u < n then (ByteArray.empty,0,10) else (strOf ((bs.drop u.toNat).take n.toNat),u+n,0):=by
  rw [getS,lenL,h1]
  by_cases e1:er=0
  ·by_cases e2:n < 0
   ·simp [e1,e2]
   ·by_cases e3:(bs.length:Int) - u < n
    ·simp [e1,e2,e3]
    ·simp [e1,e2,e3]
  ·simp [e1]
 rw [h1] at cg ok
 clear h1
 simp only at cg ok
 refine wk ?_
 by_cases g1:er=0
 case neg=>
  refine wk ?_
  refine retP rfl (by exact lw) ?_
  rw [hG,if_pos g1];rfl
 subst g1
 obtain ⟨o1,o2,o3,o4⟩:=ok rfl
 refine wk ?_
 by_cases g2:n < 0
 ·refine wk ?_
  refine retP rfl (by exact lw) ?_
  rw [hG,if_neg (by simp),if_pos g2];rfl
 refine wk ?_
 by_cases g3:(bs.length:Int) - u < n
 ·refine wk ?_
  refine retP rfl (by exact lw) ?_
  rw [hG,if_neg (by simp),if_neg g2,if_pos g3];rfl
 obtain ⟨N,rfl⟩:∃N:Nat,n=N:=⟨n.toNat,by omega⟩
 obtain ⟨U,rfl⟩:∃N:Nat,u=N:=⟨u.toNat,by omega⟩
 have hG2:getS bs=(strOf ((bs.drop U).take N),(U:Int)+(N:Int),0):=by
  rw [hG,if_neg (by simp),if_neg g2,if_neg g3];simp
 clear hG
 rw [hG2]
 refine wk ?_
 refine retP rfl (by exact lw) ?_
 rw [show ((U:Int)+(N:Int)).toNat - ((U:Int)).toNat=N by omega];rfl
theorem weak_nil3 (k:Nat) (a b:Int):Weak (.tup [.nilsl,pint a,pint b]) (.tup [.sl 0 k [] none,pint a,pint b]):=
 .tup (.cons (.nil k) (.cons (.refl _) (.cons (.refl _) .nil)))
set_option maxRecDepth 10000 in
set_option maxHeartbeats 1000000 in
theorem pw_refGetStrs (bs:List Int) (hby:Byte bs) (hl:bs.length≤1000000000):PCalls Tryz.prog 126 [pbytes bs] (· = .tup [pstrs (getStrs bs).1,pint (getStrs bs).2.1,pint (getStrs bs).2.2]):=by
 refine PCalls.weak ?_
 refine pcalls_of_pw typeTab_ok Tryz.func126 rfl (by kernel_rfl) (by exact lw) (by simp [pbytes,PV.ownB]) (Nat.le_of_ble_eq_true rfl) ?_
 have cg:=pcRefLength bs hby
 have ok:=lenL_ok bs 1 hby.all
 obtain ⟨n,u,er,h1⟩:∃n u er,lenL bs 1=(n,u,er):=⟨_,_,_,rfl⟩
 have hD:getStrs bs=if er≠0 then ([],0,er) else andThenS [] u (getNS n.toNat (bs.drop u.toNat)):=by rw [getStrs,h1]
 rw [h1] at cg ok
 clear h1
 simp only [Int.ediv_one] at cg ok
 refine wk ?_
 by_cases g1:er=0
 case neg=>
  refine wk ?_
  refine retP (r:=.tup [.nilsl,pint 0,pint er]) rfl (by exact lw) ?_
  rw [hD,if_pos g1];exact weak_nil3 1 0 er
 subst g1
 obtain ⟨o1,o2,o3,o4⟩:=ok rfl
 rw [if_neg (by simp)] at hD
 obtain ⟨N,rfl⟩:∃N:Nat,n=N:=⟨n.toNat,by omega⟩
 obtain ⟨U,rfl⟩:∃N:Nat,u=N:=⟨u.toNat,by omega⟩
 simp only [Int.toNat_natCast] at hD
 refine wk ?_
 refine PW.loop (fun x:List ByteArray×Nat=>((((bot.put 0 (pbytes bs)).put 5 (pint N)).put 6 (pint x.2)).put 8 (.sl x.1.length 1 (x.1.map pstr) (some 9))).put 9 (pint x.1.length)) (fun x=>x.1.length≤N∧x.2≤bs.length∧getStrs bs=andThenS x.1 x.2 (getNS (N - x.1.length) (bs.drop x.2))) (fun x=>N - x.1.length) ([],U) ⟨by simp,by omega,hD⟩ ?_ ?_
 ·exact sb
 ·rintro ⟨out,A⟩ ⟨i1,i2,i3⟩
  simp only at i1 i2 i3
  simp only
  by_cases hlt:out.length < N
  ·have cb:=pw_refGetBytes (bs.drop A) (hby.drop A) (by rw [List.length_drop];omega)
   have okb:=getS_ok (bs.drop A) (hby.drop A).all
   obtain ⟨x,v,e2,h2⟩:∃x v e2,getS (bs.drop A)=(x,v,e2):=⟨_,_,_,rfl⟩
   rw [h2] at cb okb
   simp only at cb okb
   rw [show N - out.length=(N - out.length - 1)+1 by omega] at i3
   refine wk ?_
   by_cases g2:e2=0
   case neg=>
    refine wk ?_
    refine retP (r:=.tup [.nilsl,pint 0,pint e2]) rfl (by exact lw) ?_
    rw [i3,andThenS_err _ _ _ _ _ h2 g2];exact weak_nil3 1 0 e2
   subst g2
   obtain ⟨p1,p2⟩:=okb rfl
   rw [List.length_drop] at p2
   obtain ⟨V,rfl⟩:∃N:Nat,v=N:=⟨v.toNat,by omega⟩
   have i4:=i3
   rw [andThenS_step _ _ _ _ _ h2 rfl] at i4
   simp only [Int.toNat_natCast,List.drop_drop] at i4
   clear i3 hD h2 cb
   refine wk ?_
   refine loopP (out ++ [x],A+V) ⟨by simp;omega,by omega,?_⟩ (by simp;omega) ?_
   ·rw [i4];simp only [List.length_append,List.length_cons,List.length_nil]
    rw [show N - (out.length+(0+1))=N - out.length - 1 by omega];rfl
   ·have hl2:(out ++ [x]).length=out.length+1:=by simp
    have hm2:(out ++ [x]).map pstr=out.map pstr ++ [pstr x]:=by simp
    have ll:Low (.sl (out.length+1) 1 (out.map pstr ++ [pstr x]) (some 9)):=by rw [←hm2];exact low_mapS
    simp only [hl2,hm2]
    exact sb
  ·refine wk ?_
   refine retP (r:=.tup [.sl out.length 1 (out.map pstr) none,pint A,pint 0]) rfl (by simp [low_tup,low_pint];exact low_mapS) ?_
   have i4:=i3
   rw [show N - out.length=0 by omega,andThenS_done] at i4
   rw [i4];exact .refl _
end
end Go.Proofs.YtoamkpgaaanafaaGreat
