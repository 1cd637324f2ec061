/- Out of: Th. -/
import Derived.Test.YtmeekbjhpidcgaaDoorG28
namespace Go.Proofs.YtmeekbjhpidcgaaDoor
set_option linter.unusedSimpArgs false
set_option linter.unusedVariables false
set_option linter.unnecessarySimpa false
section
open Go.RowKit
theorem prefL_eq {r:PRef} (h:r.dig.length=16):prefL r=pint r.kind :: pint r.id :: r.dig.map pbyte:=by
 have:=dig16 h
 unfold prefL dg
 rw [←this]
 rfl
theorem ref_eqs {x y:PRef} (hx:x.dig.length=16) (hy:y.dig.length=16):peqs [.int, .int, .int, .int, .int, .int, .int, .int, .int, .int, .int, .int, .int, .int, .int, .int, .int, .int] (prefL x) (prefL y)=some (decide (x=y)):=by
 rw [prefL_eq hx,prefL_eq hy]
 have h1:=peqs_ints (k:=.u8) x.dig y.dig (by rw [hx,hy])
 rw [hx] at h1
 have h2:peqs [.int, .int, .int, .int, .int, .int, .int, .int, .int, .int, .int, .int, .int, .int, .int, .int] (x.dig.map pbyte) (y.dig.map pbyte)=some (x.dig == y.dig):=h1
 show (match veq .int (.int .i64 x.kind) (.int .i64 y.kind),(match veq .int (.int .i64 x.id) (.int .i64 y.id),peqs [.int, .int, .int, .int, .int, .int, .int, .int, .int, .int, .int, .int, .int, .int, .int, .int] (x.dig.map pbyte) (y.dig.map pbyte) with|some r,some s=>some (r && s)|_,_=>none) with|some r,some s=>some (r && s)|_,_=>none)=_
 rw [h2]
 simp only [veq,if_true]
 congr 1
 obtain ⟨a,b,c⟩:=x
 obtain ⟨d,e,f⟩:=y
 simp only [PRef.mk.injEq]
 by_cases e1:a=d<;>by_cases e2:b=e<;>by_cases e3:c=f<;>simp [e1,e2,e3]
theorem getD_dig {l:List PRef} {k:Nat} (h:k < l.length) (hd:∀r∈l,r.dig.length=16):(l.getD k default).dig.length=16:=hd _ (List.mem_of_getElem? (getD_row h))
theorem take_row {a b:List PRef} {k:Nat} (ha:k < a.length) (hb:k < b.length) (h:a.take k=b.take k) (e:a.getD k default=b.getD k default):a.take (k+1)=b.take (k+1):=by
 rw [List.take_add_one,List.take_add_one,h,getD_row ha,getD_row hb,e]
set_option maxRecDepth 10000 in
set_option maxHeartbeats 1000000 in
theorem pw_sameRefs (a b:List PRef) (h1:a.length≤1000000000) (h2:b.length≤1000000000) (d1:∀r∈a,r.dig.length=16) (d2:∀r∈b,r.dig.length=16):PCalls Tryd.prog 16 [prefs a,prefs b] (· = pbool (decide (a=b))):=by
 have hl1:Low (prefs a):=(low_prefs _).2 trivial
 have hl2:Low (prefs b):=(low_prefs _).2 trivial
 refine pcalls_of_pw typeTab_ok Tryd.func16 rfl (by kernel_rfl) (by simp [low_pint,low_pints,low_pstr,low_pbool,low_pbytes,low_pstrs,low_prefs]) (by simp [pint,pints,pstr,pbool,pstrs,pbytes,PV.ownB,prefs]) (by rw [Tryd.ntmps16];simp) ?_
 rw [Tryd.ntmps16,Tryd.results16]
 have f1:=rows_len a
 have f2:=rows_len b
 by_cases hlen:a.length=b.length
 ·refine wk ?_
  refine PW.loop (fun k:Nat=>(((bot.put 0 (prefs a)).put 1 (prefs b)).put 5 (pint k))) (fun k=>k≤a.length∧a.take k=b.take k) (fun k=>a.length - k) 0 ⟨by omega,by simp⟩ ?_ ?_
  ·exact sb
  ·rintro k ⟨hk,heq⟩
   by_cases hlt:k < a.length
   ·have hu:=fun _:Unit=>heq
    clear heq
    have he:=ref_eqs (getD_dig hlt d1) (getD_dig (l:=b) (k:=k) (by omega) d2)
    refine wk ?_
    by_cases hxy:a.getD k default=b.getD k default
    ·rw [decide_eq_true hxy] at he
     refine PWops.eqA rfl rfl rfl rfl rfl rfl rfl rfl he (.inr rfl) ?_
     clear he
     refine wk ?_
     refine loopP (k+1) ⟨by omega,take_row hlt (by omega) (hu ()) hxy⟩ (by omega) ?_
     exact sb
    ·rw [decide_eq_false hxy] at he
     refine PWops.eqA rfl rfl rfl rfl rfl rfl rfl rfl he (.inr rfl) ?_
     clear he
     refine wk ?_
     refine retP rfl (by exact lw) ?_
     have:a≠b:=by rintro rfl;exact hxy rfl
     simp [pbool,this]
   ·refine wk ?_
    refine retP rfl (by exact lw) ?_
    have:a=b:=by rw [List.take_of_length_le (by omega),List.take_of_length_le (by omega)] at heq;exact heq
    simp [pbool,this]
 ·refine wk ?_
  refine retP rfl (by exact lw) ?_
  have:a≠b:=by rintro rfl;exact hlen rfl
  simp [pbool,this]
set_option maxRecDepth 10000 in
set_option maxHeartbeats 1000000 in
theorem pw_sameInts (a b:List Int) (h1:a.length≤1000000000) (h2:b.length≤1000000000):PCalls Tryd.prog 32 [pints a,pints b] (· = pbool (decide (a=b))):=by
 have hl1:Low (pints a):=(low_pints _).2 trivial
 have hl2:Low (pints b):=(low_pints _).2 trivial
 refine pcalls_of_pw typeTab_ok Tryd.func32 rfl (by kernel_rfl) (by simp [low_pint,low_pints,low_pstr,low_pbool,low_pbytes,low_pstrs]) (by simp [pint,pints,pstr,pbool,pstrs,pbytes,PV.ownB]) (by rw [Tryd.ntmps32];simp) ?_
 rw [Tryd.ntmps32,Tryd.results32]
 by_cases hlen:a.length=b.length
 ·refine wk ?_
  refine PW.loop (fun k:Nat=>(((bot.put 0 (pints a)).put 1 (pints b)).put 5 (pint k))) (fun k=>k≤a.length∧a.take k=b.take k) (fun k=>a.length - k) 0 ⟨by omega,by simp⟩ ?_ ?_
  ·exact sb
  ·rintro k ⟨hk,heq⟩
   by_cases hlt:k < a.length
   ·have hu:=fun _:Unit=>heq
    clear heq
    by_cases hxy:a.getD k default=b.getD k default
    ·refine wk ?_
     refine loopP (k+1) ⟨by omega,?_⟩ (by omega) ?_
     ·rw [List.take_add_one,List.take_add_one,hu ()]
      have e1:a[k]? = some (a.getD k default):=by rw [List.getD_eq_getElem?_getD,List.getElem?_eq_getElem hlt];rfl
      have e2:b[k]? = some (b.getD k default):=by rw [List.getD_eq_getElem?_getD,List.getElem?_eq_getElem (by omega)];rfl
      rw [e1,e2,hxy]
     exact sb
    ·refine wk ?_
     refine retP rfl (by exact lw) ?_
     have:a≠b:=by rintro rfl;exact hxy rfl
     simp [pbool,this]
   ·refine wk ?_
    refine retP rfl (by exact lw) ?_
    have:a=b:=by rw [List.take_of_length_le (by omega),List.take_of_length_le (by omega)] at heq;exact heq
    simp [pbool,this]
 ·refine wk ?_
  refine retP rfl (by exact lw) ?_
  have:a≠b:=by rintro rfl;exact hlen rfl
  simp [pbool,this]
theorem man_ext {a b:PMan} : a=b↔a.ver=b.ver∧a.notes=b.notes∧a.refs=b.refs:=by
 obtain ⟨x,y,z⟩:=a;obtain ⟨u,v,w⟩:=b;simp
instance:DecidableEq PMan:=fun a b=>decidable_of_iff _ (man_ext (a:=a) (b:=b)).symm
set_option maxRecDepth 10000 in
set_option maxHeartbeats 1000000 in
theorem pw_same (a b:PMan) (h1:a.notes.length≤1000000000∧a.refs.length≤1000000000) (h2:b.notes.length≤1000000000∧b.refs.length≤1000000000) (d1:∀r∈a.refs,r.dig.length=16) (d2:∀r∈b.refs,r.dig.length=16):PCalls Tryd.prog 12 [pman a,pman b] (· = pbool (decide (a=b))):=by
 have c1:=pw_sameInts a.notes b.notes h1.1 h2.1
 have c2:=pw_sameRefs a.refs b.refs h1.2 h2.2 d1 d2
 have hla:=low_pmanL a
 have hlb:=low_pmanL b
 have heq:=man_ext (a:=a) (b:=b)
 refine pcalls_of_pw typeTab_ok Tryd.func12 rfl (by kernel_rfl) (by simp [low_pint,low_pints,low_pstr,low_pbool,low_pbytes,low_pstrs,low_pman]) (by simp [pint,pints,pstr,pbool,pstrs,pbytes,PV.ownB,pman]) (by rw [Tryd.ntmps12];simp) ?_
 rw [Tryd.ntmps12,Tryd.results12]
 by_cases e1:a.ver=b.ver
 ·by_cases e2:a.notes=b.notes
  ·rw [decide_eq_true e2] at c1
   by_cases e3:a.refs=b.refs
   ·rw [decide_eq_true e3] at c2
    rw [decide_eq_true (heq.2 ⟨e1,e2,e3⟩)]
    clear heq
    refine wk ?_
    exact retP rfl (by exact lw) rfl
   ·rw [decide_eq_false e3] at c2
    rw [decide_eq_false (fun h=>e3 (heq.1 h).2.2)]
    clear heq
    refine wk ?_
    exact retP rfl (by exact lw) rfl
  ·rw [decide_eq_false e2] at c1
   rw [decide_eq_false (fun h=>e2 (heq.1 h).2.1)]
   clear heq
   refine wk ?_
   exact retP rfl (by exact lw) rfl
 ·rw [decide_eq_false (fun h=>e1 (heq.1 h).1)]
  clear heq
  refine wk ?_
  exact retP rfl (by exact lw) rfl
end
end Go.Proofs.YtmeekbjhpidcgaaDoor
