/- Out of: Ta. -/
import Derived.Test.YtmeekbjhpidcgaaDoorG17
namespace Go.Proofs.YtmeekbjhpidcgaaDoor
set_option linter.unusedSimpArgs false
set_option linter.unusedVariables false
set_option linter.unnecessarySimpa false
section
open Go.RowKit
def dg (r:PRef) (i:Nat):PV:=pbyte (r.dig.getD i 0)
def digL (r:PRef):List PV := [dg r 0,dg r 1,dg r 2,dg r 3,dg r 4,dg r 5,dg r 6,dg r 7,dg r 8,dg r 9,dg r 10,dg r 11,dg r 12,dg r 13,dg r 14,dg r 15]
def prefL (r:PRef):List PV := [pint r.kind,pint r.id,dg r 0,dg r 1,dg r 2,dg r 3,dg r 4,dg r 5,dg r 6,dg r 7,dg r 8,dg r 9,dg r 10,dg r 11,dg r 12,dg r 13,dg r 14,dg r 15]
def pref (r:PRef):PV:=.agg (prefL r)
def prefs (l:List PRef):PV:=.sl l.length 18 (l.flatMap prefL) none
def pmanL (m:PMan):List PV := [pint m.ver,pints m.notes,prefs m.refs]
def pman (m:PMan):PV:=.agg (pmanL m)
theorem low_prefL (r:PRef):∀c∈prefL r,Low c:=by
 intro c hc
 simp only [prefL,List.mem_cons,List.not_mem_nil,or_false] at hc
 rcases hc with rfl|rfl|rfl|rfl|rfl|rfl|rfl|rfl|rfl|rfl|rfl|rfl|rfl|rfl|rfl|rfl|rfl|rfl<;>exact .val _
theorem low_pref (r:PRef):Low (pref r)↔True:=⟨fun _=>trivial,fun _=>.agg _ (low_prefL r)⟩
theorem low_rows (l:List PRef):∀c∈l.flatMap prefL,Low c:=by
 intro c hc
 obtain ⟨r,-,h⟩:=List.mem_flatMap.1 hc
 exact low_prefL r c h
theorem low_prefs (l:List PRef):Low (prefs l)↔True:=⟨fun _=>trivial,fun _=>.sl _ _ _ _ (low_rows l)⟩
theorem low_pmanL (m:PMan):∀c∈pmanL m,Low c:=by
 intro c hc
 simp only [pmanL,List.mem_cons,List.not_mem_nil,or_false] at hc
 rcases hc with rfl|rfl|rfl
 ·exact .val _
 ·exact (low_pints _).2 trivial
 ·exact (low_prefs _).2 trivial
theorem low_pman (m:PMan):Low (pman m)↔True:=⟨fun _=>trivial,fun _=>.agg _ (low_pmanL m)⟩
theorem rows_len (l:List PRef):(l.flatMap prefL).length=l.length * 18:=flatMap_len (f:=prefL) (k:=18) (fun _=>rfl) l
def cmpI (x y:Int):Int:=if x < y then -1 else if y < x then 1 else 0
def orI (a b:Int):Int:=if a≠0 then a else b
def ordR (a b:PRef):Int:=orI (cmpI a.kind b.kind) (cmpI a.id b.id)
set_option maxRecDepth 10000 in
theorem pw_nan (x:Int):PCalls Tryd.prog 88 [pint x] (· = pbool false):=by
 have e:(!(x == x))=false:=by simp
 refine pcalls_of_pw typeTab_ok Tryd.func88 rfl (by kernel_rfl) (by simp [low_pint,low_pints,low_pstr,low_pbool,low_pbytes,low_pstrs]) (by simp [pint,pints,pstr,pbool,pstrs,pbytes,PV.ownB]) (by rw [Tryd.ntmps88];simp) ?_
 rw [Tryd.ntmps88,Tryd.results88]
 refine wk ?_
 refine retP rfl (by exact lw) ?_
 simp [pbool]
set_option maxRecDepth 10000 in
theorem pw_cmp (x y:Int):PCalls Tryd.prog 69 [pint x,pint y] (· = pint (cmpI x y)):=by
 have h1:=pw_nan x
 have h2:=pw_nan y
 refine pcalls_of_pw typeTab_ok Tryd.func69 rfl (by kernel_rfl) (by simp [low_pint,low_pints,low_pstr,low_pbool,low_pbytes,low_pstrs]) (by simp [pint,pints,pstr,pbool,pstrs,pbytes,PV.ownB]) (by rw [Tryd.ntmps69];simp) ?_
 rw [Tryd.ntmps69,Tryd.results69]
 unfold cmpI
 by_cases g1:x < y
 ·rw [if_pos g1]
  refine wk ?_
  exact retP rfl (by exact lw) rfl
 ·rw [if_neg g1]
  by_cases g2:y < x
  ·rw [if_pos g2]
   refine wk ?_
   exact retP rfl (by exact lw) rfl
  ·rw [if_neg g2]
   refine wk ?_
   exact retP rfl (by exact lw) rfl
set_option maxRecDepth 10000 in
theorem pw_or (a b:Int):PCalls Tryd.prog 68 [.sl 2 1 [pint a,pint b] none] (· = pint (orI a b)):=by
 have hl:Low (.sl 2 1 [pint a,pint b] none):=.sl _ _ _ _ (by intro c hc;simp only [List.mem_cons,List.not_mem_nil,or_false] at hc;rcases hc with rfl|rfl<;>exact .val _)
 refine pcalls_of_pw typeTab_ok Tryd.func68 rfl (by kernel_rfl) (by simp [hl]) (by simp [PV.ownB]) (by rw [Tryd.ntmps68];simp) ?_
 rw [Tryd.ntmps68,Tryd.results68]
 unfold orI
 refine wk ?_
 refine PW.loop (fun k:Nat=>(((((bot.put 0 (.sl 2 1 [pint a,pint b] none)).put 3 (pint 0)).put 6 (.sl 2 1 [pint a,pint b] none)).put 7 (pint 2)).put 8 (pint k))) (fun k=>k≤2∧(0 < k→a=0)∧(1 < k→b=0)) (fun k=>2 - k) 0 ⟨by omega,by omega,by omega⟩ ?_ ?_
 ·exact sb
 ·rintro k ⟨hk,ka,kb⟩
  obtain rfl|rfl|rfl:k=0∨k=1∨k=2:=by omega
  ·by_cases g:a=0
   ·refine wk ?_
    refine loopP 1 ⟨by omega,fun _=>g,by omega⟩ (by omega) ?_
    exact sb
   ·rw [if_pos g]
    refine wk ?_
    exact retP rfl (by exact lw) rfl
  ·have g:=ka (by omega)
   rw [if_neg (by simp [g])]
   by_cases g2:b=0
   ·refine wk ?_
    refine loopP 2 ⟨by omega,fun _=>g,fun _=>g2⟩ (by omega) ?_
    exact sb
   ·refine wk ?_
    exact retP rfl (by exact lw) rfl
  ·have g:=ka (by omega)
   have g2:=kb (by omega)
   rw [if_neg (by simp [g]),g2]
   refine wk ?_
   exact retP rfl (by exact lw) rfl
set_option maxRecDepth 10000 in
theorem pw_refCompare (a b:PRef):PCalls Tryd.prog 51 [pref a,pref b] (· = pint (ordR a b)):=by
 have h1:=pw_cmp a.kind b.kind
 have h2:=pw_cmp a.id b.id
 have h3:=pw_or (cmpI a.kind b.kind) (cmpI a.id b.id)
 refine pcalls_of_pw typeTab_ok Tryd.func51 rfl (by kernel_rfl) (by simp [low_pint,low_pints,low_pstr,low_pbool,low_pbytes,low_pstrs,low_pref]) (by simp [pint,pints,pstr,pbool,pstrs,pbytes,PV.ownB,pref]) (by rw [Tryd.ntmps51];simp) ?_
 rw [Tryd.ntmps51,Tryd.results51]
 refine wk ?_
 exact retP rfl (by exact lw) rfl
set_option maxRecDepth 10000 in
theorem pw_order (a b:PRef):PCalls Tryd.prog 37 [pref a,pref b] (· = pint (ordR a b)):=by
 have h1:=pw_refCompare a b
 refine pcalls_of_pw typeTab_ok Tryd.func37 rfl (by kernel_rfl) (by simp [low_pint,low_pints,low_pstr,low_pbool,low_pbytes,low_pstrs,low_pref]) (by simp [pint,pints,pstr,pbool,pstrs,pbytes,PV.ownB,pref]) (by rw [Tryd.ntmps37];simp) ?_
 rw [Tryd.ntmps37,Tryd.results37]
 refine wk ?_
 exact retP rfl (by exact lw) rfl
theorem ordR_lt {a b:PRef} : ordR a b < 0↔refLt a b=true:=by
 rw [refLt_iff];unfold ordR orI cmpI
 repeat' split
 all_goals omega
theorem ordR_zero {a b:PRef} : ordR a b=0↔a.kind=b.kind∧a.id=b.id:=by
 unfold ordR orI cmpI
 repeat' split
 all_goals omega
end
end Go.Proofs.YtmeekbjhpidcgaaDoor
