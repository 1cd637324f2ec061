/- Out of: Zj. -/
import Derived.Test.YtoamkpgaaanafaaGreatM19
namespace Go.Proofs.YtoamkpgaaanafaaGreat
set_option linter.unusedSimpArgs false
set_option linter.unusedVariables false
set_option linter.unnecessarySimpa false
section
open Go.RowKit
structure PShell where
 lo:Int
 hi:Int
 deriving DecidableEq,Inhabited
def pshL (s:PShell):List PV := [pint s.lo,pint s.hi]
def psh (s:PShell):PV:=.agg (pshL s)
def pshells (l:List PShell):PV:=.sl l.length 2 (l.flatMap pshL) none
theorem low_pshL (s:PShell):∀c∈pshL s,Low c:=by
 intro c hc
 simp only [pshL,List.mem_cons,List.not_mem_nil,or_false] at hc
 rcases hc with rfl|rfl<;>exact .val _
theorem low_psh (s:PShell):Low (psh s)↔True:=⟨fun _=>trivial,fun _=>.agg _ (low_pshL s)⟩
theorem low_pshells (l:List PShell):Low (pshells l)↔True:=by
 simp only [pshells,low_sl,iff_true]
 intro c hc
 obtain ⟨z,-,hz⟩:=List.mem_flatMap.1 hc
 exact low_pshL z c hz
def withP (p:PShell) (x:Int):PShell:=⟨min p.lo x,max p.hi x⟩
def hasP (p:PShell) (x:Int):Bool:=decide (p.lo≤x) && decide (x≤p.hi)
def allP:PShell:=⟨0,134217728⟩
set_option maxRecDepth 10000 in
theorem pw_with (p:PShell) (x:Int):PCalls Tryz.prog 142 [psh p,pint x] (· = psh (withP p x)):=by
 refine pcalls_of_pw typeTab_ok Tryz.func142 rfl (by kernel_rfl) (by simp [low_pint,low_psh]) (by simp [pint,psh,PV.ownB]) (by rw [Tryz.ntmps142];simp) ?_
 rw [Tryz.ntmps142,Tryz.results142]
 unfold psh pshL withP
 refine wk ?_
 simp only [Bool.false_eq_true,if_false,if_true]
 rw [show (if x < p.lo then x else p.lo)=min p.lo x from by split<;>omega,show (if x > p.hi then x else p.hi)=max p.hi x from by split<;>omega]
 exact retP (r:=.agg [pint (min p.lo x),pint (max p.hi x)]) rfl (by simp [low_agg,low_pint]) rfl
set_option maxRecDepth 10000 in
theorem pw_has (p:PShell) (x:Int):PCalls Tryz.prog 95 [psh p,pint x] (· = pbool (hasP p x)):=by
 have h:=pw_with p x
 refine pcalls_of_pw typeTab_ok Tryz.func95 rfl (by kernel_rfl) (by simp [low_pint,low_psh]) (by simp [pint,psh,PV.ownB]) (by rw [Tryz.ntmps95];simp) ?_
 rw [Tryz.ntmps95,Tryz.results95]
 unfold psh pshL withP at *
 refine wk ?_
 have hq:peqs [.int, .int] [pint p.lo,pint p.hi] [pint (min p.lo x),pint (max p.hi x)]=some (hasP p x):=by
  have:=peqs_ints (k:=.i64) [p.lo,p.hi] [min p.lo x,max p.hi x] rfl
  refine this.trans ?_
  congr 1
  rw [Bool.eq_iff_iff]
  simp only [hasP,beq_iff_eq,List.cons.injEq,and_true,Bool.and_eq_true,decide_eq_true_eq]
  omega
 refine PWops.eqA rfl rfl rfl rfl rfl rfl rfl rfl hq (.inl rfl) ?_
 refine wk ?_
 exact retP rfl (by exact lw) rfl
set_option maxRecDepth 10000 in
theorem pw_all:PCalls Tryz.prog 147 [] (· = psh allP):=by
 refine pcalls_of_pw typeTab_ok Tryz.func147 rfl (by kernel_rfl) (by simp) (by simp) (by rw [Tryz.ntmps147];simp) ?_
 rw [Tryz.ntmps147,Tryz.results147]
 unfold psh pshL allP at *
 refine wk ?_
 exact retP (r:=.agg [pint 0,pint 134217728]) rfl (by simp [low_agg,low_pint]) rfl
def shellB (s:PShell):Bool:=decide (s.lo≤s.hi) && (hasP allP s.lo && hasP allP s.hi)
def shellsB (l:List PShell):Bool:=l.all shellB && decide (l.length≤8)
set_option maxRecDepth 10000 in
set_option maxHeartbeats 2000000 in
theorem pw_shValid (l:List PShell) (hl:l.length≤1000000):PCalls Tryz.prog 66 [pshells l] (· = pbool (shellsB l)):=by
 refine pcalls_of_pw typeTab_ok Tryz.func66 rfl (by kernel_rfl) (by simp [low_pshells]) (by simp [pshells,PV.ownB]) (by rw [Tryz.ntmps66];simp) ?_
 rw [Tryz.ntmps66,Tryz.results66]
 have hlow:∀x,Low (pshells x):=fun x=>(low_pshells x).2 trivial
 have ha:=pw_all
 unfold shellsB
 refine wk ?_
 refine PW.loop (fun k:Nat=>((((bot.put 0 (pshells l)).put 5 (pshells l)).put 6 (pint l.length)).put 7 (pint k))) (fun k=>k≤l.length∧∀j,j < k→shellB (l.getD j default)=true) (fun k=>l.length - k) 0 ⟨by omega,by simp⟩ ?_ ?_
 ·exact sb
 ·rintro k ⟨hk,hn⟩
  have hno:k < l.length→shellB (l.getD k default)=false→l.all shellB=false:=fun hlt h=>by
   rw [List.all_eq_false]
   exact ⟨l.getD k default,by rw [List.getD_eq_getElem?_getD,List.getElem?_eq_getElem hlt];exact List.getElem_mem hlt,by rw [h];simp⟩
  by_cases hlt:k < l.length
  ·have hh1:=pw_has allP (l.getD k default).lo
   have hh2:=pw_has allP (l.getD k default).hi
   by_cases c1:(l.getD k default).lo≤(l.getD k default).hi
   ·cases c2:hasP allP (l.getD k default).lo with
    |false=>
     rw [c2] at hh1
     clear hh2
     refine wk ?_
     refine retP rfl (by exact lw) ?_
     rw [hno hlt (by simp only [shellB,c2,Bool.false_and,Bool.and_false])];rfl
    |true=>
     rw [c2] at hh1
     cases c3:hasP allP (l.getD k default).hi with
     |false=>
      rw [c3] at hh2
      refine wk ?_
      refine retP rfl (by exact lw) ?_
      rw [hno hlt (by simp only [shellB,c3,Bool.and_false])];rfl
     |true=>
      rw [c3] at hh2
      refine wk ?_
      refine loopP (k+1) ⟨by omega,fun j hj=>?_⟩ (by omega) ?_
      ·by_cases h:j=k
       ·rw [h];simp only [shellB,decide_eq_true c1,c2,c3];rfl
       ·exact hn j (by omega)
      ·exact sb
   ·clear hh1 hh2
    refine wk ?_
    refine retP rfl (by exact lw) ?_
    rw [hno hlt (by simp only [shellB,decide_eq_false c1,Bool.false_and])];rfl
  ·have hall:l.all shellB=true:=by
    rw [List.all_eq_true]
    intro x hx
    obtain ⟨j,hj,rfl⟩:=List.getElem_of_mem hx
    have:=hn j (by omega)
    rwa [List.getD_eq_getElem?_getD,List.getElem?_eq_getElem hj] at this
   rw [hall]
   by_cases h8:l.length≤8
   ·refine wk ?_
    exact retP rfl (by exact lw) (by simp [pbool,h8])
   ·refine wk ?_
    exact retP rfl (by exact lw) (by simp [pbool,h8])
end
end Go.Proofs.YtoamkpgaaanafaaGreat
