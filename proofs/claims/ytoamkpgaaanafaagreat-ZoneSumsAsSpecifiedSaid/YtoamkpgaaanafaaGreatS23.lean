/- Merged: Zj, Zk, PlainRt. -/
import Derived.Lib.BitFns
import Derived.Test.YtoamkpgaaanafaaGreatS22
/- pivot: pairs, shells. -/
namespace Go.Proofs.YtoamkpgaaanafaaGreat
set_option linter.unusedSimpArgs false
set_option linter.unusedVariables false
set_option linter.unnecessarySimpa false
open Go.RowKit
structure PShell where
 lo:Int
 hi:Int
 deriving DecidableEq,Inhabited
def pshL (s:PShell):List PV := [pint s.lo,pint s.hi]
def psh (s:PShell):PV:=.agg (pshL s)
def pshells (l:List PShell):PV:=.sl l.length 2 (l.flatMap pshL) none
theorem low_pshL (s:PShell):∀c∈pshL s,Low c:=by
 intro c hc
 simp only [pshL,List.mem_cons,List.not_mem_nil,or_false] at hc
 rcases hc with rfl|rfl<;>exact .val _
theorem low_psh (s:PShell):Low (psh s)↔True:=⟨fun _=>trivial,fun _=>.agg _ (low_pshL s)⟩
theorem low_pshells (l:List PShell):Low (pshells l)↔True:=by
 simp only [pshells,low_sl,iff_true]
 intro c hc
 obtain ⟨z,-,hz⟩:=List.mem_flatMap.1 hc
 exact low_pshL z c hz
def withP (p:PShell) (x:Int):PShell:=⟨min p.lo x,max p.hi x⟩
def hasP (p:PShell) (x:Int):Bool:=decide (p.lo≤x) && decide (x≤p.hi)
def allP:PShell:=⟨0,134217728⟩
set_option maxRecDepth 10000 in
theorem pw_with (p:PShell) (x:Int):PCalls Tryz.prog 142 [psh p,pint x] (· = psh (withP p x)):=by
 refine pcalls_of_pw typeTab_ok Tryz.func142 rfl (by kernel_rfl) (by simp [low_pint,low_psh]) (by simp [pint,psh,PV.ownB]) (by rw [Tryz.ntmps142];simp) ?_
 rw [Tryz.ntmps142,Tryz.results142]
 unfold psh pshL withP
 refine wk ?_
 simp only [Bool.false_eq_true,if_false,if_true]
 rw [show (if x < p.lo then x else p.lo)=min p.lo x from by split<;>omega,show (if x > p.hi then x else p.hi)=max p.hi x from by split<;>omega]
 exact retP (r:=.agg [pint (min p.lo x),pint (max p.hi x)]) rfl (by simp [low_agg,low_pint]) rfl
set_option maxRecDepth 10000 in
theorem pw_has (p:PShell) (x:Int):PCalls Tryz.prog 95 [psh p,pint x] (· = pbool (hasP p x)):=by
 have h:=pw_with p x
 refine pcalls_of_pw typeTab_ok Tryz.func95 rfl (by kernel_rfl) (by simp [low_pint,low_psh]) (by simp [pint,psh,PV.ownB]) (by rw [Tryz.ntmps95];simp) ?_
 rw [Tryz.ntmps95,Tryz.results95]
 unfold psh pshL withP at *
 refine wk ?_
 have hq:peqs [.int, .int] [pint p.lo,pint p.hi] [pint (min p.lo x),pint (max p.hi x)]=some (hasP p x):=by
  have:=peqs_ints (k:=.i64) [p.lo,p.hi] [min p.lo x,max p.hi x] rfl
  refine this.trans ?_
  congr 1
  rw [Bool.eq_iff_iff]
  simp only [hasP,beq_iff_eq,List.cons.injEq,and_true,Bool.and_eq_true,decide_eq_true_eq]
  omega
 refine PWops.eqA rfl rfl rfl rfl rfl rfl rfl rfl hq (.inl rfl) ?_
 refine wk ?_
 exact retP rfl (by exact lw) rfl
set_option maxRecDepth 10000 in
theorem pw_all:PCalls Tryz.prog 147 [] (· = psh allP):=by
 refine pcalls_of_pw typeTab_ok Tryz.func147 rfl (by kernel_rfl) (by simp) (by simp) (by rw [Tryz.ntmps147];simp) ?_
 rw [Tryz.ntmps147,Tryz.results147]
 unfold psh pshL allP at *
 refine wk ?_
 exact retP (r:=.agg [pint 0,pint 134217728]) rfl (by simp [low_agg,low_pint]) rfl
def shellB (s:PShell):Bool:=decide (s.lo≤s.hi) && (hasP allP s.lo && hasP allP s.hi)
def shellsB (l:List PShell):Bool:=l.all shellB && decide (l.length≤8)
set_option maxRecDepth 10000 in
set_option maxHeartbeats 2000000 in
theorem pw_shValid (l:List PShell) (hl:l.length≤1000000):PCalls Tryz.prog 66 [pshells l] (· = pbool (shellsB l)):=by
 refine pcalls_of_pw typeTab_ok Tryz.func66 rfl (by kernel_rfl) (by simp [low_pshells]) (by simp [pshells,PV.ownB]) (by rw [Tryz.ntmps66];simp) ?_
 rw [Tryz.ntmps66,Tryz.results66]
 have hlow:∀x,Low (pshells x):=fun x=>(low_pshells x).2 trivial
 have ha:=pw_all
 unfold shellsB
 refine wk ?_
 refine PW.loop (fun k:Nat=>((((bot.put 0 (pshells l)).put 5 (pshells l)).put 6 (pint l.length)).put 7 (pint k))) (fun k=>k≤l.length∧∀j,j < k→shellB (l.getD j default)=true) (fun k=>l.length - k) 0 ⟨by omega,by simp⟩ ?_ ?_
 ·exact sb
 ·rintro k ⟨hk,hn⟩
  have hno:k < l.length→shellB (l.getD k default)=false→l.all shellB=false:=fun hlt h=>by
   rw [List.all_eq_false]
   exact ⟨l.getD k default,by rw [List.getD_eq_getElem?_getD,List.getElem?_eq_getElem hlt];exact List.getElem_mem hlt,by rw [h];simp⟩
  by_cases hlt:k < l.length
  ·have hh1:=pw_has allP (l.getD k default).lo
   have hh2:=pw_has allP (l.getD k default).hi
   by_cases c1:(l.getD k default).lo≤(l.getD k default).hi
   ·cases c2:hasP allP (l.getD k default).lo with
    |false=>
     rw [c2] at hh1
     clear hh2
     refine wk ?_
     refine retP rfl (by exact lw) ?_
     rw [hno hlt (by simp only [shellB,c2,Bool.false_and,Bool.and_false])];rfl
    |true=>
     rw [c2] at hh1
     cases c3:hasP allP (l.getD k default).hi with
     |false=>
      rw [c3] at hh2
      refine wk ?_
      refine retP rfl (by exact lw) ?_
      rw [hno hlt (by simp only [shellB,c3,Bool.and_false])];rfl
     |true=>
      rw [c3] at hh2
      refine wk ?_
      refine loopP (k+1) ⟨by omega,fun j hj=>?_⟩ (by omega) ?_
      ·by_cases h:j=k
       ·rw [h];simp only [shellB,decide_eq_true c1,c2,c3];rfl
       ·exact hn j (by omega)
      ·exact sb
   ·clear hh1 hh2
    refine wk ?_
    refine retP rfl (by exact lw) ?_
    rw [hno hlt (by simp only [shellB,decide_eq_false c1,Bool.false_and])];rfl
  ·have hall:l.all shellB=true:=by
    rw [List.all_eq_true]
    intro x hx
    obtain ⟨j,hj,rfl⟩:=List.getElem_of_mem hx
    have:=hn j (by omega)
    rwa [List.getD_eq_getElem?_getD,List.getElem?_eq_getElem hj] at this
   rw [hall]
   by_cases h8:l.length≤8
   ·refine wk ?_
    exact retP rfl (by exact lw) (by simp [pbool,h8])
   ·refine wk ?_
    exact retP rfl (by exact lw) (by simp [pbool,h8])
end Go.Proofs.YtoamkpgaaanafaaGreat

/- pivot: Join, In; vectors that fit. -/
namespace Go.Proofs.YtoamkpgaaanafaaGreat
set_option linter.unusedSimpArgs false
set_option linter.unusedVariables false
set_option linter.unnecessarySimpa false
open Go.RowKit
theorem shellB_iff {s:PShell} : shellB s=true↔0≤s.lo∧s.lo≤s.hi∧s.hi≤134217728:=by
 have e1:allP.lo=0:=rfl
 have e2:allP.hi=134217728:=rfl
 simp only [shellB,hasP,Bool.and_eq_true,decide_eq_true_eq]
 omega
theorem shellsB_get {l:List PShell} (h:shellsB l=true):l.length≤8∧∀k,k < l.length→shellB (l.getD k default)=true:=by
 simp only [shellsB,Bool.and_eq_true,decide_eq_true_eq,List.all_eq_true] at h
 refine ⟨h.2,fun k hk=>h.1 _ ?_⟩
 rw [List.getD_eq_getElem?_getD,List.getElem?_eq_getElem hk];exact List.getElem_mem hk
def joinS (a b:List PShell):List PShell:=(List.range a.length).map fun k=>⟨min (min (a.getD k default).lo (b.getD k default).lo) (b.getD k default).hi,max (max (a.getD k default).hi (b.getD k default).lo) (b.getD k default).hi⟩
def shJoin (a b:List PShell):List PShell×Int:=if shellsB a && (shellsB b && decide (a.length=b.length)) then (joinS a b,0) else ([],1)
theorem low_shapp (n:Nat) (l:List PShell) (x:PShell) (own:Option TypeId):Low (.sl n 2 (l.flatMap pshL ++ pshL x) own):=by
 refine .sl _ _ _ _ fun c hc=>?_
 rcases List.mem_append.1 hc with h|h
 ·obtain ⟨z,-,hz⟩:=List.mem_flatMap.1 h;exact low_pshL z c hz
 ·exact low_pshL x c h
theorem low_shown (n:Nat) (l:List PShell) (own:Option TypeId):Low (.sl n 2 (l.flatMap pshL) own):=by
 refine .sl _ _ _ _ fun c hc=>?_
 obtain ⟨z,-,hz⟩:=List.mem_flatMap.1 hc;exact low_pshL z c hz
def alikeB (a b:List Int):Bool:=decide (a.length=b.length) && (vecB a && vecB b)
set_option maxRecDepth 10000 in
theorem pw_alike (a b:List Int) (h1:a.length≤1000000) (h2:b.length≤1000000):PCalls Tryz.prog 229 [pints a,pints b] (· = pbool (alikeB a b)):=by
 have hv:=pw_vecValid a h1
 have hw:=pw_vecValid b h2
 refine pcalls_of_pw typeTab_ok Tryz.func229 rfl (by kernel_rfl) (by simp [low_pints]) (by simp [pints,PV.ownB]) (by rw [Tryz.ntmps229];simp) ?_
 rw [Tryz.ntmps229,Tryz.results229]
 unfold alikeB
 by_cases e1:a.length=b.length
 ·cases e2:vecB a with
  |false=>
   rw [e2] at hv
   clear hw
   refine wk ?_
   exact retP rfl (by exact lw) (by simp [pbool])
  |true=>
   rw [e2] at hv
   cases e3:vecB b <;>
   ·rw [e3] at hw
    refine wk ?_
    exact retP rfl (by exact lw) (by simp [pbool,e1])
 ·refine wk ?_
  exact retP rfl (by exact lw) (by simp [pbool,e1])
def fitB (l:List (List Int)):Bool:=decide (1≤l.length) && (decide (l.length≤4096) && !l.any fun v => !alikeB (l.getD 0 default) v)
set_option maxRecDepth 10000 in
theorem pw_fit1 (l:List (List Int)) (v:List Int) (hl:0 < l.length) (h0:(l.getD 0 default).length≤1000000) (hv:v.length≤1000000):PCalls Tryz.prog 256 [pints v, .ep [pvecs l] 0] (· = pbool (!alikeB (l.getD 0 default) v)):=by
 have h:=pw_alike (l.getD 0 default) v h0 hv
 have hlow:Low (.ep [pvecs l] 0):=by simp [low_ep,low_pvecs]
 refine pcalls_of_pw typeTab_ok Tryz.func256 rfl (by kernel_rfl) (by simp [low_pints,hlow]) (by simp [pints,PV.ownB]) (by rw [Tryz.ntmps256];simp) ?_
 rw [Tryz.ntmps256,Tryz.results256]
 cases e1:alikeB (l.getD 0 default) v <;>
 ·rw [e1] at h
  refine wk ?_
  exact retP rfl (by exact lw) rfl
theorem getD_mem {α:Type} [Inhabited α] {l:List α} {k:Nat} (h:k < l.length):l.getD k default∈l:=by
 rw [List.getD_eq_getElem?_getD,List.getElem?_eq_getElem h];exact List.getElem_mem h
set_option maxRecDepth 10000 in
set_option maxHeartbeats 1000000 in
theorem pw_fit (l:List (List Int)) (hl:l.length≤1000000) (hv:∀v∈l,v.length≤1000000):PCalls Tryz.prog 228 [pvecs l] (· = pbool (fitB l)):=by
 refine pcalls_of_pw typeTab_ok Tryz.func228 rfl (by kernel_rfl) (by simp [low_pvecs]) (by simp [pvecs,PV.ownB]) (by rw [Tryz.ntmps228];simp) ?_
 rw [Tryz.ntmps228,Tryz.results228]
 refine PW.seq ?_
 refine PW.region typeTab_ok (by kernel_rfl) ?_
 refine wg ?_
 refine PW.freezeP (id:=0) (s:=1) (off:=0) (σ':=bot) rfl rfl (fun c hc=>by simp only [List.mem_cons,List.not_mem_nil,or_false] at hc;subst hc;exact (low_pvecs _).2 trivial) (by exact sbr0) rfl ?_
 unfold fitB
 by_cases h1:1≤l.length
 ·by_cases h2:l.length≤4096
  ·have h:=pw_anyV 256 [.ep [pvecs l] 0] (fun v => !alikeB (l.getD 0 default) v) l rfl (by omega) (by simp [low_ep,low_pvecs]) (fun k hk=>pw_fit1 l _ (by omega) (hv _ (getD_mem (by omega))) (hv _ (getD_mem hk)))
   cases e1:l.any (fun v => !alikeB (l.getD 0 default) v) <;>
   ·rw [e1] at h
    refine wk ?_
    exact retP rfl (by exact lw) (by simp [pbool,h1,h2])
  ·refine wk ?_
   exact retP rfl (by exact lw) (by simp [pbool,h2])
 ·refine wk ?_
  exact retP rfl (by exact lw) (by simp [pbool,h1])
end Go.Proofs.YtoamkpgaaanafaaGreat

/- Integer roots (no program). -/
namespace Go.Proofs.YtoamkpgaaanafaaGreat
set_option linter.unusedSimpArgs false
set_option linter.unusedVariables false
set_option linter.unnecessarySimpa false
def rootG (n:Nat):Nat→Nat→Nat
 |0,out=>out
 |k+1,out=>rootG n k (if (out+2 ^ k) * (out+2 ^ k)≤n then out+2 ^ k else out)
def rootN (n:Nat):Nat:=rootG n 31 0
theorem rootG_spec (n:Nat):∀k out,out * out≤n→n < (out+2 ^ k) * (out+2 ^ k)→rootG n k out * rootG n k out≤n∧n < (rootG n k out+1) * (rootG n k out+1)
 |0,out,h1,h2=>⟨h1,h2⟩
 |k+1,out,h1,h2=>by
  unfold rootG
  by_cases h:(out+2 ^ k) * (out+2 ^ k)≤n
  ·rw [if_pos h]
   refine rootG_spec n k _ h ?_
   rwa [Nat.add_assoc,←Nat.two_mul,Nat.mul_comm 2,←Nat.pow_succ]
  ·rw [if_neg h]
   exact rootG_spec n k _ h1 (by omega)
theorem rootN_spec {n:Nat} (h:n≤1152921504606846976):rootN n * rootN n≤n∧n < (rootN n+1) * (rootN n+1):=
 rootG_spec n 31 0 (Nat.zero_le _) (Nat.lt_of_le_of_lt h (by decide))
theorem rootN_le {n:Nat} (h:n≤1152921504606846976):rootN n≤1073741824:=by
 obtain ⟨h3,h4⟩:=rootN_spec h
 have:rootN n < 1073741824+1:=Nat.mul_self_lt_mul_self_iff.1 (by omega)
 omega
theorem newton_ge {n x:Nat} (h:n≤1152921504606846976) (hx:0 < x):rootN n≤(x+n / x) / 2:=by
 obtain ⟨h3,h4⟩:=rootN_spec h
 rcases Nat.lt_or_ge ((x+n / x) / 2) (rootN n) with hlt|hge
 ·exfalso
  generalize rootN n=r at *
  have e1:n / x+1≤2 * r - x:=by omega
  have e2:n < x * (2 * r - x):=by
   have:=Nat.lt_mul_div_succ n hx
   exact Nat.lt_of_lt_of_le this (Nat.mul_le_mul_left x e1)
  have e3:x * (2 * r - x)≤r * r:=by
   rcases Nat.le_total x r with hl|hl
   ·obtain ⟨d,rfl⟩:=Nat.exists_eq_add_of_le hl
    rw [show 2 * (x+d) - x=x+2 * d by omega]
    grind
   ·obtain ⟨d,rfl⟩:=Nat.exists_eq_add_of_le hl
    rcases Nat.le_total d r with hd|hd
    ·obtain ⟨f,rfl⟩:=Nat.exists_eq_add_of_le hd
     rw [show 2 * (d+f) - (d+f+d)=f by omega]
     grind
    ·rw [show 2 * r - (r+d)=0 by omega,Nat.mul_zero];exact Nat.zero_le _
  omega
 ·exact hge
theorem newton_done {n x:Nat} (h:n≤1152921504606846976) (hx:0 < x) (hr:rootN n≤x) (hy:x≤(x+n / x) / 2):x=rootN n:=by
 obtain ⟨h3,h4⟩:=rootN_spec h
 have h1:x≤n / x:=by omega
 have h2:x * x≤n:=by
  have:=Nat.mul_le_mul_left x h1
  exact Nat.le_trans this (Nat.mul_div_le n x)
 have:x < rootN n+1:=Nat.mul_self_lt_mul_self_iff.1 (Nat.lt_of_le_of_lt h2 h4)
 omega
theorem bitLenAux_lt:∀(f x:Nat),x < 2 ^ f→x < 2 ^ Go.Lib.bitLenAux f x
 |0,x,h=>h
 |f+1,x,h=>by
  unfold Go.Lib.bitLenAux
  by_cases h0:x=0
  ·rw [if_pos h0];omega
  ·rw [if_neg h0]
   have:=bitLenAux_lt f (x / 2) (by rw [Nat.pow_succ] at h;omega)
   rw [Nat.add_comm 1,Nat.pow_succ];omega
theorem bitLen_lt {x:Nat} (h:x < 2 ^ 64):x < 2 ^ Go.Lib.bitLen x:=bitLenAux_lt 64 x h
theorem bitLenAux_ge:∀(f x k:Nat),x < 2 ^ k→Go.Lib.bitLenAux f x≤k
 |0,x,k,h=>Nat.zero_le _
 |f+1,x,k,h=>by
  unfold Go.Lib.bitLenAux
  by_cases h0:x=0
  ·rw [if_pos h0];exact Nat.zero_le _
  ·rw [if_neg h0]
   cases k with
   |zero=>simp at h;omega
   |succ k=>
    have:=bitLenAux_ge f (x / 2) k (by rw [Nat.pow_succ] at h;omega)
    omega
def newt0 (n:Nat):Nat:=2 ^ ((Go.Lib.bitLen n+1) / 2)
theorem newt0_le {n:Nat} (h:n≤1152921504606846976):Go.Lib.bitLen n≤61:=bitLenAux_ge 64 n 61 (Nat.lt_of_le_of_lt h (by decide))
theorem newt0_ge {n:Nat} (h:n≤1152921504606846976):rootN n≤newt0 n∧newt0 n≤2147483648∧0 < newt0 n:=by
 have h1:=newt0_le h
 obtain ⟨h3,h4⟩:=rootN_spec h
 refine ⟨?_,?_,Nat.pow_pos (by decide)⟩
 ·have h5:=bitLen_lt (x:=n) (by omega)
  have h6:n < newt0 n * newt0 n:=by
   unfold newt0
   rw [←Nat.pow_add]
   exact Nat.lt_of_lt_of_le h5 (Nat.pow_le_pow_right (by decide) (by omega))
  have:=Nat.mul_self_lt_mul_self_iff.1 (Nat.lt_of_le_of_lt h3 h6)
  omega
 ·unfold newt0
  exact Nat.le_trans (Nat.pow_le_pow_right (by decide) (show (Go.Lib.bitLen n+1) / 2≤31 by omega)) (by decide)
def clampI (x lo hi:Int):Int:=max lo (min x hi)
def rootI (n:Int):Int:=(rootN (clampI n 0 1152921504606846976).toNat:Nat)
theorem rootI_bound (n:Int):0≤rootI n∧rootI n≤1073741824:=by
 have:=rootN_le (n:=(clampI n 0 1152921504606846976).toNat) (by unfold clampI;omega)
 unfold rootI
 omega
def lowM (m a b:Int):Int:=if m=2 then a+b - rootI (4 * a * b) else max a b - min a b
def gapM (m lo hi a:Int):Int:=lowM m a (clampI a lo hi)
end Go.Proofs.YtoamkpgaaanafaaGreat
