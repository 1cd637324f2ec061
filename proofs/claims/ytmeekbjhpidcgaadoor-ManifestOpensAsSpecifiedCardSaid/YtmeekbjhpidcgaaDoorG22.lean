/- Out of: Hb. -/
import Derived.Test.YtmeekbjhpidcgaaDoorG19
namespace Go.Proofs.YtmeekbjhpidcgaaDoor
set_option linter.unusedSimpArgs false
set_option linter.unusedVariables false
set_option linter.unnecessarySimpa false
section
open Go.RowKit
structure H8 where
 (a b c d e f g h:Int)
def pH (s:H8):List PV := [pu32 s.a,pu32 s.b,pu32 s.c,pu32 s.d,pu32 s.e,pu32 s.f,pu32 s.g,pu32 s.h]
theorem low_pH (s:H8):∀c∈pH s,Low c:=by intro c hc;simp [pH] at hc;rcases hc with rfl|rfl|rfl|rfl|rfl|rfl|rfl|rfl<;>exact .val _
def rndX (v:H8) (k w:Int):Int:=addU (addU (addU (addU v.h (mixI v.e 6 11 25)) (xorU (andU v.e v.f) (andU (notU v.e) v.g))) k) w
def rndY (v:H8):Int:=addU (mixI v.a 2 13 22) (xorU (xorU (andU v.a v.b) (andU v.a v.c)) (andU v.b v.c))
def rnd (v:H8) (k w:Int):H8:=⟨addU (rndX v k w) (rndY v),v.a,v.b,v.c,addU v.d (rndX v k w),v.e,v.f,v.g⟩
def rnds (ks ws:List Int) (v:H8):Nat→H8
 |0=>v
 |t+1=>rnd (rnds ks ws v t) (ks.getD t default) (ws.getD t default)
def addH (s v:H8):H8:=⟨addU s.a v.a,addU s.b v.b,addU s.c v.c,addU s.d v.d,addU s.e v.e,addU s.f v.f,addU s.g v.g,addU s.h v.h⟩
def cmpH (ks:List Int) (s:H8) (b:List Int):H8:=addH s (rnds ks (schW b 64) s 64)
set_option maxRecDepth 10000 in
set_option maxHeartbeats 2000000 in
theorem pw_compress (s:H8) (b:List Int) (hb:b.length=64):PCalls Tryd.prog 76 [.agg (pH s),pbytes b] (· = .agg (pH (cmpH glob0 s b))):=by
 refine pcalls_of_pw typeTab_ok Tryd.func76 rfl (by kernel_rfl) (by intro p hp;simp at hp;rcases hp with rfl|rfl;exact .agg _ (low_pH s);exact lw) (by simp [pbytes,PV.ownB]) (Nat.le_of_ble_eq_true rfl) ?_
 have hs:=pw_schedule b hb
 have hg:glob0.length=64:=rfl
 have hwl:=schW_len b 64
 obtain ⟨W,hW⟩:∃W,W=schW b 64:=⟨_,rfl⟩
 rw [←hW] at hs hwl
 rw [show cmpH glob0 s b=addH s (rnds glob0 W s 64) by rw [cmpH,hW]]
 obtain ⟨G,hG⟩:∃G,G=glob0:=⟨_,rfl⟩
 refine wk ?_
 refine PW.loop (fun t:Nat=>(((((((((((bot.setb 0 (pH s)).put 2 (.ptr 0 0)).setb 1 (List.replicate 8 (pu32 0))).put 4 (.ptr 1 0)).setb 1002 (W.map pu32)).put 5 (.ptr 1002 0)).setb 2006 [pu32 (rnds glob0 W s t).a,pu32 (rnds glob0 W s t).b,pu32 (rnds glob0 W s t).c,pu32 (rnds glob0 W s t).d]).setb 2007 [pu32 (rnds glob0 W s t).e,pu32 (rnds glob0 W s t).f,pu32 (rnds glob0 W s t).g,pu32 (rnds glob0 W s t).h]).put 6 (.ptr 2006 0)).put 7 (.ptr 2007 0)).put 21 (.agg (glob0.map pu32))).put 22 (pint t)) (fun t=>t≤64) (fun t=>64 - t) 0 (by omega) ?_ ?_
 ·exact sb
 ·intro t ht
  by_cases h64:t < 64
  ·obtain ⟨v,hv⟩:∃v,v=rnds glob0 W s t:=⟨_,rfl⟩
   have hn:rnds glob0 W s (t+1)=rnd v (glob0.getD t default) (W.getD t default):=by rw [rnds,hv]
   rw [←hv]
   have m1:=pw_mixA v.e
   have m2:=pw_mixB v.a
   refine wk ?_
   refine loopP (t+1) (by omega) (by omega) ?_
   simp only [hn]
   exact sb
  ·have e:t=64:=by omega
   subst e
   generalize rnds glob0 W s 64=v at *
   refine wk ?_
   refine PW.unroll ?_
   refine wk ?_
   refine loopU ?_
   refine wk ?_
   refine loopU ?_
   refine wk ?_
   refine loopU ?_
   refine wk ?_
   refine loopU ?_
   refine wk ?_
   refine ⟨_,presult1 (pres_cell rfl rfl rfl rfl rfl), .agg _ ?_,?_⟩
   ·exact low_pH (addH s v)
   ·rfl
end
end Go.Proofs.YtmeekbjhpidcgaaDoor
