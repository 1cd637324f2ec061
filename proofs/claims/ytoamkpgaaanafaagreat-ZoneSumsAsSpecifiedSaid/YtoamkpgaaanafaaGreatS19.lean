/- Merged: Zb, Zh. -/
import Derived.Test.YtoamkpgaaanafaaGreatS17
import Derived.Test.YtoamkpgaaanafaaGreatS18
/- box: vectors and boxes. -/
namespace Go.Proofs.YtoamkpgaaanafaaGreat
set_option linter.unusedSimpArgs false
set_option linter.unusedVariables false
set_option linter.unnecessarySimpa false
open Go.RowKit
structure PBox where
 lo:List Int
 hi:List Int
 deriving DecidableEq,Inhabited
def pboxL (b:PBox):List PV := [pints b.lo,pints b.hi]
def pbox (b:PBox):PV:=.agg (pboxL b)
theorem low_pboxL (b:PBox):∀c∈pboxL b,Low c:=by
 intro c hc
 simp only [pboxL,List.mem_cons,List.not_mem_nil,or_false] at hc
 rcases hc with rfl|rfl<;>exact (low_pints _).2 trivial
theorem low_pbox (b:PBox):Low (pbox b)↔True:=⟨fun _=>trivial,fun _=>.agg _ (low_pboxL b)⟩
def farB (n:Int):Bool:=decide (n < -1000) || decide (1000 < n)
def vecB (v:List Int):Bool:=decide (1≤v.length) && (decide (v.length≤32) && !v.any farB)
set_option maxRecDepth 10000 in
theorem pw_far (n:Int):PCalls Tryz.prog 225 [pint n] (· = pbool (farB n)):=by
 refine pcalls_of_pw typeTab_ok Tryz.func225 rfl (by kernel_rfl) (by simp [low_pint]) (by simp [pint,PV.ownB]) (by rw [Tryz.ntmps225];simp) ?_
 rw [Tryz.ntmps225,Tryz.results225]
 unfold farB
 by_cases h1:n < -1000
 ·refine wk ?_
  refine retP rfl (by exact lw) ?_
  simp [pbool,h1]
 ·by_cases h2:1000 < n
  ·refine wk ?_
   refine retP rfl (by exact lw) ?_
   simp [pbool,h2]
  ·refine wk ?_
   refine retP rfl (by exact lw) ?_
   simp [pbool,h1,h2]
set_option maxRecDepth 10000 in
theorem pw_isVector (v:List Int) (hl:v.length≤1000000000000):PCalls Tryz.prog 136 [pints v] (· = pbool (vecB v)):=by
 have h:=pw_anyI 225 [] farB v rfl hl (by simp) (fun k _=>pw_far _)
 refine pcalls_of_pw typeTab_ok Tryz.func136 rfl (by kernel_rfl) (by simp [low_pints]) (by simp [pints,PV.ownB]) (by rw [Tryz.ntmps136];simp) ?_
 rw [Tryz.ntmps136,Tryz.results136]
 unfold vecB
 by_cases h1:1≤v.length
 ·by_cases h2:v.length≤32
  ·refine wk ?_
   cases hb:v.any farB <;>
   ·rw [hb] at *
    refine wk ?_
    refine retP rfl (by exact lw) ?_
    simp [pbool,h1,h2]
  ·refine wk ?_
   refine retP rfl (by exact lw) ?_
   simp [pbool,h2]
 ·refine wk ?_
  refine retP rfl (by exact lw) ?_
  simp [pbool,h1]
def prsL (a b:List Int):List (List PV):=(List.range (min a.length b.length)).map fun k => [pint (a.getD k default),pint (b.getD k default)]
theorem prsL_len (a b:List Int):(prsL a b).length=min a.length b.length:=by simp [prsL]
theorem prsL_take {a b:List Int} {k:Nat} (h:k < min a.length b.length):(prsL a b).take (k+1)=(prsL a b).take k ++ [[pint (a.getD k default),pint (b.getD k default)]]:=by
 rw [List.take_add_one]
 congr 1
 simp [prsL,h]
def Part (xs pre:List (List PV)):Prop:=∃k,pre=xs.take k
set_option maxRecDepth 10000 in
set_option maxHeartbeats 1000000 in
theorem it_pairs (a b:List Int) (ha:a.length≤1000000000000) (hb:b.length≤1000000000000):ItSpec Tryz.prog 231 [.ep [pints a] 0, .ep [pints b] 0] (Part (prsL a b)) (· = prsL a b):=by
 refine itspec_of_pwj typeTab_ok Tryz.func231 rfl (by kernel_rfl) (by simp [low_ep,low_pints]) (by simp [PV.ownB]) (by rw [Tryz.ntmps231];simp) ?_
 intro E Φ0 W l hgiv hy hr
 rw [Tryz.ntmps231,Tryz.results231]
 refine jw0 ?_
 refine PWJ.of_pw ?_
 refine wk ?_
 refine jw0 ?_
 simp only [Bool.false_eq_true,if_false]
 rw [show (if (b.length:Int) < a.length then (b.length:Int) else a.length)=((min a.length b.length:Nat):Int) from by split<;>omega]
 obtain ⟨m,hm⟩:∃m,m=min a.length b.length:=⟨_,rfl⟩
 rw [←hm]
 refine PWJ.loop (fun k:Nat=>(((((bot.put 0 (.val (.func (.yield l) #[] #[]))).put 1 (.ep [pints a] 0)).put 2 (.ep [pints b] 0)).put 9 (pint m)).put 10 (pint k))) (fun k=>some ((prsL a b).take k)) (fun k=>k≤m) (fun k=>m - k) 0 (by omega) ?_ rfl ?_
 ·exact sb
 ·intro k hk
  by_cases hlt:k < m
  ·refine jw0 ?_
   refine PWJ.of_pw ?_
   refine wk ?_
   refine jw0 ?_
   refine PWJ.of_pw ?_
   refine wk ?_
   refine jw0 ?_
   refine PWJ.drawN 9 (x := [pint (a.getD k default),pint (b.getD k default)]) (d:=22) typeTab_ok (by kernel_rfl) hgiv hy hr (by kernel_rfl) (by kernel_rfl) (by rfl) (by rfl) ?_
   refine wk ?_
   refine ⟨⟨rfl,by decide,⟨_,_,rfl,rfl,rfl,rfl⟩,rfl,by simp [low_pint],⟨k+1,(prsL_take (by omega)).symm⟩,fun id bs e=>(by cases e),fun id es c e=>(by cases e)⟩,fun b' => ?_⟩
   cases b' with
   |true=>
    refine wk ?_
    refine jw0 ?_
    refine PWJ.of_pw ?_
    refine wk ?_
    refine jw0 ?_
    refine loopJ (k+1) (by omega) (by omega) ?_ ?_
    ·exact sb
    ·simp only [if_true];rw [prsL_take (by omega)]
   |false=>
    refine wk ?_
    refine jw0 ?_
    exact ⟨⟨_,rfl⟩,fun xs e=>by simp at e⟩
  ·refine jw0 ?_
   refine PWJ.of_pw ?_
   refine wk ?_
   refine jw0 ?_
   exact ⟨⟨_,rfl⟩,fun xs e=>by simp at e;rw [←e];exact List.take_of_length_le (by rw [prsL_len];omega)⟩
theorem part_x {a b:List Int} {pre:List (List PV)} {x:List PV} (h:Part (prsL a b) (pre ++ [x])):∃k,k < min a.length b.length∧x = [pint (a.getD k default),pint (b.getD k default)]∧pre=(prsL a b).take k:=by
 obtain ⟨k,hk⟩:=h
 have hl:pre.length+1=min k (prsL a b).length:=by
  have:=congrArg List.length hk
  simpa using this
 obtain ⟨j,rfl⟩:∃j,j=pre.length:=⟨_,rfl⟩
 have hj:pre.length < min a.length b.length:=by rw [prsL_len] at hl;omega
 refine ⟨pre.length,hj,?_,?_⟩
 ·have h1:(pre ++ [x])[pre.length]? = some x:=by simp
  rw [hk,List.getElem?_take,if_pos (by omega)] at h1
  simp only [prsL,List.getElem?_map,List.getElem?_range hj,Option.map_some,Option.some.injEq] at h1
  exact h1.symm
 ·have h1:pre=(pre ++ [x]).take pre.length:=by simp
  rw [hk,List.take_take] at h1
  rw [h1]
  congr 1
  simp;omega
set_option maxRecDepth 10000 in
theorem pw_pairs (a b:List Int):PCalls Tryz.prog 146 [pints a,pints b] (· = .fn 231 [.ep [pints a] 0, .ep [pints b] 0]):=by
 refine pcalls_of_pw typeTab_ok Tryz.func146 rfl (by kernel_rfl) (by simp [low_pints]) (by simp [pints,PV.ownB]) (by rw [Tryz.ntmps146];simp) ?_
 rw [Tryz.ntmps146,Tryz.results146]
 refine PW.seq ?_
 refine PW.region typeTab_ok (by kernel_rfl) ?_
 refine wg ?_
 refine PW.freezeP (id:=0) (s:=2) (off:=0) (σ':=(bot.setb 1 [pints b]).put 3 (.ptr 1 0)) rfl rfl (fun c hc=>by simp only [List.mem_cons,List.not_mem_nil,or_false] at hc;subst hc;exact (low_pints _).2 trivial) (by exact sbr0) rfl ?_
 refine PW.freezeP (id:=1) (s:=3) (off:=0) (σ':=bot.put 2 (.ep [pints a] 0)) rfl rfl (fun c hc=>by simp only [List.mem_cons,List.not_mem_nil,or_false] at hc;subst hc;exact (low_pints _).2 trivial) (by exact sbr0) rfl ?_
 refine wk ?_
 exact retP rfl (by simp [low_fn,low_ep,low_pints]) rfl
def boxB (b:PBox):Bool:=vecB b.lo && (vecB b.hi && (decide (b.lo.length=b.hi.length) && (List.range b.lo.length).all fun k=>decide (b.lo.getD k default≤b.hi.getD k default)))
set_option maxRecDepth 10000 in
set_option maxHeartbeats 1000000 in
theorem pw_boxValid (b:PBox) (h1:b.lo.length≤1000000000000) (h2:b.hi.length≤1000000000000):PCalls Tryz.prog 65 [pbox b] (· = pbool (boxB b)):=by
 have hv1:=pw_isVector b.lo h1
 have hv2:=pw_isVector b.hi h2
 have hp:=pw_pairs b.lo b.hi
 have hl1:=low_pboxL b
 refine pcalls_of_pw typeTab_ok Tryz.func65 rfl (by kernel_rfl) (by simp [low_pbox]) (by simp [pbox,PV.ownB]) (by rw [Tryz.ntmps65];simp) ?_
 rw [Tryz.ntmps65,Tryz.results65]
 unfold boxB pbox pboxL at *
 by_cases e1:vecB b.lo=true
 ·by_cases e2:vecB b.hi=true
  ·by_cases e3:b.lo.length=b.hi.length
   ·rw [e1] at hv1
    rw [e2] at hv2
    refine wk ?_
    refine PW.rangeFunc (A:=Part (prsL b.lo b.hi)) (S:=(· = prsL b.lo b.hi)) 3000000 [3000001] (fun _=>(bot.setb 3000001 [pbool false]).put 2 (.ptr 3000001 0)) (fun pre=>∀x∈pre,∃u v:Int,x = [pint u,pint v]∧u≤v) (by simp) rfl rfl (by simp [low_ep,low_pints]) (it_pairs _ _ h1 h2) (by exact sbr0) (fun pre=>by exact kn0) (by intro pre i hi;simp only [List.mem_cons,List.not_mem_nil,or_false] at hi;rcases hi with rfl|rfl|rfl|rfl|rfl<;>rfl) rfl (by decide) (fun pre=>by exact ow0) (by simp) ?_ ?_ ?_
    ·intro pre x hx
     obtain ⟨k,-,rfl,-⟩:=part_x hx
     refine ⟨rfl,fun p hp=>?_⟩
     simp only [List.mem_cons,List.not_mem_nil,or_false] at hp
     rcases hp with rfl|rfl<;>exact ⟨.val _,rfl⟩
    ·intro pre x hI hx
     obtain ⟨k,hk,rfl,-⟩:=part_x hx
     simp only [putps]
     refine wk ?_
     refine normP ?_
     by_cases hle:b.lo.getD k default≤b.hi.getD k default
     ·refine wk ?_
      refine roundP ?_ (by exact sb) (by exact lt0)
      intro y hy
      rcases List.mem_append.1 hy with hy|hy
      ·exact hI y hy
      ·simp only [List.mem_cons,List.not_mem_nil,or_false] at hy
       exact ⟨_,_,hy,hle⟩
     ·refine wk ?_
      refine roundP_ret ((bot.setb 3000001 [pbool false]).put 2 (.ptr 3000001 0)) ((bot.setb 1 [pbool false]).put 2 (.ptr 1 0)) (by exact lt0) (by exact sb) (by exact kn0) (by exact sbr0) ?_
      refine blockP_ret (thenP_ret (retP rfl (by exact lw) ?_))
      have:((List.range b.lo.length).all fun k=>decide (b.lo.getD k default≤b.hi.getD k default))=false:=by
       rw [List.all_eq_false]
       exact ⟨k,by simp;omega,by simpa using hle⟩
      rw [this,e1,e2]
      simp [pbool]
    ·intro xs hxs hI
     subst hxs
     refine ⟨(bot.setb 1 [pbool false]).put 2 (.ptr 1 0),by exact sbr0,?_⟩
     refine wk ?_
     refine retP rfl (by exact lw) ?_
     have:((List.range b.lo.length).all fun k=>decide (b.lo.getD k default≤b.hi.getD k default))=true:=by
      rw [List.all_eq_true]
      intro k hk
      have hk' : k < b.lo.length:=by simpa using hk
      obtain ⟨u,v,h1,h2⟩:=hI [pint (b.lo.getD k default),pint (b.hi.getD k default)] (List.mem_map.2 ⟨k,by simp;omega,rfl⟩)
      simp only [List.cons.injEq,pint,PV.val.injEq,Value.int.injEq,true_and,and_true] at h1
      rw [decide_eq_true_eq,h1.1,h1.2]
      exact h2
     rw [this,e1,e2]
     simp [pbool,e3]
   ·rw [e1] at hv1
    rw [e2] at hv2
    refine wk ?_
    refine retP rfl (by exact lw) ?_
    simp [pbool,e3]
  ·simp only [Bool.not_eq_true] at e2
   rw [e1] at hv1
   rw [e2] at hv2
   refine wk ?_
   refine retP rfl (by exact lw) ?_
   simp [pbool,e2]
 ·simp only [Bool.not_eq_true] at e1
  rw [e1] at hv1
  refine wk ?_
  refine retP rfl (by exact lw) ?_
  simp [pbool,e1]
end Go.Proofs.YtoamkpgaaanafaaGreat

/- vector. -/
namespace Go.Proofs.YtoamkpgaaanafaaGreat
set_option linter.unusedSimpArgs false
set_option linter.unusedVariables false
set_option linter.unnecessarySimpa false
open Go.RowKit
def inB (x:Int):Bool:=decide (-1000≤x) && decide (x≤1000)
set_option maxRecDepth 10000 in
theorem pw_valid1 (s:Bool) (x:Int):PCalls Tryz.prog 100 [pbool s,pint x] (· = pbool (s && inB x)):=by
 refine pcalls_of_pw typeTab_ok Tryz.func100 rfl (by kernel_rfl) (by simp [low_pint,low_pbool]) (by simp [pint,pbool,PV.ownB]) (by rw [Tryz.ntmps100];simp) ?_
 rw [Tryz.ntmps100,Tryz.results100]
 cases s
 ·refine wk ?_
  exact retP rfl (by exact lw) rfl
 ·by_cases h1 : -1000≤x
  ·by_cases h2:x≤1000
   ·refine wk ?_
    exact retP rfl (by exact lw) (by simp [pbool,inB,h1,h2])
   ·refine wk ?_
    exact retP rfl (by exact lw) (by simp [pbool,inB,h2])
  ·refine wk ?_
   exact retP rfl (by exact lw) (by simp [pbool,inB,h1])
theorem foldl_take {α β:Type} [Inhabited β] (g:α→β→α) (n:α) (v:List β) {k:Nat} (h:k < v.length):(v.take (k+1)).foldl g n=g ((v.take k).foldl g n) (v.getD k default):=by
 rw [List.take_add_one,List.getElem?_eq_getElem h,List.foldl_append,List.getD_eq_getElem?_getD,List.getElem?_eq_getElem h]
 rfl
set_option maxRecDepth 10000 in
set_option maxHeartbeats 1000000 in
theorem pw_foldB (f:Nat) (g:Bool→Int→Bool) (v:List Int) (n:Bool) (hf:Nat.blt f 1000000=true) (hl:v.length≤1000000) (hp:∀k,k < v.length→PCalls Tryz.prog f [pbool ((v.take k).foldl g n),pint (v.getD k default)] (· = pbool (g ((v.take k).foldl g n) (v.getD k default)))):PCalls Tryz.prog 99 [pints v,pbool n, .fn f []] (· = pbool (v.foldl g n)):=by
 have hlow1:Low (.fn f []):=.fn f [] (by simp)
 refine pcalls_of_pw typeTab_ok Tryz.func99 rfl (by kernel_rfl) (by simp [low_pints,low_pbool,hlow1]) (by simp [pints,pbool,PV.ownB]) (by rw [Tryz.ntmps99];simp) ?_
 rw [Tryz.ntmps99,Tryz.results99]
 refine wk ?_
 refine PW.loop (fun k:Nat=>(((((bot.put 1 (pbool ((v.take k).foldl g n))).put 2 (.fn f [])).put 9 (pints v)).put 10 (pint v.length)).put 11 (pint k))) (fun k=>k≤v.length) (fun k=>v.length - k) 0 (by omega) ?_ ?_
 ·exact sb
 ·intro k hk
  by_cases hlt:k < v.length
  ·refine wk ?_
   refine PWops.callV hf (hp k hlt) rfl rfl rfl rfl rfl rfl ?_
   refine wk ?_
   refine loopP (k+1) (by omega) (by omega) ?_
   simp only [foldl_take g n v hlt]
   exact sb
  ·refine wk ?_
   refine retP rfl (by exact lw) ?_
   rw [List.take_of_length_le (by omega)];rfl
set_option maxRecDepth 10000 in
set_option maxHeartbeats 1000000 in
theorem pw_foldI (f:Nat) (g:Int→Int→Int) (v:List Int) (n:Int) (hf:Nat.blt f 1000000=true) (hl:v.length≤1000000) (hp:∀k,k < v.length→PCalls Tryz.prog f [pint ((v.take k).foldl g n),pint (v.getD k default)] (· = pint (g ((v.take k).foldl g n) (v.getD k default)))):PCalls Tryz.prog 190 [pints v,pint n, .fn f []] (· = pint (v.foldl g n)):=by
 have hlow1:Low (.fn f []):=.fn f [] (by simp)
 refine pcalls_of_pw typeTab_ok Tryz.func190 rfl (by kernel_rfl) (by simp [low_pints,low_pint,hlow1]) (by simp [pints,pint,PV.ownB]) (by rw [Tryz.ntmps190];simp) ?_
 rw [Tryz.ntmps190,Tryz.results190]
 refine wk ?_
 refine PW.loop (fun k:Nat=>(((((bot.put 1 (pint ((v.take k).foldl g n))).put 2 (.fn f [])).put 9 (pints v)).put 10 (pint v.length)).put 11 (pint k))) (fun k=>k≤v.length) (fun k=>v.length - k) 0 (by omega) ?_ ?_
 ·exact sb
 ·intro k hk
  by_cases hlt:k < v.length
  ·refine wk ?_
   refine PWops.callV hf (hp k hlt) rfl rfl rfl rfl rfl rfl ?_
   refine wk ?_
   refine loopP (k+1) (by omega) (by omega) ?_
   simp only [foldl_take g n v hlt]
   exact sb
  ·refine wk ?_
   refine retP rfl (by exact lw) ?_
   rw [List.take_of_length_le (by omega)];rfl
theorem vecB_fold (v:List Int):(v.foldl (fun s x=>s && inB x) true) = !v.any farB:=by
 have:∀(v:List Int) (s:Bool),v.foldl (fun s x=>s && inB x) s=(s && !v.any farB):=by
  intro v
  induction v with
  |nil=>intro s;simp
  |cons x v ih=>
   intro s
   rw [List.foldl_cons,ih,List.any_cons]
   have:inB x = !farB x:=by
    simp only [inB,farB,Bool.not_or]
    congr 1<;>rw [←decide_not]<;>congr 1<;>simp
   rw [this]
   cases s<;>cases farB x<;>simp
 simpa using this v true
set_option maxRecDepth 10000 in
theorem pw_vecValid (v:List Int) (hl:v.length≤1000000):PCalls Tryz.prog 38 [pints v] (· = pbool (vecB v)):=by
 have h:=pw_foldB 100 (fun s x=>s && inB x) v true rfl hl (fun k _=>pw_valid1 _ _)
 rw [vecB_fold] at h
 refine pcalls_of_pw typeTab_ok Tryz.func38 rfl (by kernel_rfl) (by simp [low_pints]) (by simp [pints,PV.ownB]) (by rw [Tryz.ntmps38];simp) ?_
 rw [Tryz.ntmps38,Tryz.results38]
 unfold vecB
 cases hb:v.any farB with
 |true=>
  rw [hb] at h
  refine wk ?_
  exact retP rfl (by exact lw) (by simp [pbool])
 |false=>
  rw [hb] at h
  by_cases h1:1≤v.length
  ·by_cases h2:v.length≤32
   ·refine wk ?_
    exact retP rfl (by exact lw) (by simp [pbool,h1,h2])
   ·refine wk ?_
    exact retP rfl (by exact lw) (by simp [pbool,h2])
  ·refine wk ?_
   exact retP rfl (by exact lw) (by simp [pbool,h1])
end Go.Proofs.YtoamkpgaaanafaaGreat
