/- Out of: Zl. -/
import Derived.Test.YtoamkpgaaanafaaGreatShelf
import Derived.Test.YtoamkpgaaanafaaGreatM20
namespace Go.Proofs.YtoamkpgaaanafaaGreat
set_option linter.unusedSimpArgs false
set_option linter.unusedVariables false
set_option linter.unnecessarySimpa false
section
open Go.RowKit
variable {P:Program} {T:Tab} {σ:PS} {o:Oper} {i base:Nat} {ops:Array Oper} {ok:Nat→Nat→Bool} {rest:List (Nat×Oper)} {K:PS→Prop}
theorem PWops.quoG {d:Nat} {u v:Int} {t tt:TypeId} {x y:Operand} (hop:o.op = .binOp .quo t x y tt) (hg:pguard ops σ o=some true) (hd:o.dst=some d) (hx:pev σ x = .val (.int .i64 u)) (hy:pev σ y = .val (.int .i64 v)) (h:0≤u∧0 < v∧u≤9223372036854775807) (hb:σ.freeB (base+i)=true) (k:PWops P T ops base ok rest K (σ.put d (.val (.int .i64 (u / v))))):PWops P T ops base ok ((i,o) :: rest) K σ:=by
 have e1:u / v≤u:=Int.ediv_le_self _ h.1
 have e2:0≤u / v:=Int.ediv_nonneg h.1 (by omega)
 refine PWops.valEq hg hd (p:=.val (.int .i64 (IntKind.i64.wrap (u.tdiv v)))) ?_ (by rw [Int.tdiv_eq_ediv_of_nonneg h.1,IntWalk.i64_in _ ⟨by omega,by omega⟩]) hb k
 have h0:v≠0:=by omega
 simp [hop,presE,pvalA,pval,pev_only,hx,hy,pbin,h0]
end
section
open Go.RowKit
theorem pw_clamp (x lo hi:Int):PCalls Tryz.prog 236 [pint x,pint lo,pint hi] (· = pint (clampI x lo hi)):=by
 refine pcalls_of_pw typeTab_ok Tryz.func236 rfl (by kernel_rfl) (by simp [low_pint]) (by simp [pint,PV.ownB]) (by rw [Tryz.ntmps236];simp) ?_
 rw [Tryz.ntmps236,Tryz.results236]
 refine wk ?_
 refine retP rfl (by exact lw) ?_
 simp only [if_true,pint,clampI]
 congr 2
 grind
def metB (m k:Int):Bool:=keyB m && decide (0≤k∧k≤134217728)
theorem pw_metValid (m k:Int):PCalls Tryz.prog 260 [pint m,pint k] (· = pbool (metB m k)):=by
 have h:=pw_clamp k 0 134217728
 refine pcalls_of_pw typeTab_ok Tryz.func260 rfl (by kernel_rfl) (by simp [low_pint]) (by simp [pint,PV.ownB]) (by rw [Tryz.ntmps260];simp) ?_
 rw [Tryz.ntmps260,Tryz.results260]
 unfold metB keyB
 by_cases h1:1≤m
 ·by_cases h2:m≤3
  ·by_cases h3:clampI k 0 134217728=k
   ·refine wk ?_
    refine retP rfl (by exact lw) ?_
    rw [show decide (0≤k∧k≤134217728)=true from decide_eq_true (by unfold clampI at h3;omega)]
    simp [pbool,h1,h2]
   ·refine wk ?_
    refine retP rfl (by exact lw) ?_
    rw [show decide (0≤k∧k≤134217728)=false from decide_eq_false (by unfold clampI at h3;omega)]
    simp [pbool]
  ·refine wk ?_
   exact retP rfl (by exact lw) (by simp [pbool,h2])
 ·refine wk ?_
  exact retP rfl (by exact lw) (by simp [pbool,h1])
theorem pw_isMetric (m:Int):PCalls Tryz.prog 234 [pint m] (· = pbool (keyB m)):=by
 have h:=pw_metValid m 0
 rw [show metB m 0=keyB m by simp [metB]] at h
 refine pcalls_of_pw typeTab_ok Tryz.func234 rfl (by kernel_rfl) (by simp [low_pint]) (by simp [pint,PV.ownB]) (by rw [Tryz.ntmps234];simp) ?_
 rw [Tryz.ntmps234,Tryz.results234]
 refine wk ?_
 exact retP rfl (by exact lw) rfl
theorem pc_bitLen (x:Int) (h0:0≤x) (h1:x≤1152921504606846976):PCalls Tryz.prog 267 [.val (.int .u64 x)] (· = pint (Go.Lib.bitLen x.toNat)):=by
 refine ⟨by kernel_rfl,fun Φ μ w vs himm hgl hrep=>?_⟩
 have hl1:=hrep.1
 match vs,hl1 with
 | [v],_=>
 obtain ⟨rfl,-⟩:=(hrep.2 0 _ v rfl rfl).val_inv
 refine (Tryz.bits_Len x w h0 (by omega)).mono ?_
 rintro e w' ⟨rfl,rfl⟩
 exact ⟨_,_,Φ,rfl,rfl, .val _ rfl,himm,fun _ _ _=>rfl,Below.refl _ _,fun n k cs E e=>by cases e⟩
set_option maxRecDepth 10000 in
set_option maxHeartbeats 1000000 in
theorem pw_isqrt (n:Int):PCalls Tryz.prog 284 [pint n] (· = pint (rootI n)):=by
 have hc:=pw_clamp n 0 1152921504606846976
 refine pcalls_of_pw typeTab_ok Tryz.func284 rfl (by kernel_rfl) (by simp [low_pint]) (by simp [pint,PV.ownB]) (by rw [Tryz.ntmps284];simp) ?_
 rw [Tryz.ntmps284,Tryz.results284]
 unfold rootI
 obtain ⟨m,hm⟩:∃m:Nat,clampI n 0 1152921504606846976=m:=⟨(clampI n 0 1152921504606846976).toNat,by unfold clampI;omega⟩
 have hm1:m≤1152921504606846976:=by unfold clampI at hm;omega
 rw [hm] at hc ⊢
 rw [Int.toNat_natCast]
 have hb:=pc_bitLen m (by omega) (by omega)
 rw [Int.toNat_natCast] at hb
 have hw:IntKind.u64.wrap (m:Int)=m:=by simp [IntKind.wrap,IntKind.signed,IntKind.bits];omega
 have hbl:=newt0_le hm1
 obtain ⟨q1,q2,q3⟩:=newt0_ge hm1
 by_cases h0:(m:Int)=0
 ·refine wk ?_
  refine retP rfl (by exact lw) ?_
  rw [show m=0 by omega];rfl
 ·rw [←hw] at hb
  refine wk ?_
  rw [hw]
  refine wk ?_
  have hx0:IntKind.i64.wrap (1 * 2 ^ min ((((Lib.bitLen m:Nat):Int)+1) / 2).toNat IntKind.i64.bits)=(newt0 m:Nat):=by
   have e1:min ((((Lib.bitLen m:Nat):Int)+1) / 2).toNat IntKind.i64.bits=(Lib.bitLen m+1) / 2:=by
    rw [show ((((Lib.bitLen m:Nat):Int)+1) / 2).toNat=(Lib.bitLen m+1) / 2 by omega]
    exact Nat.min_eq_left (by show _≤64;omega)
   rw [e1,Int.one_mul]
   have e2:((2:Int) ^ ((Lib.bitLen m+1) / 2))=(newt0 m:Nat):=by rw [newt0,Int.natCast_pow];rfl
   rw [e2]
   exact IntWalk.i64_in _ ⟨by omega,by omega⟩
  rw [hx0]
  refine PW.loop (fun x:Nat=>(bot.put 0 (pint m)).put 3 (pint x)) (fun x=>rootN m≤x∧0 < x∧x≤2147483648) (fun x=>x) (newt0 m) ⟨q1,q3,q2⟩ ?_ ?_
  ·exact sb
  ·rintro x ⟨i1,i2,i3⟩
   obtain ⟨q,hq⟩:∃q:Nat,m / x=q:=⟨_,rfl⟩
   have hdv:(q:Int)=(m:Int) / (x:Int):=by rw [←hq];exact Int.natCast_ediv _ _
   have hdl:q≤m:=by rw [←hq];exact Nat.div_le_self _ _
   have hge:=newton_ge hm1 i2
   have hdone:=newton_done hm1 i2 i1
   rw [hq] at hge hdone
   by_cases hy:x≤(x+q) / 2
   ·refine wk ?_
    refine PWops.quoG rfl rfl rfl rfl rfl (by omega) rfl ?_
    rw [←hdv]
    refine wk ?_
    refine retP rfl (by exact lw) ?_
    rw [←hdone hy];rfl
   ·refine wk ?_
    refine PWops.quoG rfl rfl rfl rfl rfl (by omega) rfl ?_
    rw [←hdv]
    refine wk ?_
    have hne:0 < (x+q) / 2:=by
     rcases Nat.eq_zero_or_pos (rootN m) with hz|hz
     ·have:=(rootN_spec hm1).2
      rw [hz] at this;omega
     ·omega
    have hI:rootN m≤(x+q) / 2∧0 < (x+q) / 2∧(x+q) / 2≤2147483648:=⟨hge,hne,by omega⟩
    have hM:(x+q) / 2 < x:=by omega
    refine loopP ((x+q) / 2) ?_ ?_ ?_
    ·exact hI
    ·exact hM
    have e:(((x:Int)+(q:Int)) / 2)=(((x+q) / 2:Nat):Int):=by omega
    rw [e]
    exact sb
set_option maxRecDepth 10000 in
theorem pw_sq11 (s a b:Int) (hs:s = -1∨s=1) (ha:0≤a∧a≤134217728) (hb:0≤b∧b≤134217728):PCalls Tryz.prog 283 [pint a,pint b, .ep [pint s] 0] (· = pint (a+b+s * rootI (4 * a * b))):=by
 have h:=pw_isqrt (4 * a * b)
 have hr:=rootI_bound (4 * a * b)
 have hm0:0≤4 * a * b:=Int.mul_nonneg (by omega) hb.1
 have hm1:4 * a * b≤536870912 * 134217728:=Int.mul_le_mul (by omega) hb.2 hb.1 (by decide)
 have hsr : -1073741824≤s * rootI (4 * a * b)∧s * rootI (4 * a * b)≤1073741824:=by
  rcases hs with rfl|rfl<;>omega
 refine pcalls_of_pw typeTab_ok Tryz.func283 rfl (by kernel_rfl) (by simp [low_pint,low_ep]) (by simp [pint,PV.ownB]) (by rw [Tryz.ntmps283];simp) ?_
 rw [Tryz.ntmps283,Tryz.results283]
 refine wk ?_
 exact retP rfl (by exact lw) rfl
theorem low_clo (f:Nat) (s:Int):Low (.fn f [.ep [pint s] 0]):=by simp [low_fn,low_ep,low_pint]
set_option maxRecDepth 10000 in
theorem pw_sq1 (s:Int):PCalls Tryz.prog 282 [pint s] (· = .fn 283 [.ep [pint s] 0]):=by
 have hlow:=low_clo
 refine pcalls_of_pw typeTab_ok Tryz.func282 rfl (by kernel_rfl) (by simp [low_pint]) (by simp [pint,PV.ownB]) (by rw [Tryz.ntmps282];simp) ?_
 rw [Tryz.ntmps282,Tryz.results282]
 refine PW.seq ?_
 refine PW.region typeTab_ok (by kernel_rfl) ?_
 refine wg ?_
 refine PW.freezeP (id:=0) (s:=1) (off:=0) (σ':=bot) rfl rfl (fun c hc=>by simp only [List.mem_cons,List.not_mem_nil,or_false] at hc;subst hc;exact .val _) (by exact sbr0) rfl ?_
 refine wk ?_
 exact retP rfl (hlow _ _) rfl
def prules (m:Int):PV:=if m=2 then .agg [.fn 283 [.ep [pint (-1)] 0], .fn 283 [.ep [pint 1] 0]] else .agg [.fn 285 [], .fn 286 []]
set_option maxRecDepth 10000 in
theorem pw_square:PCalls Tryz.prog 268 [] (· = prules 2):=by
 have h1:=pw_sq1 (-1)
 have h2:=pw_sq1 1
 refine pcalls_of_pw typeTab_ok Tryz.func268 rfl (by kernel_rfl) (by simp) (by simp) (by rw [Tryz.ntmps268];simp) ?_
 rw [Tryz.ntmps268,Tryz.results268]
 refine wk ?_
 refine retP rfl ?_ rfl
 simp [low_agg,low_clo]
set_option maxRecDepth 10000 in
theorem pw_sum:PCalls Tryz.prog 269 [] (· = prules 1):=by
 refine pcalls_of_pw typeTab_ok Tryz.func269 rfl (by kernel_rfl) (by simp) (by simp) (by rw [Tryz.ntmps269];simp) ?_
 rw [Tryz.ntmps269,Tryz.results269]
 refine wk ?_
 refine retP rfl ?_ rfl
 simp [low_agg,low_fn]
theorem low_prules (m:Int):Low (prules m):=by
 unfold prules;split<;>simp [low_agg,low_fn,low_ep,low_pint]
set_option maxRecDepth 10000 in
theorem pw_metOf (m:Int):PCalls Tryz.prog 261 [pint m] (· = prules m):=by
 refine pcalls_of_pw typeTab_ok Tryz.func261 rfl (by kernel_rfl) (by simp [low_pint]) (by simp [pint,PV.ownB]) (by rw [Tryz.ntmps261];simp) ?_
 rw [Tryz.ntmps261,Tryz.results261]
 by_cases h:m=2
 ·subst h
  have h1:=pw_square
  refine wk ?_
  exact retP rfl (low_prules 2) rfl
 ·have h1:=pw_sum
  refine wk ?_
  have e:prules m=prules 1:=by unfold prules;rw [if_neg h,if_neg (by decide)]
  rw [e]
  exact retP rfl (low_prules 1) rfl
set_option maxRecDepth 10000 in
theorem pw_sum1 (a b:Int) (ha:0≤a∧a≤134217728) (hb:0≤b∧b≤134217728):PCalls Tryz.prog 285 [pint a,pint b] (· = pint (max a b - min a b)):=by
 refine pcalls_of_pw typeTab_ok Tryz.func285 rfl (by kernel_rfl) (by simp [low_pint]) (by simp [pint,PV.ownB]) (by rw [Tryz.ntmps285];simp) ?_
 rw [Tryz.ntmps285,Tryz.results285]
 rcases Int.le_total a b with h|h
 ·refine wk ?_
  refine retP rfl (by exact lw) ?_
  simp only [if_true,pint]
  congr 2;grind
 ·refine wk ?_
  refine retP rfl (by exact lw) ?_
  simp only [if_true,pint]
  congr 2;grind
set_option maxRecDepth 10000 in
theorem pw_metLow (m a b:Int) (ha:0≤a∧a≤134217728) (hb:0≤b∧b≤134217728):PCalls Tryz.prog 235 [pint m,pint a,pint b] (· = pint (lowM m a b)):=by
 have h0:=pw_metOf m
 refine pcalls_of_pw typeTab_ok Tryz.func235 rfl (by kernel_rfl) (by simp [low_pint]) (by simp [pint,PV.ownB]) (by rw [Tryz.ntmps235];simp) ?_
 rw [Tryz.ntmps235,Tryz.results235]
 unfold lowM
 by_cases h:m=2
 ·subst h
  have h1:=pw_sq11 (-1) a b (.inl rfl) ha hb
  have hp:prules 2 = .agg [.fn 283 [.ep [pint (-1)] 0], .fn 283 [.ep [pint 1] 0]]:=rfl
  rw [hp] at h0
  refine wk ?_
  refine retP rfl (by exact lw) ?_
  rw [if_pos rfl]
  congr 2;omega
 ·have h1:=pw_sum1 a b ha hb
  have hp:prules m = .agg [.fn 285 [], .fn 286 []]:=if_neg h
  rw [hp] at h0
  refine wk ?_
  refine retP rfl (by exact lw) ?_
  rw [if_neg h];rfl
set_option maxRecDepth 10000 in
theorem pw_gap (m lo hi a:Int) (ha:0≤a∧a≤134217728) (h1:0≤lo∧lo≤hi∧hi≤134217728):PCalls Tryz.prog 154 [pint m,pint lo,pint hi,pint a] (· = pint (gapM m lo hi a)):=by
 have hc:=pw_clamp a lo hi
 have h0:=pw_metLow m a (clampI a lo hi) ha (by unfold clampI;omega)
 refine pcalls_of_pw typeTab_ok Tryz.func154 rfl (by kernel_rfl) (by simp [low_pint]) (by simp [pint,PV.ownB]) (by rw [Tryz.ntmps154];simp) ?_
 rw [Tryz.ntmps154,Tryz.results154]
 refine wk ?_
 exact retP rfl (by exact lw) rfl
end
end Go.Proofs.YtoamkpgaaanafaaGreat
