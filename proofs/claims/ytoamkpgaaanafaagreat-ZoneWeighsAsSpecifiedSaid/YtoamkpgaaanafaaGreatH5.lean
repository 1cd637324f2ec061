/- Out of: Vc. -/
import Derived.Test.YtoamkpgaaanafaaGreatRows
import Derived.WalkKit
import Derived.WalkSpells
import Derived.WalkLawsBesides
import Derived.Deep.QuietTactic
import Derived.BigQuiet
import Derived.RegionTactic
import Derived.Lib.AppendZeros
import Derived.Lib.AppendStr
import Derived.Lib.Hide
import Derived.OrdersIn
import Derived.Laws.BytesString
import Derived.WideLaws
import Derived.RangeFuncRecord
import Derived.Orders
import GoSem.Step
import Derived.Laws.RangeAny
import Derived.Lib.OthersKept
import Derived.Outline
import Derived.Laws.EntriesVeiled
import Derived.KernelRfl
import Derived.StillTailTactics
import Derived.Deep.Cut
import Derived.RangeFuncCalls
import Derived.Lib.BitFns
import Derived.Test.YtoamkpgaaanafaaGreatShelf
import Derived.Test.YtoamkpgaaanafaaGreatIter
import Derived.Laws.Strings
import Derived.Test.YtoamkpgaaanafaaGreatG1
import Derived.Test.YtoamkpgaaanafaaGreatG10
import Derived.Test.YtoamkpgaaanafaaGreatG11
import Derived.Test.YtoamkpgaaanafaaGreatG14
import Derived.Test.YtoamkpgaaanafaaGreatG15
import Derived.Test.YtoamkpgaaanafaaGreatG17
import Derived.Test.YtoamkpgaaanafaaGreatG19
import Derived.Test.YtoamkpgaaanafaaGreatG21
import Derived.Test.YtoamkpgaaanafaaGreatG23
import Derived.Test.YtoamkpgaaanafaaGreatG3
import Derived.Test.YtoamkpgaaanafaaGreatG32
import Derived.Test.YtoamkpgaaanafaaGreatG34
import Derived.Test.YtoamkpgaaanafaaGreatG37
import Derived.Test.YtoamkpgaaanafaaGreatG42
import Derived.Test.YtoamkpgaaanafaaGreatG6
import Derived.Test.YtoamkpgaaanafaaGreatG7
import Derived.Test.YtoamkpgaaanafaaGreatG8
import Derived.Test.YtoamkpgaaanafaaGreatH3
namespace Go.Proofs.YtoamkpgaaanafaaGreat
set_option linter.unusedSimpArgs false
set_option linter.unusedVariables false
set_option linter.unnecessarySimpa false
section
open Go.RowKit
set_option maxRecDepth 10000 in
theorem pw_r6Metric (m:Int):PCalls Tryz.prog 237 [pint m] (· = pbool (keyB m)):=by
 refine pcalls_of_pw typeTab_ok Tryz.func237 rfl (by kernel_rfl) (by simp [low_pint,low_pints,low_pstr,low_pbool,low_pbox,low_pvecs,low_pentry,low_pentries,low_psum,low_pschema,low_pshells,low_pstrs,low_pfld,low_pdef]) (by simp [pint,pints,pstr,pbool,pbox,pvecs,pentry,pentries,psum,psumL,pschema,pshells,pstrs,pfld,pfldL,pdefL,PV.ownB]) (by rw [Tryz.ntmps237];simp) ?_
 rw [Tryz.ntmps237,Tryz.results237]
 unfold keyB
 by_cases h1:1≤m
 ·by_cases h2:m≤3
  ·refine wk ?_
   exact retP rfl (by exact lw) (by simp [pbool,h1,h2])
  ·refine wk ?_
   exact retP rfl (by exact lw) (by simp [pbool,h2])
 ·refine wk ?_
  exact retP rfl (by exact lw) (by simp [pbool,h1])
set_option maxRecDepth 10000 in
theorem pw_r9Metric (m:Int):PCalls Tryz.prog 238 [pint m] (· = pbool (keyB m)):=by
 refine pcalls_of_pw typeTab_ok Tryz.func238 rfl (by kernel_rfl) (by simp [low_pint,low_pints,low_pstr,low_pbool,low_pbox,low_pvecs,low_pentry,low_pentries,low_psum,low_pschema,low_pshells,low_pstrs,low_pfld,low_pdef]) (by simp [pint,pints,pstr,pbool,pbox,pvecs,pentry,pentries,psum,psumL,pschema,pshells,pstrs,pfld,pfldL,pdefL,PV.ownB]) (by rw [Tryz.ntmps238];simp) ?_
 rw [Tryz.ntmps238,Tryz.results238]
 unfold keyB
 by_cases h1:1≤m
 ·by_cases h2:m≤3
  ·refine wk ?_
   exact retP rfl (by exact lw) (by simp [pbool,h1,h2])
  ·refine wk ?_
   exact retP rfl (by exact lw) (by simp [pbool,h2])
 ·refine wk ?_
  exact retP rfl (by exact lw) (by simp [pbool,h1])
set_option maxRecDepth 10000 in
set_option maxHeartbeats 2000000 in
theorem pw_r6Key (m:Int) (a b:List Int) (hm:keyB m=true) (ha:vecB a=true) (hb:vecB b=true) (hl:a.length=b.length):PCalls Tryz.prog 156 [pint m,pints a,pints b] (· = pint (keyV m a b)):=by
 obtain ⟨⟨a1,a2⟩,a3⟩:=vecB_get ha
 obtain ⟨⟨b1,b2⟩,b3⟩:=vecB_get hb
 have hz:∀k,k < a.length→(zipI subI a b).getD k default=a.getD k default - b.getD k default:=fun k hk=>zipI_get hk
 have hzl:=zipI_len subI a b
 have hsm:∀k,Small30 (((zipI subI a b).take k).foldl (fun n x=>addM m n (absI x)) 0):=fun k=>norm_small (fun d h=>by
  obtain ⟨j,hj,rfl⟩:=List.getElem_of_mem (List.mem_of_mem_take h)
  have hj' : j < a.length:=by omega
  have:=hz j hj'
  rw [getD_atW hj] at this
  have:=a3 j
  have:=b3 j
  omega) (by simp;omega)
 refine pcalls_of_pw typeTab_ok Tryz.func156 rfl (by kernel_rfl) (by simp [low_pint,low_pints,low_pstr,low_pbool,low_pbox,low_pvecs,low_pentry,low_pentries,low_psum,low_pschema,low_pshells,low_pstrs,low_pfld,low_pdef]) (by simp [pint,pints,pstr,pbool,pbox,pvecs,pentry,pentries,psum,psumL,pschema,pshells,pstrs,pfld,pfldL,pdefL,PV.ownB]) (by rw [Tryz.ntmps156];simp) ?_
 rw [Tryz.ntmps156,Tryz.results156]
 unfold keyV
 rw [←normI_eq]
 simp only [keyB,Bool.and_eq_true,decide_eq_true_eq] at hm
 refine wk ?_
 refine PW.loop (fun k:Nat=>(bot.put 0 (pint m) |>.put 1 (pints a) |>.put 2 (pints b) |>.put 7 (pint (((zipI subI a b).take k).foldl (fun n x=>addM m n (absI x)) 0)) |>.put 8 (pint k))) (fun k=>k≤a.length) (fun k=>a.length - k) 0 (by omega) ?_ ?_
 ·exact sb
 intro k hk
 by_cases hlt:k < a.length
 ·have v1:=a3 k
  have v2:=b3 k
  obtain ⟨s1,s2⟩:=hsm k
  have e:=foldl_take (fun n x=>addM m n (absI x)) 0 (zipI subI a b) (k:=k) (by omega)
  rw [hz k hlt] at e
  generalize ((zipI subI a b).take k).foldl (fun n x=>addM m n (absI x)) 0=n at *
  have hab:absI (a.getD k default - b.getD k default)=(if b.getD k default - a.getD k default > a.getD k default - b.getD k default then b.getD k default - a.getD k default else a.getD k default - b.getD k default):=by unfold absI;split<;>omega
  have sq:=sq_bound (d:=(if b.getD k default - a.getD k default > a.getD k default - b.getD k default then b.getD k default - a.getD k default else a.getD k default - b.getD k default)) (by split<;>omega) (by split<;>omega)
  have ab:0≤(if b.getD k default - a.getD k default > a.getD k default - b.getD k default then b.getD k default - a.getD k default else a.getD k default - b.getD k default)∧(if b.getD k default - a.getD k default > a.getD k default - b.getD k default then b.getD k default - a.getD k default else a.getD k default - b.getD k default)≤5000:=by split<;>omega
  rw [hab] at e
  rcases (show m=1∨m=2∨m=3 by omega) with rfl|rfl|rfl
  ·have e2:addM 1 n (if b.getD k default - a.getD k default > a.getD k default - b.getD k default then b.getD k default - a.getD k default else a.getD k default - b.getD k default)=n+(if b.getD k default - a.getD k default > a.getD k default - b.getD k default then b.getD k default - a.getD k default else a.getD k default - b.getD k default):=rfl
   refine wk ?_
   refine loopP (k+1) (by omega) (by omega) ?_
   simp only [e,e2]
   exact sb
  ·have e2:addM 2 n (if b.getD k default - a.getD k default > a.getD k default - b.getD k default then b.getD k default - a.getD k default else a.getD k default - b.getD k default)=n+(if b.getD k default - a.getD k default > a.getD k default - b.getD k default then b.getD k default - a.getD k default else a.getD k default - b.getD k default) * (if b.getD k default - a.getD k default > a.getD k default - b.getD k default then b.getD k default - a.getD k default else a.getD k default - b.getD k default):=rfl
   refine wk ?_
   simp only [if_true]
   refine wk ?_
   refine loopP (k+1) (by omega) (by omega) ?_
   simp only [e,e2]
   exact sb
  ·have e2:addM 3 n (if b.getD k default - a.getD k default > a.getD k default - b.getD k default then b.getD k default - a.getD k default else a.getD k default - b.getD k default)=(if (if b.getD k default - a.getD k default > a.getD k default - b.getD k default then b.getD k default - a.getD k default else a.getD k default - b.getD k default) > n then (if b.getD k default - a.getD k default > a.getD k default - b.getD k default then b.getD k default - a.getD k default else a.getD k default - b.getD k default) else n):=by
    show max n _=_
    generalize (if b.getD k default - a.getD k default > a.getD k default - b.getD k default then b.getD k default - a.getD k default else a.getD k default - b.getD k default)=w
    split<;>omega
   rw [e2] at e
   refine wk ?_
   refine loopP (k+1) (by omega) (by omega) ?_
   simp only [e]
   exact sb
 ·have e:(zipI subI a b).take k=zipI subI a b:=List.take_of_length_le (by omega)
  simp only [e]
  refine wk ?_
  exact retP rfl (by exact lw) rfl
def nearL (b:PBox) (v:List Int):List Int:=(List.range v.length).map fun k=>mnI (mxI (v.getD k default) (b.lo.getD k default)) (b.hi.getD k default)
theorem nearL_len (b:PBox) (v:List Int):(nearL b v).length=v.length:=by simp [nearL]
theorem nearL_get {b:PBox} {v:List Int} {k:Nat} (h:k < v.length):(nearL b v).getD k default=mnI (mxI (v.getD k default) (b.lo.getD k default)) (b.hi.getD k default):=by
 simp [nearL,List.getD_eq_getElem?_getD,h]
theorem nearL_take {b:PBox} {v:List Int} {k:Nat} (h:k < v.length):((nearL b v).take (k+1)).map pint=((nearL b v).take k).map pint ++ [pint (mnI (mxI (v.getD k default) (b.lo.getD k default)) (b.hi.getD k default))]:=by
 rw [List.take_add_one,List.map_append]
 congr 1
 simp [nearL,h]
set_option maxRecDepth 10000 in
set_option maxHeartbeats 1000000 in
theorem pw_r6Nearest (b:PBox) (v:List Int) (h1:v.length≤b.lo.length) (h2:v.length≤b.hi.length) (h3:b.lo.length≤1000000) (h4:b.hi.length≤1000000):PCalls Tryz.prog 157 [pbox b,pints v] (· = pints (nearL b v)):=by
 have hlb:=low_pboxL b
 refine PCalls.weak ?_
 refine pcalls_of_pw typeTab_ok Tryz.func157 rfl (by kernel_rfl) (by simp [low_pint,low_pints,low_pstr,low_pbool,low_pbox,low_pvecs,low_pentry,low_pentries,low_psum,low_pschema,low_pshells,low_pstrs,low_pfld,low_pdef]) (by simp [pint,pints,pstr,pbool,pbox,pvecs,pentry,pentries,psum,psumL,pschema,pshells,pstrs,pfld,pfldL,pdefL,PV.ownB]) (by rw [Tryz.ntmps157];simp) ?_
 rw [Tryz.ntmps157,Tryz.results157]
 unfold pbox pboxL at *
 refine wk ?_
 refine PW.loop (fun k:Nat=>(bot.setb 0 [pints b.lo,pints b.hi] |>.put 1 (pints v) |>.put 2 (.ptr 0 0) |>.put 5 (.sl k 1 (((nearL b v).take k).map pint) (some 3)) |>.put 6 (pint k))) (fun k=>k≤v.length) (fun k=>v.length - k) 0 (by omega) ?_ ?_
 ·exact sb
 intro k hk
 by_cases hlt:k < v.length
 ·refine wk ?_
  refine loopP (k+1) (by omega) (by omega) ?_
  have hl:=low_intsapp (k+1) ((nearL b v).take k) (mnI (mxI (v.getD k default) (b.lo.getD k default)) (b.hi.getD k default)) (some 3)
  simp only [nearL_take hlt]
  exact sb
 ·have hkk:k=v.length:=by omega
  have e:(nearL b v).take k=nearL b v:=List.take_of_length_le (by rw [nearL_len];omega)
  simp only [e]
  refine wk ?_
  refine retP (r:=.sl k 1 ((nearL b v).map pint) none) rfl (low_ints _ _ _) ?_
  rw [hkk,←nearL_len b v]
  exact Weak.refl _
theorem near_vec {b:PBox} {v:List Int} (hb:boxB b=true) (hv:vecB v=true) (hl:v.length=b.lo.length):vecB (nearL b v)=true:=by
 obtain ⟨⟨v1,v2⟩,v3⟩:=vecB_get hv
 have kb:=boxOK_of hb
 refine vecB_of (by rw [nearL_len];omega) (by rw [nearL_len];omega) fun k hk=>?_
 rw [nearL_len] at hk
 rw [nearL_get hk,mnI_eq,mxI_eq]
 have h1:=v3 k
 have h2:=kb.le k (by omega)
 omega
theorem near_key {m:Int} {b:PBox} {v:List Int} (hb:boxB b=true) (hl:v.length=b.lo.length):keyV m (nearL b v) v=keyD m (dsOf gapD b v):=by
 have kb:=boxOK_of hb
 unfold keyV normI
 congr 1
 unfold zipI dsOf
 rw [nearL_len,List.map_map]
 refine List.map_congr_left fun k hk=>?_
 have hk' : k < v.length:=by simpa using hk
 have h2:=kb.le k (by omega)
 simp only [Function.comp,nearL_get hk',mnI_eq,mxI_eq,absI,subI,gapD]
 omega
set_option maxRecDepth 10000 in
set_option maxHeartbeats 1000000 in
theorem pw_r6asked (m:Int) (b:PBox) (v:List Int) (h1:b.lo.length≤1000000) (h2:b.hi.length≤1000000) (h3:v.length≤1000000):PCalls Tryz.prog 155 [pint m,pbox b,pints v] (· = pbool (boxB b && (vecB v && (decide (v.length=b.lo.length) && keyB m)))):=by
 have c1:=pw_r6Metric m
 have c2:=pw_r6Valid b h1 h2
 have c3:=pw_r6Vector v h3
 have hlb:=low_pboxL b
 refine pcalls_of_pw typeTab_ok Tryz.func155 rfl (by kernel_rfl) (by simp [low_pint,low_pints,low_pstr,low_pbool,low_pbox,low_pvecs,low_pentry,low_pentries,low_psum,low_pschema,low_pshells,low_pstrs,low_pfld,low_pdef]) (by simp [pint,pints,pstr,pbool,pbox,pvecs,pentry,pentries,psum,psumL,pschema,pshells,pstrs,pfld,pfldL,pdefL,PV.ownB]) (by rw [Tryz.ntmps155];simp) ?_
 rw [Tryz.ntmps155,Tryz.results155]
 unfold pbox pboxL at *
 cases e1:keyB m with
 |false=>
  rw [e1] at c1
  clear c2 c3
  refine wk ?_
  exact retP rfl (by exact lw) (by simp [pbool])
 |true=>
  rw [e1] at c1
  cases e2:boxB b with
  |false=>
   rw [e2] at c2
   clear c3
   refine wk ?_
   exact retP rfl (by exact lw) (by simp [pbool])
  |true=>
   rw [e2] at c2
   cases e3:vecB v with
   |false=>
    rw [e3] at c3
    refine wk ?_
    exact retP rfl (by exact lw) (by simp [pbool])
   |true=>
    rw [e3] at c3
    by_cases e4:v.length=b.lo.length
    ·refine wk ?_
     exact retP rfl (by exact lw) (by simp [pbool,e4])
    ·refine wk ?_
     exact retP rfl (by exact lw) (by simp [pbool,e4])
set_option maxRecDepth 10000 in
set_option maxHeartbeats 1000000 in
theorem pw_r6Near (m:Int) (b:PBox) (v:List Int) (h1:b.lo.length≤1000000) (h2:b.hi.length≤1000000) (h3:v.length≤1000000):PCalls Tryz.prog 78 [pint m,pbox b,pints v] (· = .agg [pint (boxNear m b v).1,pint (boxNear m b v).2]):=by
 have c1:=pw_r6asked m b v h1 h2 h3
 have hlb:=low_pboxL b
 refine pcalls_of_pw typeTab_ok Tryz.func78 rfl (by kernel_rfl) (by simp [low_pint,low_pints,low_pstr,low_pbool,low_pbox,low_pvecs,low_pentry,low_pentries,low_psum,low_pschema,low_pshells,low_pstrs,low_pfld,low_pdef]) (by simp [pint,pints,pstr,pbool,pbox,pvecs,pentry,pentries,psum,psumL,pschema,pshells,pstrs,pfld,pfldL,pdefL,PV.ownB]) (by rw [Tryz.ntmps78];simp) ?_
 rw [Tryz.ntmps78,Tryz.results78]
 unfold boxNear
 unfold pbox pboxL at *
 cases e1:(boxB b && (vecB v && (decide (v.length=b.lo.length) && keyB m))) with
 |false=>
  rw [e1] at c1
  refine wk ?_
  exact retP (r:=.agg [pint 0,pint 1]) rfl (by simp [low_agg,low_pint]) rfl
 |true=>
  rw [e1] at c1
  simp only [Bool.and_eq_true,decide_eq_true_eq] at e1
  obtain ⟨eb,ev,el,em⟩:=e1
  obtain ⟨l1,-,-⟩:=boxB_len eb
  have c2:=pw_r6Nearest b v (by omega) (by omega) h1 h2
  have c3:=pw_r6Key m (nearL b v) v em (near_vec eb ev el) ev (nearL_len b v)
  rw [near_key eb el] at c3
  unfold pbox pboxL at *
  refine wk ?_
  exact retP (r:=.agg [pint (keyD m (dsOf gapD b v)),pint 0]) rfl (by simp [low_agg,low_pint]) rfl
set_option maxRecDepth 10000 in
set_option maxHeartbeats 1000000 in
theorem pw_r5Isqrt (n:Nat) (h:n≤1152921504606846976):PCalls Tryz.prog 262 [pint n] (· = pint (rootN n)):=by
 refine pcalls_of_pw typeTab_ok Tryz.func262 rfl (by kernel_rfl) (by simp [low_pint,low_pints,low_pstr,low_pbool,low_pbox,low_pvecs,low_pentry,low_pentries,low_psum,low_pschema,low_pshells,low_pstrs,low_pfld,low_pdef]) (by simp [pint,pints,pstr,pbool,pbox,pvecs,pentry,pentries,psum,psumL,pschema,pshells,pstrs,pfld,pfldL,pdefL,PV.ownB]) (by rw [Tryz.ntmps262];simp) ?_
 rw [Tryz.ntmps262,Tryz.results262]
 refine wk ?_
 refine PW.loop (fun x:Nat×Nat=>(bot.put 0 (pint n) |>.put 3 (pint x.2) |>.put 4 (pint ((x.1:Int) - 1)))) (fun x=>x.1≤31∧x.2+2 ^ x.1≤2147483648∧rootG n x.1 x.2=rootN n) (fun x=>x.1) (31,0) ⟨by simp,by simp,rfl⟩ ?_ ?_
 ·exact sb
 rintro ⟨j,out⟩ ⟨hj,ho,hr⟩
 simp only at hj ho hr ⊢
 cases j with
 |zero=>
  rw [rootG] at hr
  refine wk ?_
  refine retP rfl (by exact lw) ?_
  rw [←hr];rfl
 |succ j=>
  rw [rootG] at hr
  have hp:2 ^ (j+1)=2 * 2 ^ j:=by rw [Nat.pow_succ];omega
  have hp2:2 ^ j≤1073741824:=by
   have:2 ^ j≤2 ^ 30:=Nat.pow_le_pow_right (by decide) (by omega)
   simpa using this
  have hp3:1≤2 ^ j:=Nat.one_le_two_pow
  have hw:IntKind.i64.wrap (1 * 2 ^ (min (((j+1:Nat):Int) - 1).toNat IntKind.i64.bits))=((2 ^ j:Nat):Int):=by
   have e1:min (((j+1:Nat):Int) - 1).toNat IntKind.i64.bits=j:=by
    have:IntKind.i64.bits=64:=rfl
    omega
   rw [e1,Int.one_mul]
   have e2:((2:Int) ^ j)=((2 ^ j:Nat):Int):=by simp
   rw [e2,wrap64_id (by omega) (by omega)]
  rw [hp] at ho
  generalize 2 ^ j=P at *
  refine wk ?_
  rw [hw]
  obtain ⟨x,hx⟩:∃x,out+P=x:=⟨_,rfl⟩
  have hx2:(out:Int)+(P:Int)=(x:Int):=by omega
  have hxx:x * x≤4611686018427387904:=Nat.le_trans (Nat.mul_le_mul (show x≤2147483648 by omega) (show x≤2147483648 by omega)) (by decide)
  have hxx2:(x:Int) * (x:Int)=((x * x:Nat):Int):=by simp
  have hxx3:0≤(x:Int) * (x:Int)∧(x:Int) * (x:Int)≤4611686018427387904:=by omega
  rw [hx] at hr
  refine wk ?_
  rw [hx2]
  by_cases hc:x * x≤n
  ·rw [if_pos hc] at hr
   have hc2:(x:Int) * (x:Int)≤(n:Int):=by omega
   refine wk ?_
   refine loopP (j,x) ⟨by omega,by simp only;omega,hr⟩ (by simp) ?_
   simp only [show ((j+1:Nat):Int) - 1 - 1=(j:Int) - 1 by omega]
   exact sb
  ·rw [if_neg hc] at hr
   have hc2:¬(x:Int) * (x:Int)≤(n:Int):=by omega
   refine wk ?_
   refine loopP (j,out) ⟨by omega,by simp only;omega,hr⟩ (by simp) ?_
   simp only [show ((j+1:Nat):Int) - 1 - 1=(j:Int) - 1 by omega]
   exact sb
end
end Go.Proofs.YtoamkpgaaanafaaGreat
