/- Out of: Zi, Zk, Zm, Zn. -/
import Derived.Test.YtoamkpgaaanafaaGreatRows
import Derived.WalkKit
import Derived.WalkSpells
import Derived.WalkLawsBesides
import Derived.Deep.QuietTactic
import Derived.BigQuiet
import Derived.RegionTactic
import Derived.Lib.AppendZeros
import Derived.Lib.AppendStr
import Derived.Lib.Hide
import Derived.OrdersIn
import Derived.Laws.BytesString
import Derived.WideLaws
import Derived.RangeFuncRecord
import Derived.Orders
import GoSem.Step
import Derived.Laws.RangeAny
import Derived.Lib.OthersKept
import Derived.Outline
import Derived.Laws.EntriesVeiled
import Derived.KernelRfl
import Derived.StillTailTactics
import Derived.Deep.Cut
import Derived.RangeFuncCalls
import Derived.Lib.BitFns
import Derived.Test.YtoamkpgaaanafaaGreatShelf
import Derived.Test.YtoamkpgaaanafaaGreatG1
import Derived.Test.YtoamkpgaaanafaaGreatG3
import Derived.Test.YtoamkpgaaanafaaGreatG6
import Derived.Test.YtoamkpgaaanafaaGreatG7
import Derived.Test.YtoamkpgaaanafaaGreatG8
import Derived.Test.YtoamkpgaaanafaaGreatG9
import Derived.Test.YtoamkpgaaanafaaGreatG10
import Derived.Test.YtoamkpgaaanafaaGreatG11
import Derived.Test.YtoamkpgaaanafaaGreatG12
import Derived.Test.YtoamkpgaaanafaaGreatG13
import Derived.Test.YtoamkpgaaanafaaGreatG14
import Derived.Test.YtoamkpgaaanafaaGreatG15
import Derived.Test.YtoamkpgaaanafaaGreatG17
import Derived.Test.YtoamkpgaaanafaaGreatG19
import Derived.Test.YtoamkpgaaanafaaGreatG20
namespace Go.Proofs.YtoamkpgaaanafaaGreat
set_option linter.unusedSimpArgs false
set_option linter.unusedVariables false
set_option linter.unnecessarySimpa false
section
open Go.RowKit
set_option maxRecDepth 10000 in
theorem hc_clone1 (l:List Int) (h0:0 < l.length) (hl:l.length≤1000000):HCalls Tryz.prog 137 [pints l] [] [] (.msl 3002 0 l.length 1) [(3002,l.map pint)] []:=by
 refine hcalls_of_pw typeTab_ok Tryz.func137 rfl (by kernel_rfl) (by simp [pints,PV.ownB]) (by rw [Tryz.ntmps137];simp) (by simp [ResIds]) (by simp [ResIds]) ⟨fun p hp=>by simp only [List.mem_cons,List.not_mem_nil,or_false] at hp;subst hp;exact ((low_pints l).2 trivial).lowI,by simp,by simp, .msl _ _ _ _ (by simp [ResIds]),fun x hx c hc=>by simp only [List.mem_cons,List.not_mem_nil,or_false] at hx;subst hx;obtain ⟨z,-,rfl⟩:=List.mem_map.1 hc;exact .val _,by simp,by simp,by simp⟩ ?_
 rw [Tryz.ntmps137,Tryz.results137]
 cases l with
 |nil=>cases h0
 |cons x l=>
  have hone:((x :: l).map pint).all PV.one=true:=one_map (fun _=>rfl) _
  have hno:((x :: l).map pint).all (fun c => !c.ownB)=true:=by rw [List.all_map,List.all_eq_true];intro z _;rfl
  refine PW.seq ?_
  refine PW.region typeTab_ok (by kernel_rfl) ?_
  refine wg ?_
  refine PW.region typeTab_ok (by kernel_rfl) ?_
  refine wg ?_
  refine PW.region typeTab_ok (by kernel_rfl) ?_
  (refine ops0 ?_)
  (refine ops0 ?_)
  refine PWops.appN typeTab_ok rfl (fun _ _=>rfl) rfl rfl (.inr rfl) rfl rfl rfl rfl rfl (by omega) (by omega) h0 hone hno ?_
  refine wk ?_
  exact RetH.mk rfl (Weak.refl _) ⟨⟨_,rfl,WeakL.refl _⟩,trivial⟩ trivial
theorem hc_clone (id:Nat) (l:List Int) (h0:0 < l.length) (hl:l.length≤1000000):HCalls Tryz.prog 137 [pints l] [] [] (.msl id 0 l.length 1) [(id,l.map pint)] []:=
 (hc_clone1 l h0 hl).at [(3002,id)] (by simp) (by simp [ResIds]) (by simp) (by simp) (RenL.low (by simp [low_pints])) RenB.nil RenMs.nil (.msl _ _ _ _ (by simp [ResIds])) (RenB.cons _ _ _ _ _ (RenL.low (low_map (fun _=>Low.val _) _)) RenB.nil) RenMs.nil
def subI (x y:Int):Int:=x - y
def subK (a b:List Int) (k:Nat):List Int:=(zipI subI a b).take k ++ a.drop k
theorem subK_len {a b:List Int} {k:Nat} (h:k≤a.length):(subK a b k).length=a.length:=by
 simp [subK,zipI_len];omega
theorem subK_get {a b:List Int} {k:Nat} (h:k < a.length):(subK a b k).getD k default=a.getD k default:=by
 have hl:((zipI subI a b).take k).length=k:=by rw [List.length_take,zipI_len];omega
 rw [subK,List.getD_eq_getElem?_getD,List.getElem?_append_right (by omega),hl,Nat.sub_self,List.getElem?_drop,List.getD_eq_getElem?_getD,Nat.add_zero]
theorem subK_set {a b:List Int} {k:Nat} (h:k < a.length):(subK a b k).set k (a.getD k default - b.getD k default)=subK a b (k+1):=by
 have hl:((zipI subI a b).take k).length=k:=by rw [List.length_take,zipI_len];omega
 rw [subK,List.set_append_right _ _ (by omega),hl,Nat.sub_self,List.drop_eq_getElem_cons h,List.set_cons_zero,subK,zipI_take h]
 simp [subI]
set_option maxRecDepth 10000 in
set_option maxHeartbeats 2000000 in
theorem pw_vecSub (a b:List Int) (h0:0 < a.length) (h1:a.length≤1000000) (h2:a.length≤b.length) (h3:b.length≤1000000) (ha:∀k,-1000000≤a.getD k default∧a.getD k default≤1000000) (hb:∀k,-1000000≤b.getD k default∧b.getD k default≤1000000):PCalls Tryz.prog 107 [pints a,pints b] (· = pints (zipI subI a b)):=by
 have hc:=hc_clone 900001 a h0 h1
 refine pcalls_of_pw typeTab_ok Tryz.func107 rfl (by kernel_rfl) (by simp [low_pints]) (by simp [pints,PV.ownB]) (by rw [Tryz.ntmps107];simp) ?_
 rw [Tryz.ntmps107,Tryz.results107]
 refine wk ?_
 refine PW.loop (fun k:Nat=>(((((bot.setb 900001 ((subK a b k).map pint)).put 1 (pints b)).put 5 (.msl 900001 0 a.length 1)).put 10 (pint a.length)).put 11 (pint k))) (fun k=>k≤a.length) (fun k=>a.length - k) 0 (by omega) ?_ ?_
 ·exact sb
 ·intro k hk
  have hlen:=subK_len (b:=b) hk
  have hml:((subK a b k).map pint).length=a.length:=by rw [List.length_map,hlen]
  by_cases hlt:k < a.length
  ·have hgk:=subK_get (b:=b) hlt
   obtain ⟨a1,a2⟩:=ha k
   obtain ⟨b1,b2⟩:=hb k
   refine wk ?_
   rw [show (0+((k:Int)).toNat * 1)=k from by omega,hgk]
   refine wk ?_
   rw [show (0+((k:Int)).toNat * 1)=k from by omega,subK_set hlt]
   refine loopP (k+1) (by omega) (by omega) ?_
   have hml2:((subK a b (k+1)).map pint).length=a.length:=by rw [List.length_map,subK_len (by omega)]
   exact sb
  ·have hkk:k=a.length:=by omega
   refine PW.freeze (s:=5) (id:=900001) (n:=a.length) (k:=1) (cs:=(subK a b k).map pint) (σ':=(bot.put 10 (pint a.length)).put 11 (pint k)) rfl rfl (by simp [hlen]) (low_map (fun _=>Low.val _) _) (by exact sbr0) rfl ?_
   refine wk ?_
   refine retP (r:=.sl a.length 1 ((subK a b k).map pint) none) rfl (.sl _ _ _ _ (low_map (fun _=>Low.val _) _)) ?_
   rw [hkk,subK,List.take_of_length_le (by rw [zipI_len];omega),List.drop_length,List.append_nil,pints,zipI_len]
def absI (x:Int):Int:=max x (-x)
theorem absI_sq (x:Int):absI x * absI x=x * x:=by
 unfold absI
 rcases Int.le_total x (-x) with h|h
 ·rw [Int.max_eq_right h,Int.neg_mul_neg]
 ·rw [Int.max_eq_left h]
set_option maxRecDepth 10000 in
theorem pw_norm1 (n x:Int) (hn:Small30 n) (h1 : -5000≤x) (h2:x≤5000):PCalls Tryz.prog 187 [pint n,pint x] (· = pint (addM 1 n (absI x))):=by
 obtain ⟨h3,h4⟩:=hn
 have hdd:=sq_bound h1 h2
 have hw:IntKind.i64.wrap (0 - x) = -x:=by rw [wrap64_id (by omega) (by omega)];omega
 refine pcalls_of_pw typeTab_ok Tryz.func187 rfl (by kernel_rfl) (by simp [low_pint]) (by simp [pint,PV.ownB]) (by rw [Tryz.ntmps187];simp) ?_
 rw [Tryz.ntmps187,Tryz.results187]
 refine wk ?_
 rw [hw]
 rw [show (if true=true then if -x > x then -x else x else if -x < x then -x else x)=absI x from by simp only [if_true,absI];split<;>omega]
 have hab : -5000≤absI x∧absI x≤5000:=by unfold absI;omega
 refine wk ?_
 exact retP rfl (by exact lw) (by simp [addM,pint])
set_option maxRecDepth 10000 in
theorem pw_norm2 (n x:Int) (hn:Small30 n) (h1 : -5000≤x) (h2:x≤5000):PCalls Tryz.prog 188 [pint n,pint x] (· = pint (addM 2 n (absI x))):=by
 obtain ⟨h3,h4⟩:=hn
 have hdd:=sq_bound h1 h2
 have hw:IntKind.i64.wrap (0 - x) = -x:=by rw [wrap64_id (by omega) (by omega)];omega
 refine pcalls_of_pw typeTab_ok Tryz.func188 rfl (by kernel_rfl) (by simp [low_pint]) (by simp [pint,PV.ownB]) (by rw [Tryz.ntmps188];simp) ?_
 rw [Tryz.ntmps188,Tryz.results188]
 refine wk ?_
 exact retP rfl (by exact lw) (by simp [addM,pint,absI_sq])
set_option maxRecDepth 10000 in
theorem pw_norm3 (n x:Int) (hn:Small30 n) (h1 : -5000≤x) (h2:x≤5000):PCalls Tryz.prog 189 [pint n,pint x] (· = pint (addM 3 n (absI x))):=by
 obtain ⟨h3,h4⟩:=hn
 have hdd:=sq_bound h1 h2
 have hw:IntKind.i64.wrap (0 - x) = -x:=by rw [wrap64_id (by omega) (by omega)];omega
 refine pcalls_of_pw typeTab_ok Tryz.func189 rfl (by kernel_rfl) (by simp [low_pint]) (by simp [pint,PV.ownB]) (by rw [Tryz.ntmps189];simp) ?_
 rw [Tryz.ntmps189,Tryz.results189]
 refine wk ?_
 rw [hw]
 refine retP rfl (by exact lw) ?_
 simp only [if_true,pint,addM,absI]
 congr 2
 repeat' split
 all_goals omega
theorem absI_bound {x:Int} (h : -5000≤x∧x≤5000) : -5000≤absI x∧absI x≤5000:=by unfold absI;omega
def normI (m:Int) (v:List Int):Int:=keyD m (v.map absI)
theorem normI_eq (m:Int) (v:List Int):v.foldl (fun n x=>addM m n (absI x)) 0=normI m v:=by rw [normI,keyD,List.foldl_map]
theorem norm_small {m:Int} {v:List Int} (hd:∀d∈v,-5000≤d∧d≤5000) (hl:v.length≤1000):Small30 (v.foldl (fun n x=>addM m n (absI x)) 0):=by
 rw [normI_eq]
 have:=keyD_bound m (v.map absI) (fun d h=>by obtain ⟨x,hx,rfl⟩:=List.mem_map.1 h;exact absI_bound (hd x hx)) 0 0 (by simp)
 unfold Small30 normI keyD
 simp only [List.length_map] at this
 omega
set_option maxRecDepth 10000 in
set_option maxHeartbeats 2000000 in
theorem pw_norm (m:Int) (v:List Int) (hm:keyB m=true) (hl:v.length≤1000) (hv:∀k,-5000≤v.getD k default∧v.getD k default≤5000):PCalls Tryz.prog 106 [pint m,pints v] (· = pint (normI m v)):=by
 have hv' : ∀d∈v,-5000≤d∧d≤5000:=fun d hd=>by
  obtain ⟨j,hj,rfl⟩:=List.getElem_of_mem hd
  have:=hv j
  rwa [List.getD_eq_getElem?_getD,List.getElem?_eq_getElem hj] at this
 have hsm:∀(m:Int) k,Small30 ((v.take k).foldl (fun n x=>addM m n (absI x)) 0):=fun m k=>norm_small (fun d h=>hv' d (List.mem_of_mem_take h)) (by simp;omega)
 have f1:=pw_foldI 187 (fun n x=>addM 1 n (absI x)) v 0 rfl (by omega) (fun k _=>pw_norm1 _ _ (hsm 1 k) (hv k).1 (hv k).2)
 have f2:=pw_foldI 188 (fun n x=>addM 2 n (absI x)) v 0 rfl (by omega) (fun k _=>pw_norm2 _ _ (hsm 2 k) (hv k).1 (hv k).2)
 have f3:=pw_foldI 189 (fun n x=>addM 3 n (absI x)) v 0 rfl (by omega) (fun k _=>pw_norm3 _ _ (hsm 3 k) (hv k).1 (hv k).2)
 rw [normI_eq] at f1 f2 f3
 refine pcalls_of_pw typeTab_ok Tryz.func106 rfl (by kernel_rfl) (by simp [low_pint,low_pints]) (by simp [pint,pints,PV.ownB]) (by rw [Tryz.ntmps106];simp) ?_
 rw [Tryz.ntmps106,Tryz.results106]
 clear hsm hv'
 simp only [keyB,Bool.and_eq_true,decide_eq_true_eq] at hm
 rcases (show m=1∨m=2∨m=3 by omega) with rfl|rfl|rfl
 ·clear f2 f3
  refine wk ?_
  refine PWops.mkMG rfl rfl rfl rfl ?_
  refine PWops.mins rfl rfl rfl rfl rfl rfl rfl rfl rfl rfl rfl rfl rfl ?_
  refine PWops.mins rfl rfl rfl rfl rfl rfl rfl rfl rfl rfl rfl rfl rfl ?_
  refine PWops.mins rfl rfl rfl rfl rfl rfl rfl rfl rfl rfl rfl rfl rfl ?_
  refine wk ?_
  exact retP rfl (by exact lw) rfl
 ·clear f1 f3
  refine wk ?_
  refine PWops.mkMG rfl rfl rfl rfl ?_
  refine PWops.mins rfl rfl rfl rfl rfl rfl rfl rfl rfl rfl rfl rfl rfl ?_
  refine PWops.mins rfl rfl rfl rfl rfl rfl rfl rfl rfl rfl rfl rfl rfl ?_
  refine PWops.mins rfl rfl rfl rfl rfl rfl rfl rfl rfl rfl rfl rfl rfl ?_
  refine wk ?_
  exact retP rfl (by exact lw) rfl
 ·clear f1 f2
  refine wk ?_
  refine PWops.mkMG rfl rfl rfl rfl ?_
  refine PWops.mins rfl rfl rfl rfl rfl rfl rfl rfl rfl rfl rfl rfl rfl ?_
  refine PWops.mins rfl rfl rfl rfl rfl rfl rfl rfl rfl rfl rfl rfl rfl ?_
  refine PWops.mins rfl rfl rfl rfl rfl rfl rfl rfl rfl rfl rfl rfl rfl ?_
  refine wk ?_
  exact retP rfl (by exact lw) rfl
def keyV (m:Int) (a b:List Int):Int:=normI m (zipI subI a b)
set_option maxRecDepth 10000 in
theorem pw_vecKey (m:Int) (a b:List Int) (hm:keyB m=true) (ha:vecB a=true) (hb:vecB b=true) (hl:a.length=b.length):PCalls Tryz.prog 41 [pint m,pints a,pints b] (· = pint (keyV m a b)):=by
 obtain ⟨⟨a1,a2⟩,a3⟩:=vecB_get ha
 obtain ⟨⟨b1,b2⟩,b3⟩:=vecB_get hb
 have h1:=pw_vecSub a b (by omega) (by omega) (by omega) (by omega) (fun k=>by have:=a3 k;omega) (fun k=>by have:=b3 k;omega)
 have h2:=pw_norm m (zipI subI a b) hm (by rw [zipI_len];omega) (fun k=>by
  rcases Nat.lt_or_ge k a.length with hk|hk
  ·have e:(zipI subI a b).getD k default=a.getD k default - b.getD k default:=by
    simp [zipI,subI,List.getD_eq_getElem?_getD,hk]
   rw [e]
   have:=a3 k;have:=b3 k;omega
  ·rw [List.getD_eq_getElem?_getD,List.getElem?_eq_none (by rw [zipI_len];exact hk)];decide)
 refine pcalls_of_pw typeTab_ok Tryz.func41 rfl (by kernel_rfl) (by simp [low_pint,low_pints]) (by simp [pint,pints,PV.ownB]) (by rw [Tryz.ntmps41];simp) ?_
 rw [Tryz.ntmps41,Tryz.results41]
 refine wk ?_
 exact retP rfl (by exact lw) rfl
theorem shellB_iff {s:PShell} : shellB s=true↔0≤s.lo∧s.lo≤s.hi∧s.hi≤134217728:=by
 have e1:allP.lo=0:=rfl
 have e2:allP.hi=134217728:=rfl
 simp only [shellB,hasP,Bool.and_eq_true,decide_eq_true_eq]
 omega
theorem shellsB_get {l:List PShell} (h:shellsB l=true):l.length≤8∧∀k,k < l.length→shellB (l.getD k default)=true:=by
 simp only [shellsB,Bool.and_eq_true,decide_eq_true_eq,List.all_eq_true] at h
 refine ⟨h.2,fun k hk=>h.1 _ ?_⟩
 rw [List.getD_eq_getElem?_getD,List.getElem?_eq_getElem hk];exact List.getElem_mem hk
def joinS (a b:List PShell):List PShell:=(List.range a.length).map fun k=>⟨min (min (a.getD k default).lo (b.getD k default).lo) (b.getD k default).hi,max (max (a.getD k default).hi (b.getD k default).lo) (b.getD k default).hi⟩
def shJoin (a b:List PShell):List PShell×Int:=if shellsB a && (shellsB b && decide (a.length=b.length)) then (joinS a b,0) else ([],1)
theorem low_shapp (n:Nat) (l:List PShell) (x:PShell) (own:Option TypeId):Low (.sl n 2 (l.flatMap pshL ++ pshL x) own):=by
 refine .sl _ _ _ _ fun c hc=>?_
 rcases List.mem_append.1 hc with h|h
 ·obtain ⟨z,-,hz⟩:=List.mem_flatMap.1 h;exact low_pshL z c hz
 ·exact low_pshL x c h
theorem low_shown (n:Nat) (l:List PShell) (own:Option TypeId):Low (.sl n 2 (l.flatMap pshL) own):=by
 refine .sl _ _ _ _ fun c hc=>?_
 obtain ⟨z,-,hz⟩:=List.mem_flatMap.1 hc;exact low_pshL z c hz
def alikeB (a b:List Int):Bool:=decide (a.length=b.length) && (vecB a && vecB b)
set_option maxRecDepth 10000 in
theorem pw_alike (a b:List Int) (h1:a.length≤1000000) (h2:b.length≤1000000):PCalls Tryz.prog 229 [pints a,pints b] (· = pbool (alikeB a b)):=by
 have hv:=pw_vecValid a h1
 have hw:=pw_vecValid b h2
 refine pcalls_of_pw typeTab_ok Tryz.func229 rfl (by kernel_rfl) (by simp [low_pints]) (by simp [pints,PV.ownB]) (by rw [Tryz.ntmps229];simp) ?_
 rw [Tryz.ntmps229,Tryz.results229]
 unfold alikeB
 by_cases e1:a.length=b.length
 ·cases e2:vecB a with
  |false=>
   rw [e2] at hv
   clear hw
   refine wk ?_
   exact retP rfl (by exact lw) (by simp [pbool])
  |true=>
   rw [e2] at hv
   cases e3:vecB b <;>
   ·rw [e3] at hw
    refine wk ?_
    exact retP rfl (by exact lw) (by simp [pbool,e1])
 ·refine wk ?_
  exact retP rfl (by exact lw) (by simp [pbool,e1])
def fitB (l:List (List Int)):Bool:=decide (1≤l.length) && (decide (l.length≤4096) && !l.any fun v => !alikeB (l.getD 0 default) v)
set_option maxRecDepth 10000 in
theorem pw_fit1 (l:List (List Int)) (v:List Int) (hl:0 < l.length) (h0:(l.getD 0 default).length≤1000000) (hv:v.length≤1000000):PCalls Tryz.prog 256 [pints v, .ep [pvecs l] 0] (· = pbool (!alikeB (l.getD 0 default) v)):=by
 have h:=pw_alike (l.getD 0 default) v h0 hv
 have hlow:Low (.ep [pvecs l] 0):=by simp [low_ep,low_pvecs]
 refine pcalls_of_pw typeTab_ok Tryz.func256 rfl (by kernel_rfl) (by simp [low_pints,hlow]) (by simp [pints,PV.ownB]) (by rw [Tryz.ntmps256];simp) ?_
 rw [Tryz.ntmps256,Tryz.results256]
 cases e1:alikeB (l.getD 0 default) v <;>
 ·rw [e1] at h
  refine wk ?_
  exact retP rfl (by exact lw) rfl
theorem getD_mem {α:Type} [Inhabited α] {l:List α} {k:Nat} (h:k < l.length):l.getD k default∈l:=by
 rw [List.getD_eq_getElem?_getD,List.getElem?_eq_getElem h];exact List.getElem_mem h
set_option maxRecDepth 10000 in
set_option maxHeartbeats 1000000 in
theorem pw_fit (l:List (List Int)) (hl:l.length≤1000000) (hv:∀v∈l,v.length≤1000000):PCalls Tryz.prog 228 [pvecs l] (· = pbool (fitB l)):=by
 refine pcalls_of_pw typeTab_ok Tryz.func228 rfl (by kernel_rfl) (by simp [low_pvecs]) (by simp [pvecs,PV.ownB]) (by rw [Tryz.ntmps228];simp) ?_
 rw [Tryz.ntmps228,Tryz.results228]
 refine PW.seq ?_
 refine PW.region typeTab_ok (by kernel_rfl) ?_
 refine wg ?_
 refine PW.freezeP (id:=0) (s:=1) (off:=0) (σ':=bot) rfl rfl (fun c hc=>by simp only [List.mem_cons,List.not_mem_nil,or_false] at hc;subst hc;exact (low_pvecs _).2 trivial) (by exact sbr0) rfl ?_
 unfold fitB
 by_cases h1:1≤l.length
 ·by_cases h2:l.length≤4096
  ·have h:=pw_anyV 256 [.ep [pvecs l] 0] (fun v => !alikeB (l.getD 0 default) v) l rfl (by omega) (by simp [low_ep,low_pvecs]) (fun k hk=>pw_fit1 l _ (by omega) (hv _ (getD_mem (by omega))) (hv _ (getD_mem hk)))
   cases e1:l.any (fun v => !alikeB (l.getD 0 default) v) <;>
   ·rw [e1] at h
    refine wk ?_
    exact retP rfl (by exact lw) (by simp [pbool,h1,h2])
  ·refine wk ?_
   exact retP rfl (by exact lw) (by simp [pbool,h2])
 ·refine wk ?_
  exact retP rfl (by exact lw) (by simp [pbool,h1])
def pivotsB (m:Int) (pv:List (List Int)):Bool:=keyB m && (fitB pv && decide (pv.length≤8))
set_option maxRecDepth 10000 in
theorem pw_arePivots (m:Int) (pv:List (List Int)) (h1:pv.length≤1000000) (hv:∀v∈pv,v.length≤1000000):PCalls Tryz.prog 227 [pint m,pvecs pv] (· = pbool (pivotsB m pv)):=by
 have a1:=pw_isMetric m
 have a2:=pw_fit pv h1 hv
 refine pcalls_of_pw typeTab_ok Tryz.func227 rfl (by kernel_rfl) (by simp [low_pvecs,low_pint]) (by simp [pvecs,pint,PV.ownB]) (by rw [Tryz.ntmps227];simp) ?_
 rw [Tryz.ntmps227,Tryz.results227]
 have hlow:∀x,Low (pvecs x):=fun x=>(low_pvecs x).2 trivial
 unfold pivotsB
 cases e1:keyB m with
 |false=>
  rw [e1] at a1
  refine wk ?_
  exact retP rfl (by exact lw) rfl
 |true=>
  rw [e1] at a1
  cases e2:fitB pv with
  |false=>
   rw [e2] at a2
   refine wk ?_
   exact retP rfl (by exact lw) rfl
  |true=>
   rw [e2] at a2
   by_cases h:pv.length≤8
   ·refine wk ?_
    exact retP rfl (by exact lw) (by simp [pbool,h])
   ·refine wk ?_
    exact retP rfl (by exact lw) (by simp [pbool,h])
theorem fitB_get {l:List (List Int)} (h:fitB l=true):(1≤l.length∧l.length≤4096)∧∀k,k < l.length→vecB (l.getD k default)=true∧(l.getD k default).length=(l.getD 0 default).length:=by
 simp only [fitB,Bool.and_eq_true,decide_eq_true_eq,Bool.not_eq_true',List.any_eq_false] at h
 refine ⟨⟨h.1,h.2.1⟩,fun k hk=>?_⟩
 have:=h.2.2 _ (getD_mem hk)
 simp [alikeB] at this
 exact ⟨this.2.2,this.1.symm⟩
def keysP (m:Int) (pv:List (List Int)) (v:List Int):List Int:=pv.map fun p=>keyV m p v
theorem keysP_take {m:Int} {pv:List (List Int)} {v:List Int} {k:Nat} (h:k < pv.length):(keysP m pv v).take (k+1)=(keysP m pv v).take k ++ [keyV m (pv.getD k default) v]:=by
 rw [List.take_add_one]
 congr 1
 simp [keysP,h]
theorem low_intsapp (n:Nat) (l:List Int) (x:Int) (own:Option TypeId):Low (.sl n 1 (l.map pint ++ [pint x]) own):=by
 refine .sl _ _ _ _ fun c hc=>?_
 rcases List.mem_append.1 hc with h|h
 ·obtain ⟨z,-,rfl⟩:=List.mem_map.1 h;exact .val _
 ·simp at h;subst h;exact .val _
theorem low_ints (n:Nat) (l:List Int) (own:Option TypeId):Low (.sl n 1 (l.map pint) own):=.sl _ _ _ _ fun c hc=>by
 obtain ⟨z,-,rfl⟩:=List.mem_map.1 hc;exact .val _
set_option maxRecDepth 10000 in
set_option maxHeartbeats 1000000 in
theorem pw_pkeys (m:Int) (pv:List (List Int)) (v:List Int) (hm:keyB m=true) (h1:pv.length≤1000000) (hp:∀k,k < pv.length→vecB (pv.getD k default)=true∧(pv.getD k default).length=v.length) (hv:vecB v=true):PCalls Tryz.prog 230 [pint m,pvecs pv,pints v] (· = pints (keysP m pv v)):=by
 have hlow:∀x,Low (pvecs x):=fun x=>(low_pvecs x).2 trivial
 obtain ⟨⟨v1,v2⟩,-⟩:=vecB_get hv
 refine PCalls.weak ?_
 refine pcalls_of_pw typeTab_ok Tryz.func230 rfl (by kernel_rfl) (by simp [low_pvecs,low_pint,low_pints]) (by simp [pvecs,pints,pint,PV.ownB]) (by rw [Tryz.ntmps230];simp) ?_
 rw [Tryz.ntmps230,Tryz.results230]
 refine wk ?_
 refine PW.loop (fun k:Nat=>((((((bot.put 0 (pint m)).put 2 (pints v)).put 7 (.sl k 1 (((keysP m pv v).take k).map pint) (some 3))).put 10 (pvecs pv)).put 11 (pint pv.length)).put 12 (pint k))) (fun k=>k≤pv.length) (fun k=>pv.length - k) 0 (by omega) ?_ ?_
 ·exact sb
 ·intro k hk
  by_cases hlt:k < pv.length
  ·obtain ⟨b1,b2⟩:=hp k hlt
   have p1:=pw_vecKey m (pv.getD k default) v hm b1 hv b2
   refine wk ?_
   refine loopP (k+1) (by omega) (by omega) ?_
   simp only [keysP_take hlt,List.map_append,List.map_cons,List.map_nil]
   have hl3:=low_intsapp (k+1) ((keysP m pv v).take k) (keyV m (pv.getD k default) v) (some 3)
   exact sb
  ·refine wk ?_
   have hkk:k=pv.length:=by omega
   refine retP (r:=.sl k 1 (((keysP m pv v).take k).map pint) none) rfl (low_ints _ _ _) ?_
   rw [List.take_of_length_le (by simp [keysP,hkk]),hkk,show pv.length=(keysP m pv v).length by simp [keysP]]
   exact Weak.refl _
def tabB (m:Int) (pv l:List (List Int)):Bool:=pivotsB m pv && (fitB l && alikeB (pv.getD 0 default) (l.getD 0 default))
def tabL (m:Int) (pv l:List (List Int)):List (List Int):=l.map (keysP m pv)
def tabP (m:Int) (pv l:List (List Int)):List (List Int)×Int:=if tabB m pv l then (tabL m pv l,0) else ([],1)
theorem tabL_take {m:Int} {pv l:List (List Int)} {k:Nat} (h:k < l.length):(tabL m pv l).take (k+1)=(tabL m pv l).take k ++ [keysP m pv (l.getD k default)]:=by
 rw [List.take_add_one]
 congr 1
 simp [tabL,h]
theorem tabB_get {m:Int} {pv l:List (List Int)} (h:tabB m pv l=true):keyB m=true∧(1≤pv.length∧pv.length≤8)∧(1≤l.length∧l.length≤4096)∧(∀i k,i < l.length→k < pv.length→(vecB (pv.getD k default)=true∧(pv.getD k default).length=(l.getD i default).length))∧∀i,i < l.length→vecB (l.getD i default)=true:=by
 simp only [tabB,pivotsB,Bool.and_eq_true,decide_eq_true_eq] at h
 obtain ⟨⟨a1,a2,a3⟩,a4,a5⟩:=h
 obtain ⟨⟨b1,b2⟩,b3⟩:=fitB_get a2
 obtain ⟨c1,c3⟩:=fitB_get a4
 simp only [alikeB,Bool.and_eq_true,decide_eq_true_eq] at a5
 refine ⟨a1,⟨b1,a3⟩,c1,fun i k hi hk=>⟨(b3 k hk).1,?_⟩,fun i hi=>(c3 i hi).1⟩
 rw [(b3 k hk).2,(c3 i hi).2,a5.1]
theorem low_pvecL (l:List (List Int)):∀c∈l.map pints,Low c:=by
 intro c hc
 obtain ⟨z,-,rfl⟩:=List.mem_map.1 hc
 simp [low_pints]
set_option maxRecDepth 10000 in
set_option maxHeartbeats 2000000 in
theorem pw_table (m:Int) (pv l:List (List Int)) (h1:pv.length≤1000000) (h2:∀v∈pv,v.length≤1000000) (h3:l.length≤1000000) (h4:∀v∈l,v.length≤1000000):PCalls Tryz.prog 141 [pint m,pvecs pv,pvecs l] (· = .tup [pvecs (tabP m pv l).1,pint (tabP m pv l).2]):=by
 have hlow:∀x,Low (pvecs x):=fun x=>(low_pvecs x).2 trivial
 have a1:=pw_arePivots m pv h1 h2
 have a2:=pw_fit l h3 h4
 refine PCalls.weak ?_
 refine pcalls_of_pw typeTab_ok Tryz.func141 rfl (by kernel_rfl) (by simp [low_pvecs,low_pint]) (by simp [pvecs,pint,PV.ownB]) (by rw [Tryz.ntmps141];simp) ?_
 rw [Tryz.ntmps141,Tryz.results141]
 have hnil:Weak (.tup [.nilsl, .val (.int .i64 1)]) (.tup [pvecs [],pint 1]):=Weak.tup (.cons (Weak.nil 1) (.cons (Weak.refl _) .nil))
 cases e1:pivotsB m pv with
 |false=>
  rw [e1] at a1
  clear a2
  refine wk ?_
  refine retP (r:=.tup [.nilsl,pint 1]) rfl (by simp [low_tup,low_nilsl,low_pint]) ?_
  simp only [tabP,tabB,e1,Bool.false_and,Bool.false_eq_true,if_false]
  exact hnil
 |true=>
  rw [e1] at a1
  cases e2:fitB l with
  |false=>
   rw [e2] at a2
   refine wk ?_
   refine retP (r:=.tup [.nilsl,pint 1]) rfl (by simp [low_tup,low_nilsl,low_pint]) ?_
   simp only [tabP,tabB,e2,Bool.false_and,Bool.and_false,Bool.false_eq_true,if_false]
   exact hnil
  |true=>
   rw [e2] at a2
   have q1:0 < pv.length:=by
    simp only [pivotsB,Bool.and_eq_true] at e1
    have:=(fitB_get e1.2.1).1;omega
   have q2:0 < l.length:=(fitB_get e2).1.1
   have a3:=pw_alike (pv.getD 0 default) (l.getD 0 default) (h2 _ (getD_mem q1)) (h4 _ (getD_mem q2))
   cases e3:alikeB (pv.getD 0 default) (l.getD 0 default) with
   |false=>
    rw [e3] at a3
    refine wk ?_
    refine retP (r:=.tup [.nilsl,pint 1]) rfl (by simp [low_tup,low_nilsl,low_pint]) ?_
    simp only [tabP,tabB,e3,Bool.and_false,Bool.false_eq_true,if_false]
    exact hnil
   |true=>
    rw [e3] at a3
    have ht:tabB m pv l=true:=by simp only [tabB,e1,e2,e3,Bool.and_self]
    obtain ⟨g1,g2,g3,g4,g5⟩:=tabB_get ht
    unfold tabP
    rw [if_pos ht]
    refine wk ?_
    refine PW.loop (fun k:Nat=>((((((bot.put 0 (pint m)).put 1 (pvecs pv)).put 8 (.sl k 1 (((tabL m pv l).take k).map pints) (some 27))).put 30 (pvecs l)).put 31 (pint l.length)).put 32 (pint k))) (fun k=>k≤l.length) (fun k=>l.length - k) 0 (by omega) ?_ ?_
    ·exact sb
    ·intro k hk
     clear a1 a2 a3
     by_cases hlt:k < l.length
     ·have p1:=pw_pkeys m pv (l.getD k default) g1 h1 (fun j hj=>g4 k j hlt hj) (g5 k hlt)
      refine wk ?_
      refine loopP (k+1) (by omega) (by omega) ?_
      simp only [tabL_take hlt,List.map_append,List.map_cons,List.map_nil]
      have hl3:Low (.sl (k+1) 1 (((tabL m pv l).take k).map pints ++ [pints (keysP m pv (l.getD k default))]) (some 27)):=by
       refine .sl _ _ _ _ fun c hc=>?_
       rcases List.mem_append.1 hc with h|h
       ·exact low_pvecL _ c h
       ·simp at h;subst h;simp [low_pints]
      exact sb
     ·refine wk ?_
      have hkk:k=l.length:=by omega
      refine retP (r:=.tup [.sl k 1 (((tabL m pv l).take k).map pints) none,pint 0]) rfl (low_tup.2 (by simp only [List.mem_cons,List.not_mem_nil,or_false];rintro c (rfl|rfl);exact .sl _ _ _ _ (low_pvecL _);exact .val _)) ?_
      rw [List.take_of_length_le (by simp [tabL,hkk]),hkk,show l.length=(tabL m pv l).length by simp [tabL]]
      exact Weak.refl _
end
end Go.Proofs.YtoamkpgaaanafaaGreat
