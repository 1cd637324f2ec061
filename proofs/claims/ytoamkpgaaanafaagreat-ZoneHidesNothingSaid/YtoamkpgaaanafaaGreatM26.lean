/- Out of: Zi, Zk, Zr, Sm, Sn, Sw. -/
import Derived.Test.YtoamkpgaaanafaaGreatIter
import Derived.Test.YtoamkpgaaanafaaGreatM23
import Derived.Test.YtoamkpgaaanafaaGreatM25
namespace Go.Proofs.YtoamkpgaaanafaaGreat
set_option linter.unusedSimpArgs false
set_option linter.unusedVariables false
set_option linter.unnecessarySimpa false
section
open Go.RowKit
set_option maxRecDepth 10000 in
theorem hc_clone1 (l:List Int) (h0:0 < l.length) (hl:l.length≤1000000):HCalls Tryz.prog 137 [pints l] [] [] (.msl 3002 0 l.length 1) [(3002,l.map pint)] []:=by
 refine hcalls_of_pw typeTab_ok Tryz.func137 rfl (by kernel_rfl) (by simp [pints,PV.ownB]) (by rw [Tryz.ntmps137];simp) (by simp [ResIds]) (by simp [ResIds]) ⟨fun p hp=>by simp only [List.mem_cons,List.not_mem_nil,or_false] at hp;subst hp;exact ((low_pints l).2 trivial).lowI,by simp,by simp, .msl _ _ _ _ (by simp [ResIds]),fun x hx c hc=>by simp only [List.mem_cons,List.not_mem_nil,or_false] at hx;subst hx;obtain ⟨z,-,rfl⟩:=List.mem_map.1 hc;exact .val _,by simp,by simp,by simp⟩ ?_
 rw [Tryz.ntmps137,Tryz.results137]
 cases l with
 |nil=>cases h0
 |cons x l=>
  have hone:((x :: l).map pint).all PV.one=true:=one_map (fun _=>rfl) _
  have hno:((x :: l).map pint).all (fun c => !c.ownB)=true:=by rw [List.all_map,List.all_eq_true];intro z _;rfl
  refine PW.seq ?_
  refine PW.region typeTab_ok (by kernel_rfl) ?_
  refine wg ?_
  refine PW.region typeTab_ok (by kernel_rfl) ?_
  refine wg ?_
  refine PW.region typeTab_ok (by kernel_rfl) ?_
  (refine ops0 ?_)
  (refine ops0 ?_)
  refine PWops.appN typeTab_ok rfl (fun _ _=>rfl) rfl rfl (.inr rfl) rfl rfl rfl rfl rfl (by omega) (by omega) h0 hone hno ?_
  refine wk ?_
  exact RetH.mk rfl (Weak.refl _) ⟨⟨_,rfl,WeakL.refl _⟩,trivial⟩ trivial
theorem hc_clone (id:Nat) (l:List Int) (h0:0 < l.length) (hl:l.length≤1000000):HCalls Tryz.prog 137 [pints l] [] [] (.msl id 0 l.length 1) [(id,l.map pint)] []:=
 (hc_clone1 l h0 hl).at [(3002,id)] (by simp) (by simp [ResIds]) (by simp) (by simp) (RenL.low (by simp [low_pints])) RenB.nil RenMs.nil (.msl _ _ _ _ (by simp [ResIds])) (RenB.cons _ _ _ _ _ (RenL.low (low_map (fun _=>Low.val _) _)) RenB.nil) RenMs.nil
def subI (x y:Int):Int:=x - y
def subK (a b:List Int) (k:Nat):List Int:=(zipI subI a b).take k ++ a.drop k
theorem subK_len {a b:List Int} {k:Nat} (h:k≤a.length):(subK a b k).length=a.length:=by
 simp [subK,zipI_len];omega
theorem subK_get {a b:List Int} {k:Nat} (h:k < a.length):(subK a b k).getD k default=a.getD k default:=by
 have hl:((zipI subI a b).take k).length=k:=by rw [List.length_take,zipI_len];omega
 rw [subK,List.getD_eq_getElem?_getD,List.getElem?_append_right (by omega),hl,Nat.sub_self,List.getElem?_drop,List.getD_eq_getElem?_getD,Nat.add_zero]
theorem subK_set {a b:List Int} {k:Nat} (h:k < a.length):(subK a b k).set k (a.getD k default - b.getD k default)=subK a b (k+1):=by
 have hl:((zipI subI a b).take k).length=k:=by rw [List.length_take,zipI_len];omega
 rw [subK,List.set_append_right _ _ (by omega),hl,Nat.sub_self,List.drop_eq_getElem_cons h,List.set_cons_zero,subK,zipI_take h]
 simp [subI]
set_option maxRecDepth 10000 in
set_option maxHeartbeats 2000000 in
theorem pw_vecSub (a b:List Int) (h0:0 < a.length) (h1:a.length≤1000000) (h2:a.length≤b.length) (h3:b.length≤1000000) (ha:∀k,-1000000≤a.getD k default∧a.getD k default≤1000000) (hb:∀k,-1000000≤b.getD k default∧b.getD k default≤1000000):PCalls Tryz.prog 107 [pints a,pints b] (· = pints (zipI subI a b)):=by
 have hc:=hc_clone 900001 a h0 h1
 refine pcalls_of_pw typeTab_ok Tryz.func107 rfl (by kernel_rfl) (by simp [low_pints]) (by simp [pints,PV.ownB]) (by rw [Tryz.ntmps107];simp) ?_
 rw [Tryz.ntmps107,Tryz.results107]
 refine wk ?_
 refine PW.loop (fun k:Nat=>(((((bot.setb 900001 ((subK a b k).map pint)).put 1 (pints b)).put 5 (.msl 900001 0 a.length 1)).put 10 (pint a.length)).put 11 (pint k))) (fun k=>k≤a.length) (fun k=>a.length - k) 0 (by omega) ?_ ?_
 ·exact sb
 ·intro k hk
  have hlen:=subK_len (b:=b) hk
  have hml:((subK a b k).map pint).length=a.length:=by rw [List.length_map,hlen]
  by_cases hlt:k < a.length
  ·have hgk:=subK_get (b:=b) hlt
   obtain ⟨a1,a2⟩:=ha k
   obtain ⟨b1,b2⟩:=hb k
   refine wk ?_
   rw [show (0+((k:Int)).toNat * 1)=k from by omega,hgk]
   refine wk ?_
   rw [show (0+((k:Int)).toNat * 1)=k from by omega,subK_set hlt]
   refine loopP (k+1) (by omega) (by omega) ?_
   have hml2:((subK a b (k+1)).map pint).length=a.length:=by rw [List.length_map,subK_len (by omega)]
   exact sb
  ·have hkk:k=a.length:=by omega
   refine PW.freeze (s:=5) (id:=900001) (n:=a.length) (k:=1) (cs:=(subK a b k).map pint) (σ':=(bot.put 10 (pint a.length)).put 11 (pint k)) rfl rfl (by simp [hlen]) (low_map (fun _=>Low.val _) _) (by exact sbr0) rfl ?_
   refine wk ?_
   refine retP (r:=.sl a.length 1 ((subK a b k).map pint) none) rfl (.sl _ _ _ _ (low_map (fun _=>Low.val _) _)) ?_
   rw [hkk,subK,List.take_of_length_le (by rw [zipI_len];omega),List.drop_length,List.append_nil,pints,zipI_len]
def absI (x:Int):Int:=max x (-x)
theorem absI_sq (x:Int):absI x * absI x=x * x:=by
 unfold absI
 rcases Int.le_total x (-x) with h|h
 ·rw [Int.max_eq_right h,Int.neg_mul_neg]
 ·rw [Int.max_eq_left h]
set_option maxRecDepth 10000 in
theorem pw_norm1 (n x:Int) (hn:Small30 n) (h1 : -5000≤x) (h2:x≤5000):PCalls Tryz.prog 187 [pint n,pint x] (· = pint (addM 1 n (absI x))):=by
 obtain ⟨h3,h4⟩:=hn
 have hdd:=sq_bound h1 h2
 have hw:IntKind.i64.wrap (0 - x) = -x:=by rw [wrap64_id (by omega) (by omega)];omega
 refine pcalls_of_pw typeTab_ok Tryz.func187 rfl (by kernel_rfl) (by simp [low_pint]) (by simp [pint,PV.ownB]) (by rw [Tryz.ntmps187];simp) ?_
 rw [Tryz.ntmps187,Tryz.results187]
 refine wk ?_
 rw [hw]
 rw [show (if true=true then if -x > x then -x else x else if -x < x then -x else x)=absI x from by simp only [if_true,absI];split<;>omega]
 have hab : -5000≤absI x∧absI x≤5000:=by unfold absI;omega
 refine wk ?_
 exact retP rfl (by exact lw) (by simp [addM,pint])
set_option maxRecDepth 10000 in
theorem pw_norm2 (n x:Int) (hn:Small30 n) (h1 : -5000≤x) (h2:x≤5000):PCalls Tryz.prog 188 [pint n,pint x] (· = pint (addM 2 n (absI x))):=by
 obtain ⟨h3,h4⟩:=hn
 have hdd:=sq_bound h1 h2
 have hw:IntKind.i64.wrap (0 - x) = -x:=by rw [wrap64_id (by omega) (by omega)];omega
 refine pcalls_of_pw typeTab_ok Tryz.func188 rfl (by kernel_rfl) (by simp [low_pint]) (by simp [pint,PV.ownB]) (by rw [Tryz.ntmps188];simp) ?_
 rw [Tryz.ntmps188,Tryz.results188]
 refine wk ?_
 exact retP rfl (by exact lw) (by simp [addM,pint,absI_sq])
set_option maxRecDepth 10000 in
theorem pw_norm3 (n x:Int) (hn:Small30 n) (h1 : -5000≤x) (h2:x≤5000):PCalls Tryz.prog 189 [pint n,pint x] (· = pint (addM 3 n (absI x))):=by
 obtain ⟨h3,h4⟩:=hn
 have hdd:=sq_bound h1 h2
 have hw:IntKind.i64.wrap (0 - x) = -x:=by rw [wrap64_id (by omega) (by omega)];omega
 refine pcalls_of_pw typeTab_ok Tryz.func189 rfl (by kernel_rfl) (by simp [low_pint]) (by simp [pint,PV.ownB]) (by rw [Tryz.ntmps189];simp) ?_
 rw [Tryz.ntmps189,Tryz.results189]
 refine wk ?_
 rw [hw]
 refine retP rfl (by exact lw) ?_
 simp only [if_true,pint,addM,absI]
 congr 2
 repeat' split
 all_goals omega
theorem absI_bound {x:Int} (h : -5000≤x∧x≤5000) : -5000≤absI x∧absI x≤5000:=by unfold absI;omega
def normI (m:Int) (v:List Int):Int:=keyD m (v.map absI)
theorem normI_eq (m:Int) (v:List Int):v.foldl (fun n x=>addM m n (absI x)) 0=normI m v:=by rw [normI,keyD,List.foldl_map]
theorem norm_small {m:Int} {v:List Int} (hd:∀d∈v,-5000≤d∧d≤5000) (hl:v.length≤1000):Small30 (v.foldl (fun n x=>addM m n (absI x)) 0):=by
 rw [normI_eq]
 have:=keyD_bound m (v.map absI) (fun d h=>by obtain ⟨x,hx,rfl⟩:=List.mem_map.1 h;exact absI_bound (hd x hx)) 0 0 (by simp)
 unfold Small30 normI keyD
 simp only [List.length_map] at this
 omega
set_option maxRecDepth 10000 in
set_option maxHeartbeats 2000000 in
theorem pw_norm (m:Int) (v:List Int) (hm:keyB m=true) (hl:v.length≤1000) (hv:∀k,-5000≤v.getD k default∧v.getD k default≤5000):PCalls Tryz.prog 106 [pint m,pints v] (· = pint (normI m v)):=by
 have hv' : ∀d∈v,-5000≤d∧d≤5000:=fun d hd=>by
  obtain ⟨j,hj,rfl⟩:=List.getElem_of_mem hd
  have:=hv j
  rwa [List.getD_eq_getElem?_getD,List.getElem?_eq_getElem hj] at this
 have hsm:∀(m:Int) k,Small30 ((v.take k).foldl (fun n x=>addM m n (absI x)) 0):=fun m k=>norm_small (fun d h=>hv' d (List.mem_of_mem_take h)) (by simp;omega)
 have f1:=pw_foldI 187 (fun n x=>addM 1 n (absI x)) v 0 rfl (by omega) (fun k _=>pw_norm1 _ _ (hsm 1 k) (hv k).1 (hv k).2)
 have f2:=pw_foldI 188 (fun n x=>addM 2 n (absI x)) v 0 rfl (by omega) (fun k _=>pw_norm2 _ _ (hsm 2 k) (hv k).1 (hv k).2)
 have f3:=pw_foldI 189 (fun n x=>addM 3 n (absI x)) v 0 rfl (by omega) (fun k _=>pw_norm3 _ _ (hsm 3 k) (hv k).1 (hv k).2)
 rw [normI_eq] at f1 f2 f3
 refine pcalls_of_pw typeTab_ok Tryz.func106 rfl (by kernel_rfl) (by simp [low_pint,low_pints]) (by simp [pint,pints,PV.ownB]) (by rw [Tryz.ntmps106];simp) ?_
 rw [Tryz.ntmps106,Tryz.results106]
 clear hsm hv'
 simp only [keyB,Bool.and_eq_true,decide_eq_true_eq] at hm
 rcases (show m=1∨m=2∨m=3 by omega) with rfl|rfl|rfl
 ·clear f2 f3
  refine wk ?_
  refine PWops.mkMG rfl rfl rfl rfl ?_
  refine PWops.mins rfl rfl rfl rfl rfl rfl rfl rfl rfl rfl rfl rfl rfl ?_
  refine PWops.mins rfl rfl rfl rfl rfl rfl rfl rfl rfl rfl rfl rfl rfl ?_
  refine PWops.mins rfl rfl rfl rfl rfl rfl rfl rfl rfl rfl rfl rfl rfl ?_
  refine wk ?_
  exact retP rfl (by exact lw) rfl
 ·clear f1 f3
  refine wk ?_
  refine PWops.mkMG rfl rfl rfl rfl ?_
  refine PWops.mins rfl rfl rfl rfl rfl rfl rfl rfl rfl rfl rfl rfl rfl ?_
  refine PWops.mins rfl rfl rfl rfl rfl rfl rfl rfl rfl rfl rfl rfl rfl ?_
  refine PWops.mins rfl rfl rfl rfl rfl rfl rfl rfl rfl rfl rfl rfl rfl ?_
  refine wk ?_
  exact retP rfl (by exact lw) rfl
 ·clear f1 f2
  refine wk ?_
  refine PWops.mkMG rfl rfl rfl rfl ?_
  refine PWops.mins rfl rfl rfl rfl rfl rfl rfl rfl rfl rfl rfl rfl rfl ?_
  refine PWops.mins rfl rfl rfl rfl rfl rfl rfl rfl rfl rfl rfl rfl rfl ?_
  refine PWops.mins rfl rfl rfl rfl rfl rfl rfl rfl rfl rfl rfl rfl rfl ?_
  refine wk ?_
  exact retP rfl (by exact lw) rfl
def keyV (m:Int) (a b:List Int):Int:=normI m (zipI subI a b)
set_option maxRecDepth 10000 in
theorem pw_vecKey (m:Int) (a b:List Int) (hm:keyB m=true) (ha:vecB a=true) (hb:vecB b=true) (hl:a.length=b.length):PCalls Tryz.prog 41 [pint m,pints a,pints b] (· = pint (keyV m a b)):=by
 obtain ⟨⟨a1,a2⟩,a3⟩:=vecB_get ha
 obtain ⟨⟨b1,b2⟩,b3⟩:=vecB_get hb
 have h1:=pw_vecSub a b (by omega) (by omega) (by omega) (by omega) (fun k=>by have:=a3 k;omega) (fun k=>by have:=b3 k;omega)
 have h2:=pw_norm m (zipI subI a b) hm (by rw [zipI_len];omega) (fun k=>by
  rcases Nat.lt_or_ge k a.length with hk|hk
  ·have e:(zipI subI a b).getD k default=a.getD k default - b.getD k default:=by
    simp [zipI,subI,List.getD_eq_getElem?_getD,hk]
   rw [e]
   have:=a3 k;have:=b3 k;omega
  ·rw [List.getD_eq_getElem?_getD,List.getElem?_eq_none (by rw [zipI_len];exact hk)];decide)
 refine pcalls_of_pw typeTab_ok Tryz.func41 rfl (by kernel_rfl) (by simp [low_pint,low_pints]) (by simp [pint,pints,PV.ownB]) (by rw [Tryz.ntmps41];simp) ?_
 rw [Tryz.ntmps41,Tryz.results41]
 refine wk ?_
 exact retP rfl (by exact lw) rfl
theorem shellB_iff {s:PShell} : shellB s=true↔0≤s.lo∧s.lo≤s.hi∧s.hi≤134217728:=by
 have e1:allP.lo=0:=rfl
 have e2:allP.hi=134217728:=rfl
 simp only [shellB,hasP,Bool.and_eq_true,decide_eq_true_eq]
 omega
theorem shellsB_get {l:List PShell} (h:shellsB l=true):l.length≤8∧∀k,k < l.length→shellB (l.getD k default)=true:=by
 simp only [shellsB,Bool.and_eq_true,decide_eq_true_eq,List.all_eq_true] at h
 refine ⟨h.2,fun k hk=>h.1 _ ?_⟩
 rw [List.getD_eq_getElem?_getD,List.getElem?_eq_getElem hk];exact List.getElem_mem hk
def joinS (a b:List PShell):List PShell:=(List.range a.length).map fun k=>⟨min (min (a.getD k default).lo (b.getD k default).lo) (b.getD k default).hi,max (max (a.getD k default).hi (b.getD k default).lo) (b.getD k default).hi⟩
def shJoin (a b:List PShell):List PShell×Int:=if shellsB a && (shellsB b && decide (a.length=b.length)) then (joinS a b,0) else ([],1)
theorem low_shapp (n:Nat) (l:List PShell) (x:PShell) (own:Option TypeId):Low (.sl n 2 (l.flatMap pshL ++ pshL x) own):=by
 refine .sl _ _ _ _ fun c hc=>?_
 rcases List.mem_append.1 hc with h|h
 ·obtain ⟨z,-,hz⟩:=List.mem_flatMap.1 h;exact low_pshL z c hz
 ·exact low_pshL x c h
theorem low_shown (n:Nat) (l:List PShell) (own:Option TypeId):Low (.sl n 2 (l.flatMap pshL) own):=by
 refine .sl _ _ _ _ fun c hc=>?_
 obtain ⟨z,-,hz⟩:=List.mem_flatMap.1 hc;exact low_pshL z c hz
def alikeB (a b:List Int):Bool:=decide (a.length=b.length) && (vecB a && vecB b)
set_option maxRecDepth 10000 in
theorem pw_alike (a b:List Int) (h1:a.length≤1000000) (h2:b.length≤1000000):PCalls Tryz.prog 229 [pints a,pints b] (· = pbool (alikeB a b)):=by
 have hv:=pw_vecValid a h1
 have hw:=pw_vecValid b h2
 refine pcalls_of_pw typeTab_ok Tryz.func229 rfl (by kernel_rfl) (by simp [low_pints]) (by simp [pints,PV.ownB]) (by rw [Tryz.ntmps229];simp) ?_
 rw [Tryz.ntmps229,Tryz.results229]
 unfold alikeB
 by_cases e1:a.length=b.length
 ·cases e2:vecB a with
  |false=>
   rw [e2] at hv
   clear hw
   refine wk ?_
   exact retP rfl (by exact lw) (by simp [pbool])
  |true=>
   rw [e2] at hv
   cases e3:vecB b <;>
   ·rw [e3] at hw
    refine wk ?_
    exact retP rfl (by exact lw) (by simp [pbool,e1])
 ·refine wk ?_
  exact retP rfl (by exact lw) (by simp [pbool,e1])
def fitB (l:List (List Int)):Bool:=decide (1≤l.length) && (decide (l.length≤4096) && !l.any fun v => !alikeB (l.getD 0 default) v)
set_option maxRecDepth 10000 in
theorem pw_fit1 (l:List (List Int)) (v:List Int) (hl:0 < l.length) (h0:(l.getD 0 default).length≤1000000) (hv:v.length≤1000000):PCalls Tryz.prog 256 [pints v, .ep [pvecs l] 0] (· = pbool (!alikeB (l.getD 0 default) v)):=by
 have h:=pw_alike (l.getD 0 default) v h0 hv
 have hlow:Low (.ep [pvecs l] 0):=by simp [low_ep,low_pvecs]
 refine pcalls_of_pw typeTab_ok Tryz.func256 rfl (by kernel_rfl) (by simp [low_pints,hlow]) (by simp [pints,PV.ownB]) (by rw [Tryz.ntmps256];simp) ?_
 rw [Tryz.ntmps256,Tryz.results256]
 cases e1:alikeB (l.getD 0 default) v <;>
 ·rw [e1] at h
  refine wk ?_
  exact retP rfl (by exact lw) rfl
theorem getD_mem {α:Type} [Inhabited α] {l:List α} {k:Nat} (h:k < l.length):l.getD k default∈l:=by
 rw [List.getD_eq_getElem?_getD,List.getElem?_eq_getElem h];exact List.getElem_mem h
set_option maxRecDepth 10000 in
set_option maxHeartbeats 1000000 in
theorem pw_fit (l:List (List Int)) (hl:l.length≤1000000) (hv:∀v∈l,v.length≤1000000):PCalls Tryz.prog 228 [pvecs l] (· = pbool (fitB l)):=by
 refine pcalls_of_pw typeTab_ok Tryz.func228 rfl (by kernel_rfl) (by simp [low_pvecs]) (by simp [pvecs,PV.ownB]) (by rw [Tryz.ntmps228];simp) ?_
 rw [Tryz.ntmps228,Tryz.results228]
 refine PW.seq ?_
 refine PW.region typeTab_ok (by kernel_rfl) ?_
 refine wg ?_
 refine PW.freezeP (id:=0) (s:=1) (off:=0) (σ':=bot) rfl rfl (fun c hc=>by simp only [List.mem_cons,List.not_mem_nil,or_false] at hc;subst hc;exact (low_pvecs _).2 trivial) (by exact sbr0) rfl ?_
 unfold fitB
 by_cases h1:1≤l.length
 ·by_cases h2:l.length≤4096
  ·have h:=pw_anyV 256 [.ep [pvecs l] 0] (fun v => !alikeB (l.getD 0 default) v) l rfl (by omega) (by simp [low_ep,low_pvecs]) (fun k hk=>pw_fit1 l _ (by omega) (hv _ (getD_mem (by omega))) (hv _ (getD_mem hk)))
   cases e1:l.any (fun v => !alikeB (l.getD 0 default) v) <;>
   ·rw [e1] at h
    refine wk ?_
    exact retP rfl (by exact lw) (by simp [pbool,h1,h2])
  ·refine wk ?_
   exact retP rfl (by exact lw) (by simp [pbool,h2])
 ·refine wk ?_
  exact retP rfl (by exact lw) (by simp [pbool,h1])
def fldR (s:PSchema) (a b:PSum) (k:Nat):List PV := [.agg (pdefL (s.defs.getD k default)), .agg (pfldL (a.fields.getD k default) ++ pfldL (b.fields.getD k default))]
def fldsL (s:PSchema) (a b:PSum):List (List PV):=(List.range s.defs.length).map (fldR s a b)
theorem fldsL_len (s:PSchema) (a b:PSum):(fldsL s a b).length=s.defs.length:=by simp [fldsL]
theorem fldsL_take {s:PSchema} {a b:PSum} {k:Nat} (h:k < s.defs.length):(fldsL s a b).take (k+1)=(fldsL s a b).take k ++ [fldR s a b k]:=by
 rw [List.take_add_one]
 congr 1
 simp [fldsL,h]
theorem low_fldR (s:PSchema) (a b:PSum) (k:Nat):∀c∈fldR s a b k,Low c:=by
 intro c hc
 simp only [fldR,List.mem_cons,List.not_mem_nil,or_false] at hc
 rcases hc with rfl|rfl
 ·exact low_pdef _
 ·refine .agg _ fun c hc=>?_
  rcases List.mem_append.1 hc with h|h<;>exact low_pfldL _ c h
set_option maxRecDepth 10000 in
set_option maxHeartbeats 2000000 in
theorem it_fields (s:PSchema) (a b:PSum) (h0:s.defs.length≤1000000) (h1:s.defs.length≤a.fields.length) (h2:s.defs.length≤b.fields.length) (h3:a.fields.length≤1000000) (h4:b.fields.length≤1000000) :
  ItSpec Tryz.prog 184 [.ep (schCellsP s) 0, .ep (psumL a) 0, .ep (psumL b) 0] (Part (fldsL s a b)) (· = fldsL s a b):=by
 have hlow1:Low (.ep (schCellsP s) 0):=.ep _ _ (low_schCells s)
 have hlow2:Low (.ep (psumL a) 0):=.ep _ _ (low_psumL a)
 have hlow3:Low (.ep (psumL b) 0):=.ep _ _ (low_psumL b)
 refine itspec_of_pwj typeTab_ok Tryz.func184 rfl (by kernel_rfl) (by simp [hlow1,hlow2,hlow3]) (by simp [PV.ownB]) (by rw [Tryz.ntmps184];simp) ?_
 intro E Φ0 W l hgiv hy hr
 rw [Tryz.ntmps184,Tryz.results184]
 refine jw0 ?_
 refine PWJ.of_pw ?_
 refine wk ?_
 refine jw0 ?_
 refine PWJ.loop (fun k:Nat=>(((((((bot.put 0 (.val (.func (.yield l) #[] #[]))).put 1 (.ep (schCellsP s) 0)).put 2 (.ep (psumL a) 0)).put 3 (.ep (psumL b) 0)).put 8 (pdefs s.defs)).put 9 (pint s.defs.length)).put 10 (pint k))) (fun k=>some ((fldsL s a b).take k)) (fun k=>k≤s.defs.length) (fun k=>s.defs.length - k) 0 (by omega) ?_ (by simp) ?_
 ·exact sb
 ·intro k hk
  by_cases hlt:k < s.defs.length
  ·refine jw0 ?_
   refine PWJ.of_pw ?_
   refine wk ?_
   refine jw0 ?_
   refine PWJ.of_pw ?_
   refine wk ?_
   refine jw0 ?_
   have hlr:=low_fldR s a b k
   refine PWJ.drawN 13 (x:=fldR s a b k) (d:=28) typeTab_ok (by kernel_rfl) hgiv hy hr (by kernel_rfl) (by kernel_rfl) (by rfl) (by rfl) ?_
   refine wk ?_
   refine ⟨⟨rfl,by decide,⟨_,_,rfl,rfl,rfl,rfl⟩,rfl,hlr,⟨k+1,(fldsL_take hlt).symm⟩,fun id bs e=>?_,fun id es c e=>(by cases e)⟩,fun b' => ?_⟩
   ·intro c hc
    by_cases hid:id=2003
    ·subst hid
     cases e
     simp only [List.mem_cons,List.not_mem_nil,or_false] at hc
     rcases hc with rfl|rfl|rfl|rfl|rfl<;>rfl
    ·have hb:Nat.beq id 2003=false:=by rw [←Bool.not_eq_true,Nat.beq_eq];exact hid
     simp [PS.setb,PS.put,bot,upd,hb] at e
   cases b' with
   |true=>
    refine wk ?_
    refine jw0 ?_
    refine PWJ.of_pw ?_
    refine wk ?_
    refine jw0 ?_
    refine loopJ (k+1) (by omega) (by omega) ?_ ?_
    ·exact sb
    ·simp only [if_true];rw [fldsL_take hlt]
   |false=>
    refine wk ?_
    refine jw0 ?_
    exact ⟨⟨_,rfl⟩,fun xs e=>by simp at e⟩
  ·refine jw0 ?_
   refine PWJ.of_pw ?_
   refine wk ?_
   refine jw0 ?_
   exact ⟨⟨_,rfl⟩,fun xs e=>by simp at e;rw [←e];exact List.take_of_length_le (by rw [fldsL_len];omega)⟩
def sIdx (s:ByteArray):List ByteArray→Nat→Option Nat
 | [],_=>none
 |k :: l,n=>if s == k then some n else sIdx s l (n+1)
theorem sIdx_some {s:ByteArray} : ∀{l:List ByteArray} {n j:Nat},sIdx s l n=some j→n≤j∧l[j - n]? = some s
 | [],n,j,h=>by cases h
 |k :: l,n,j,h=>by
  simp only [sIdx] at h
  split at h
  ·rename_i e
   cases h
   exact ⟨Nat.le_refl _,by simp [(ba_beq s k).1 e]⟩
  ·obtain ⟨h1,h2⟩:=sIdx_some h
   exact ⟨by omega,by rw [show j - n=(j - (n+1))+1 by omega];simpa using h2⟩
theorem sIdx_none {s:ByteArray} : ∀{l:List ByteArray} {n:Nat},sIdx s l n=none→s∉l
 | [],n,h=>by simp
 |k :: l,n,h=>by
  simp only [sIdx] at h
  split at h
  ·cases h
  ·rename_i e
   have:=sIdx_none h
   simp only [List.mem_cons,not_or]
   exact ⟨fun e2=>e ((ba_beq s k).2 e2),this⟩
theorem mfind_str (s:ByteArray):∀(l:List (Nat×ByteArray)) (n:Nat),mfind .str (.string s) (l.map fun e=>(e.1,pstr e.2,pbool true)) n=some (sIdx s (l.map (·.2)) n)
 | [],n=>rfl
 |(i,k) :: l,n=>by
  simp only [List.map_cons,pstr,mfind,veq,sIdx]
  cases h:s == k with
  |true=>simp
  |false=>
   simp only [Bool.false_eq_true,if_false]
   exact mfind_str s l (n+1)
def smI (ks:List ByteArray):List (Nat×ByteArray):=(List.range ks.length).map fun i=>(i,ks.getD i default)
def smE (ks:List ByteArray):List (Nat×PV×PV):=(smI ks).map fun e=>(e.1,pstr e.2,pbool true)
def smL (ks:List ByteArray):PMap:=.map (smE ks) ks.length
theorem smI_snd (ks:List ByteArray):(smI ks).map (·.2)=ks:=by
 apply List.ext_getElem?
 intro i
 simp only [smI,List.map_map,List.getElem?_map]
 by_cases h:i < ks.length
 ·simp [List.getElem?_range h,h]
 ·rw [List.getElem?_eq_none (by simpa using h),List.getElem?_eq_none (by simpa using h)];rfl
theorem smE_len (ks:List ByteArray):(smE ks).length=ks.length:=by simp [smE,smI]
theorem smE_get {ks:List ByteArray} {i:Nat} {k:ByteArray} (h:ks[i]? = some k):(smE ks)[i]? = some (i,pstr k,pbool true):=by
 obtain ⟨hi,rfl⟩:=List.getElem?_eq_some_iff.1 h
 simp [smE,smI,List.getElem?_range hi,hi]
theorem smE_app (ks:List ByteArray) (s:ByteArray):smE (ks ++ [s])=smE ks ++ [(ks.length,pstr s,pbool true)]:=by
 simp only [smE,smI,List.length_append,List.length_singleton,List.range_succ,List.map_append,List.map_cons,List.map_nil]
 congr 1
 ·rw [List.map_map,List.map_map]
  apply List.map_congr_left
  intro i hi
  have hi' : i < ks.length:=by simpa using hi
  simp [List.getElem?_append_left hi']
 ·simp
open Classical in
noncomputable def addK (ks:List ByteArray) (s:ByteArray):List ByteArray:=if s∈ks then ks else ks ++ [s]
theorem addK_mem {ks:List ByteArray} {s x:ByteArray} : x∈addK ks s↔x∈ks∨x=s:=by
 unfold addK
 split
 ·constructor
  ·exact .inl
  ·rintro (h|rfl)
   ·exact h
   ·assumption
 ·simp
theorem addK_nodup {ks:List ByteArray} (s:ByteArray) (h:ks.Nodup):(addK ks s).Nodup:=by
 unfold addK
 split
 ·exact h
 ·rename_i hs
  rw [List.nodup_append]
  exact ⟨h,by simp,fun a ha b hb=>by simp at hb;subst hb;rintro rfl;exact hs ha⟩
theorem addK_len (ks:List ByteArray) (s:ByteArray):(addK ks s).length≤ks.length+1:=by
 unfold addK;split<;>simp
theorem sm_mput (ks:List ByteArray) (s:ByteArray) {ki:TyI} (hk:ki.kind = .str):mput ki (smE ks) ks.length (.string s) (pbool true)=some (smL (addK ks s)):=by
 unfold mput addK
 simp only [hk,keyOK,skT,if_true,smE,mfind_str,smI_snd]
 cases h:sIdx s ks 0 with
 |none=>
  rw [if_neg (sIdx_none h)]
  simp only [smL,smE_app,List.length_append,List.length_singleton]
  rfl
 |some j=>
  obtain ⟨-,h2⟩:=sIdx_some h
  rw [Nat.sub_zero] at h2
  have h3:=smE_get h2
  have hm:s∈ks:=List.mem_of_getElem? h2
  rw [if_pos hm]
  have h4:((smI ks).map fun e=>(e.1,pstr e.2,pbool true))[j]? = some (j,pstr s,pbool true):=h3
  simp only [h4]
  simp only [smL,smE]
  congr 2
  obtain ⟨hj,h5⟩:=List.getElem?_eq_some_iff.1 h4
  have:(j,PV.val (.string s),pbool true)=((smI ks).map fun e=>(e.1,pstr e.2,pbool true))[j]:=h5.symm
  rw [this,List.set_getElem_self]
def sortS (ks:List ByteArray):List ByteArray:=((ks.map fun k=>k.data.toList).mergeSort leB).map fun x=>⟨x.toArray⟩
theorem sortS_perm (ks:List ByteArray):(sortS ks).Perm ks:=by
 have h:=(List.mergeSort_perm (ks.map fun k=>k.data.toList) leB).map fun x:List UInt8=>(⟨x.toArray⟩:ByteArray)
 rw [List.map_map] at h
 have e:((fun x:List UInt8=>(⟨x.toArray⟩:ByteArray)) ∘ fun k:ByteArray=>k.data.toList)=id:=by funext k;rfl
 rw [e,List.map_id] at h
 exact h
def smR:Value→Option (DataW Unit×List MemPlace):=fun _=>some (.nil,[])
theorem sm_owns {w:World} {g:Nat} {ents:Array MapEntry} {ks:List ByteArray} (hb:w.heap[g]? = some (.map ents ks.length)) (hsz:ents.size=ks.length) (hnd:ks.Nodup) (hl:ks.length≤1000000) (hs:∀k∈ks,k.size≤1000000000)
  (he:∀(j:Nat) k,ks[j]? = some k→∃e,ents[j]? = some e∧e.born=j∧e.key = .string k):∃D,w.ownsMap Tryz.prog 9 smR g ks.length D∧(strKeys D).Perm (ks.map fun k=>k.data.toList)∧Maps.size D=ks.length:=by
 have hu:Tryz.prog.underlying 9=some .string:=Tryz.underlying9
 have hkeys:ents.toList.map (·.key)=ks.map Value.string:=by
  apply List.ext_getElem?
  intro j
  simp only [List.getElem?_map,Array.getElem?_toList]
  by_cases hj:j < ks.length
  ·obtain ⟨e,h1,-,h3⟩:=he j ks[j] (List.getElem?_eq_getElem hj)
   rw [h1,List.getElem?_eq_getElem hj];simp [h3]
  ·rw [Array.getElem?_eq_none (by omega),List.getElem?_eq_none (by omega)];rfl
 have hborn:ents.toList.map (·.born)=List.range ks.length:=by
  apply List.ext_getElem?
  intro j
  simp only [List.getElem?_map,Array.getElem?_toList]
  by_cases hj:j < ks.length
  ·obtain ⟨e,h1,h2,-⟩:=he j ks[j] (List.getElem?_eq_getElem hj)
   rw [h1,List.getElem?_range hj];simp [h2]
  ·rw [Array.getElem?_eq_none (by omega),List.getElem?_eq_none (by simp;omega)];rfl
 have hrd:∀x∈ents.toList,∃k∈ks,x.key = .string k∧WideElems.rd Tryz.prog 9 smR x=some (.string k.data.toList, .nil):=by
  intro x hx
  have h1:x.key∈ents.toList.map (·.key):=List.mem_map.2 ⟨x,hx,rfl⟩
  rw [hkeys] at h1
  obtain ⟨k,hk,h2⟩:=List.mem_map.1 h1
  refine ⟨k,hk,h2.symm,?_⟩
  have hsk:k.size≤maxLen:=by have:=hs k hk;unfold maxLen;omega
  simp [WideElems.rd,smR,keyOf,mapKey,hu,←h2,hsk]
 refine ⟨_,⟨ents,ks.length,hb,⟨by rw [hsz];unfold maxLen;omega,⟨fun x hx=>?_,by rw [hborn];exact List.nodup_range,?_⟩,fun x hx=>?_⟩,by omega,rfl⟩,?_,?_⟩
 ·have h1:x.born∈ents.toList.map (·.born):=List.mem_map.2 ⟨x,hx,rfl⟩
  rw [hborn] at h1
  simpa using h1
 ·rw [hkeys]
  exact List.Pairwise.map _ (fun a b hab=>by simpa using hab) hnd
 ·obtain ⟨k,-,-,h⟩:=hrd x hx
  exact ⟨_,h⟩
 ·show (((ents.toList.map (WideElems.rg Tryz.prog 9 smR)).foldr DataW.insert []).map fun p=>Go.strOf p.1).Perm _
  refine ((Go.WideShapes.sorted_perm _).map _).trans ?_
  rw [List.map_map]
  have:ents.toList.map ((fun p:Lit×DataW Unit=>Go.strOf p.1) ∘ WideElems.rg Tryz.prog 9 smR)=(ents.toList.map (·.key)).map fun v=>match v with | .string k=>k.data.toList|_ => []:=by
   rw [List.map_map]
   apply List.map_congr_left
   intro x hx
   obtain ⟨k,-,h1,h2⟩:=hrd x hx
   simp [WideElems.rg,h2,h1,Go.strOf]
  rw [this,hkeys,List.map_map]
  exact .refl _
 ·show ((ents.toList.map (WideElems.rg Tryz.prog 9 smR)).foldr DataW.insert []).length=_
  rw [(Go.WideShapes.sorted_perm _).length_eq];simp [hsz]
set_option maxRecDepth 100000 in
set_option maxHeartbeats 1000000 in
theorem sorted_calls {w:World} {g:Nat} {ents:Array MapEntry} {ks:List ByteArray} (hb:w.heap[g]? = some (.map ents ks.length)) (hsz:ents.size=ks.length) (hnd:ks.Nodup) (hl:ks.length≤1000000) (hs:∀k∈ks,k.size≤1000000000)
  (he:∀(j:Nat) k,ks[j]? = some k→∃e,ents[j]? = some e∧e.born=j∧e.key = .string k):Calls Tryz.prog 112 #[.map (some g)] w fun e w' => ∃v,e = .returned v∧Own w.heap.size 9 w' v ((sortS ks).map Value.string)∧Below w.heap.size w w':=by
 obtain ⟨D,hD,hperm,hsize⟩:=sm_owns hb hsz hnd hl hs he
 go_enter Tryz.func112,Tryz.ntmps112
 go_wp2_with (first
  |(go_at_call 195;refine (callsIn_wide.1 (Tryz.maps_Keys_195 _ _)).mono ?_;rintro e w' ⟨rfl,rfl⟩)
  |(go_at_call 194;refine (callsIn_wide.1 (Tryz.slices_Sorted_keys_194_195 g ks.length D smR w hD (by rw [hsize];unfold maxLen;omega) (by omega))).mono ?_;rintro e w' ⟨v,ss,rfl,hS,hrow,hnil,hbl⟩))
 go_ret
 have hb0:=below_alloc w (.cells #[.map (some g)] 164)
 have hbl' : Below w.heap.size w w':=hb0.trans (hbl.mono hb0.size)
 refine ⟨v,rfl,?_,hbl'⟩
 have e1:(sortS ks).map Value.string=(ss.mergeSort leB).map Go.Proofs.encStr:=by
  rw [mergeSort_of_perm (hS.trans hperm)]
  simp [sortS,List.map_map,Function.comp_def,Go.Proofs.encStr]
 have e2:(sortS ks).length=ss.length:=by
  have:=congrArg List.length e1
  simpa using this
 obtain ⟨r1,r2⟩:=hrow
 unfold Own
 rw [e1]
 refine ⟨by simp,?_⟩
 rcases r2 with ⟨h1,h2⟩|⟨g',cap,cur,h1,h2,h3⟩
 ·exact .inl ⟨h1,by simp [h2]⟩
 ·refine .inr ⟨g',cap,cur,?_,Nat.le_trans hb0.size h2,?_⟩
  ·rw [h1];simp
  ·simpa using h3
theorem hc_sorted (ks:List ByteArray) (hnd:ks.Nodup) (hl:ks.length≤1000000) (hs:∀k∈ks,k.size≤1000000000) (id:Nat):HCalls Tryz.prog 112 [.mref id] [] [(id,smL ks)] (pstrs (sortS ks)) [] [(id,smL ks)]:=by
 refine ⟨by kernel_rfl,fun Φ μ ω w vs himm hgl hrep _ hgm hlt=>?_⟩
 have hl1:=hrep.1
 match vs,hl1 with
 | [v],_=>
 obtain ⟨g,hg,rfl⟩:=(hrep.2 0 _ v rfl rfl).mref_inv
 obtain ⟨g',h1,h2,h3,h4,h5⟩:=hgm (id,smL ks) (by simp)
 simp only at h1 h3 h4 h5
 rw [hg] at h1
 cases h1
 obtain ⟨hst,ents,hh,hsz,hent⟩:=h5
 rw [smE_len] at hsz
 have hlt':=hlt g _ h3
 have he:∀(j:Nat) k,ks[j]? = some k→∃e,ents[j]? = some e∧e.born=j∧e.key = .string k:=fun j k hk=>by
  obtain ⟨e,e1,e2,e3,-⟩:=hent j _ _ _ (smE_get hk)
  obtain ⟨e4,-⟩:=e3.val_inv
  exact ⟨e,e1,e2,e4⟩
 refine (sorted_calls hh hsz hnd hl hs he).mono ?_
 rintro e w' ⟨v,rfl,ho,hbl⟩
 obtain ⟨Φ',p1,p2,p3,-⟩:=own_rep himm (f:=Value.string) (fun _=>rfl) ho hbl
 have hgiv:Giv ω (ResIds [] [(id,smL ks)]) g:=⟨id,by simp [ResIds], .box id, .inl rfl,h3⟩
 have hΦ:∀b o u,Φ b o=some u→Φ' b o=some u:=fun b o u e=>by
  rw [p2 b o (World.block_lt_of_cell? _ _ (himm b o u e))];exact e
 refine ⟨v,Φ',fun i=>if i=id then μ i else none,fun g' => if g' = g then some (.box id) else none,rfl,?_,p1,hΦ,fun b o hb _=>p2 b o hb,⟨hbl.os,hbl.tape,hbl.output,hbl.size,fun k hk=>hbl.block k hk.1⟩,fun i hi=>?_,fun i g' e=>?_,fun x hx=>by simp at hx,fun x hx=>?_,fun g' p e=>?_,fun n k cs E e=>by cases e⟩
 ·exact (p3.mono (fun _ _ _ h=>h) (fun i g h=>by simp [mu0] at h)).bare
 ·simp [ResIds] at hi;subst hi;simp
 ·by_cases hi:i=id
  ·subst hi;simp [ResIds]
  ·simp [hi] at e
 ·simp only [List.mem_cons,List.not_mem_nil,or_false] at hx
  subst hx
  refine ⟨g,by simp [hg], .inr hgiv,by simp,fun j=>by rw [p2 g j hlt'];exact h4 j,hst,ents,by rw [hbl.block g hlt'];exact hh,by rw [smE_len];exact hsz,fun j s k c hj=>?_⟩
  obtain ⟨e,e1,e2,e3,e4,-⟩:=hent j s k c hj
  obtain ⟨y,hy,he2⟩:∃y,ks[j]? = some y∧(s,k,c)=(j,pstr y,pbool true):=by
   have hjl:j < ks.length:=by
    have:=(List.getElem?_eq_some_iff.1 hj).1
    rwa [smE_len] at this
   refine ⟨ks[j],List.getElem?_eq_getElem hjl,?_⟩
   rw [smE_get (List.getElem?_eq_getElem hjl)] at hj
   exact (Option.some.inj hj).symm
  cases he2
  obtain ⟨e5,-⟩:=e3.val_inv
  obtain ⟨e6,-⟩:=e4.val_inv
  exact ⟨e,e1,e2,by rw [e5];exact .val _ rfl,by rw [e6];exact .val _ rfl,fun n kk cs E ec=>by cases ec⟩
 ·by_cases hg' : g' = g
  ·subst hg'
   exact ⟨Nat.lt_of_lt_of_le hlt' hbl.size, .inr hgiv⟩
  ·simp [hg'] at e
theorem bl_lt:∀a b:List UInt8,Op.bytesLess a b=true↔a < b
 |a,[]=>by cases a<;>simp [Op.bytesLess]
 | [],b :: y=>by simp [Op.bytesLess]
 |a :: x,b :: y=>by
  simp only [Op.bytesLess,Bool.or_eq_true,Bool.and_eq_true,decide_eq_true_eq,beq_iff_eq,List.cons_lt_cons_iff,bl_lt x y]
theorem ltB_iff (a b:ByteArray):ltB a b↔a.data.toList < b.data.toList:=by
 unfold ltB
 rw [ByteArray.toList_eq,ByteArray.toList_eq,bl_lt]
theorem ltB_irrefl (a:ByteArray):¬ltB a a:=fun h=>by
 unfold ltB at h
 rw [bl_irrefl] at h;cases h
theorem ltB_total (a b:ByteArray):ltB a b∨a=b∨ltB b a:=by
 by_cases h:ltB a b
 ·exact .inl h
 ·by_cases e:a=b
  ·exact .inr (.inl e)
  ·refine .inr (.inr (bl_total _ _ ?_ fun h2=>e ?_))
   ·unfold ltB at h;simpa using h
   ·rw [ByteArray.toList_eq,ByteArray.toList_eq] at h2
    exact ba_ext h2
def Asc (l:List ByteArray):Prop:=l.Pairwise ltB
theorem Asc.nodup {l:List ByteArray} (h:Asc l):l.Nodup:=List.Pairwise.imp (fun {a b} hab e=>by subst e;exact ltB_irrefl a hab) h
theorem asc_nil:Asc []:=.nil
theorem asc_one (a:ByteArray):Asc [a]:=List.pairwise_singleton _ _
theorem sortS_asc {ks:List ByteArray} (h:ks.Nodup):Asc (sortS ks):=by
 have tr:∀a b c:List UInt8,leB a b=true→leB b c=true→leB a c=true:=fun a b c h1 h2=>by simp only [leB,decide_eq_true_eq] at *; exact List.le_trans h1 h2
 have to:∀a b:List UInt8,(leB a b || leB b a)=true:=fun a b=>by simp only [leB,Bool.or_eq_true,decide_eq_true_eq];exact List.le_total a b
 have h1:=List.pairwise_mergeSort tr to (ks.map fun k=>k.data.toList)
 have h2:(sortS ks).Pairwise fun a b=>leB a.data.toList b.data.toList=true:=by
  unfold sortS
  rw [List.pairwise_map]
  exact h1.imp (fun {a b} hab=>by simpa using hab)
 have h3:(sortS ks).Nodup:=(sortS_perm ks).nodup_iff.2 h
 refine (List.Pairwise.and h2 h3).imp fun {a b} hab=>?_
 obtain ⟨p,q⟩:=hab
 rcases ltB_total a b with h|h|h
 ·exact h
 ·exact absurd h q
 ·exfalso
  rw [ltB_iff] at h
  simp only [leB,decide_eq_true_eq] at p
  exact p h
theorem Asc.ext {l m:List ByteArray} (h1:Asc l) (h2:Asc m) (h:∀x,x∈l↔x∈m):l=m:=by
 have hp:l.Perm m:=(List.perm_ext_iff_of_nodup h1.nodup h2.nodup).2 h
 exact hp.eq_of_pairwise (le:=ltB) (fun a b _ _ p q=>absurd (ltB_trans p q) (ltB_irrefl a)) h1 h2
theorem sortS_mem {ks:List ByteArray} {x:ByteArray} : x∈sortS ks↔x∈ks:=(sortS_perm ks).mem_iff
theorem sortS_eq {ks l:List ByteArray} (h:ks.Nodup) (ha:Asc l) (hm:∀x,x∈ks↔x∈l):sortS ks=l:=
 (sortS_asc h).ext ha fun x=>sortS_mem.trans (hm x)
def mergeW:List ByteArray→List ByteArray→List ByteArray
 | [],b=>b
 |x :: a,[]=>x :: a
 |x :: a,y :: b=>if Op.bytesLess x.toList y.toList=true then x :: mergeW a (y :: b) else if x.toList == y.toList then y :: mergeW a b else y :: mergeW (x :: a) b
termination_by a b=>a.length+b.length
theorem mergeW_nil (a:List ByteArray):mergeW a []=a:=by cases a<;>simp [mergeW]
theorem toList_inj {a b:ByteArray} (h:a.toList=b.toList):a=b:=by
 rw [ByteArray.toList_eq,ByteArray.toList_eq] at h
 exact ba_ext h
theorem mergeW_spec:∀a b:List ByteArray,Asc a→Asc b→Asc (mergeW a b)∧∀x,x∈mergeW a b↔x∈a∨x∈b
 | [],b,_,hb=>⟨by rw [mergeW];exact hb,by simp [mergeW]⟩
 |x :: a,[],ha,_=>⟨by rw [mergeW];exact ha,by simp [mergeW]⟩
 |x :: a,y :: b,ha,hb=>by
  have ha':=List.pairwise_cons.1 ha
  have hb':=List.pairwise_cons.1 hb
  rw [mergeW]
  split
  ·rename_i h
   obtain ⟨i1,i2⟩:=mergeW_spec a (y :: b) ha'.2 hb
   refine ⟨List.pairwise_cons.2 ⟨fun z hz=>?_,i1⟩,fun z=>?_⟩
   ·rcases (i2 z).1 hz with h1|h1
    ·exact ha'.1 z h1
    ·rcases List.mem_cons.1 h1 with rfl|h1
     ·exact h
     ·exact ltB_trans h (hb'.1 z h1)
   ·rw [List.mem_cons,i2,List.mem_cons (a:=z) (b:=x),or_assoc]
  ·rename_i h
   split
   ·rename_i e
    have e' : x=y:=toList_inj (by simpa using e)
    subst e'
    obtain ⟨i1,i2⟩:=mergeW_spec a b ha'.2 hb'.2
    refine ⟨List.pairwise_cons.2 ⟨fun z hz=>?_,i1⟩,fun z=>?_⟩
    ·rcases (i2 z).1 hz with h1|h1
     ·exact ha'.1 z h1
     ·exact hb'.1 z h1
    ·simp only [List.mem_cons,i2]
     constructor
     ·rintro (h|h|h)<;>simp [h]
     ·rintro ((h|h)|h|h)<;>simp [h]
   ·rename_i e
    have hyx:ltB y x:=by
     rcases ltB_total x y with h1|h1|h1
     ·exact absurd h1 h
     ·subst h1;simp at e
     ·exact h1
    obtain ⟨i1,i2⟩:=mergeW_spec (x :: a) b ha hb'.2
    refine ⟨List.pairwise_cons.2 ⟨fun z hz=>?_,i1⟩,fun z=>?_⟩
    ·rcases (i2 z).1 hz with h1|h1
     ·rcases List.mem_cons.1 h1 with rfl|h1
      ·exact hyx
      ·exact ltB_trans hyx (ha'.1 z h1)
     ·exact hb'.1 z h1
    ·simp only [List.mem_cons,i2]
     constructor
     ·rintro (h|(h|h)|h)<;>simp [h]
     ·rintro ((h|h)|h|h)<;>simp [h]
termination_by a b=>a.length+b.length
theorem mergeW_len:∀a b:List ByteArray,(mergeW a b).length≤a.length+b.length
 | [],b=>by simp [mergeW]
 |x :: a,[]=>by simp [mergeW]
 |x :: a,y :: b=>by
  rw [mergeW]
  split
  ·have:=mergeW_len a (y :: b);simp only [List.length_cons] at *; omega
  ·split
   ·have:=mergeW_len a b;simp only [List.length_cons] at *; omega
   ·have:=mergeW_len (x :: a) b;simp only [List.length_cons] at *; omega
termination_by a b=>a.length+b.length
theorem sortS_add {ks:List ByteArray} {s:ByteArray} (h:ks.Nodup):sortS (addK ks s)=mergeW (sortS ks) [s]:=by
 obtain ⟨h1,h2⟩:=mergeW_spec (sortS ks) [s] (sortS_asc h) (asc_one s)
 refine sortS_eq (addK_nodup s h) h1 fun x=>?_
 rw [addK_mem,h2,sortS_mem,List.mem_singleton]
theorem sortS_nil:sortS [] = []:=sortS_eq .nil asc_nil fun _=>Iff.rfl
theorem sortS_one (s:ByteArray):sortS [s] = [s]:=sortS_eq (by simp) (asc_one s) fun _=>Iff.rfl
end
end Go.Proofs.YtoamkpgaaanafaaGreat
