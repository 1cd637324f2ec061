/- Out of: Zd, Zg, Zi. -/
import Derived.Test.YtoamkpgaaanafaaGreatK1
import Derived.Test.YtoamkpgaaanafaaGreatK2
import Derived.Test.YtoamkpgaaanafaaGreatK4
import Derived.Test.YtoamkpgaaanafaaGreatK5
import Derived.Test.YtoamkpgaaanafaaGreatK6
import Derived.Test.YtoamkpgaaanafaaGreatK8
import Derived.Test.YtoamkpgaaanafaaGreatK9
import Derived.Test.YtoamkpgaaanafaaGreatK10
import Derived.Test.YtoamkpgaaanafaaGreatK11
import Derived.Test.YtoamkpgaaanafaaGreatK12
import Derived.Test.YtoamkpgaaanafaaGreatK13
import Derived.Test.YtoamkpgaaanafaaGreatK14
import Derived.Test.YtoamkpgaaanafaaGreatK15
namespace Go.Proofs.YtoamkpgaaanafaaGreat
set_option linter.unusedSimpArgs false
set_option linter.unusedVariables false
set_option linter.unnecessarySimpa false
section
open Go.RowKit
def wrongB (l:List (List Int)) (v:List Int):Bool := !vecB v || decide (v.length≠(l.getD 0 default).length)
set_option maxRecDepth 10000 in
theorem pw_wrong (l:List (List Int)) (v:List Int) (hl:0 < l.length) (hv:v.length≤1000000):PCalls Tryz.prog 135 [pints v, .ep [pvecs l] 0] (· = pbool (wrongB l v)):=by
 have h:=pw_isVector v (by omega)
 have hlow:Low (.ep [pvecs l] 0):=by simp [low_ep,low_pvecs]
 refine pcalls_of_pw typeTab_ok Tryz.func135 rfl (by kernel_rfl) (by simp [low_pints,hlow]) (by simp [pints,PV.ownB]) (by rw [Tryz.ntmps135];simp) ?_
 rw [Tryz.ntmps135,Tryz.results135]
 unfold wrongB
 cases e1:vecB v with
 |false=>
  rw [e1] at h
  refine wk ?_
  exact retP rfl (by exact lw) (by simp [pbool])
 |true=>
  rw [e1] at h
  by_cases e2:v.length=(l.getD 0 default).length
  ·refine wk ?_
   exact retP rfl (by exact lw) (by simp only [pbool];simp [e2])
  ·refine wk ?_
   exact retP rfl (by exact lw) (by simp only [pbool,decide_eq_true e2];rfl)
def boxOfL (l:List (List Int)):PBox:=(l.drop 1).foldl (fun b v=>⟨zipI min b.lo v,zipI max b.hi v⟩) ⟨l.getD 0 default,l.getD 0 default⟩
def boxOf (l:List (List Int)):PBox×Int:=if l.length=0∨l.any (wrongB l)=true then (⟨[],[]⟩,1) else (boxOfL l,0)
def boxK (l:List (List Int)) (k:Nat):PBox:=((l.drop 1).take k).foldl (fun b v=>⟨zipI min b.lo v,zipI max b.hi v⟩) ⟨l.getD 0 default,l.getD 0 default⟩
theorem boxK_succ {l:List (List Int)} {k:Nat} (h:k < (l.drop 1).length):boxK l (k+1)=⟨zipI min (boxK l k).lo ((l.drop 1).getD k default),zipI max (boxK l k).hi ((l.drop 1).getD k default)⟩:=by
 unfold boxK
 have e:(l.drop 1).getD k default=(l.drop 1)[k]:=by rw [List.getD_eq_getElem?_getD,List.getElem?_eq_getElem h];rfl
 rw [List.take_add_one,List.getElem?_eq_getElem h,List.foldl_append,e]
 rfl
theorem boxK_len (l:List (List Int)) (k:Nat):(boxK l k).lo.length=(l.getD 0 default).length∧(boxK l k).hi.length=(l.getD 0 default).length:=by
 unfold boxK
 generalize (l.drop 1).take k=r
 have:∀(r:List (List Int)) (b:PBox),(r.foldl (fun b v=>(⟨zipI min b.lo v,zipI max b.hi v⟩:PBox)) b).lo.length=b.lo.length∧(r.foldl (fun b v=>(⟨zipI min b.lo v,zipI max b.hi v⟩:PBox)) b).hi.length=b.hi.length:=by
  intro r
  induction r with
  |nil=>intro b;exact ⟨rfl,rfl⟩
  |cons v r ih=>
   intro b
   obtain ⟨h1,h2⟩:=ih ⟨zipI min b.lo v,zipI max b.hi v⟩
   simp only [List.foldl_cons]
   rw [h1,h2,zipI_len,zipI_len]
   exact ⟨rfl,rfl⟩
 exact this r _
set_option maxRecDepth 10000 in
set_option maxHeartbeats 2000000 in
theorem pw_boxOf (l:List (List Int)) (hl:l.length≤1000000) (hv:∀v∈l,v.length≤1000000):PCalls Tryz.prog 58 [pvecs l] (· = .tup [pbox (boxOf l).1,pint (boxOf l).2]):=by
 refine PCalls.weak ?_
 refine pcalls_of_pw typeTab_ok Tryz.func58 rfl (by kernel_rfl) (by simp [low_pvecs]) (by simp [pvecs,PV.ownB]) (by rw [Tryz.ntmps58];simp) ?_
 rw [Tryz.ntmps58,Tryz.results58]
 refine PW.seq ?_
 refine PW.region typeTab_ok (by kernel_rfl) ?_
 refine wg ?_
 refine PW.freezeP (id:=0) (s:=1) (off:=0) (σ':=(bot.setb 1 [.nilsl, .nilsl]).put 2 (.ptr 1 0)) rfl rfl (fun c hc=>by simp only [List.mem_cons,List.not_mem_nil,or_false] at hc;subst hc;exact (low_pvecs _).2 trivial) (by exact sbr0) rfl ?_
 by_cases h0:l.length=0
 ·refine wk ?_
  refine retP (r:=.tup [.agg [.nilsl, .nilsl],pint 1]) rfl (by simp [low_tup,low_agg,low_nilsl,low_pint]) ?_
  rw [boxOf,if_pos (.inl h0)]
  exact weak_nobox
 ·have hw:=pw_anyV 135 [.ep [pvecs l] 0] (wrongB l) l rfl (by omega) (by simp [low_ep,low_pvecs]) (fun k hk=>pw_wrong l _ (by omega) (hv _ (by rw [List.getD_eq_getElem?_getD,List.getElem?_eq_getElem hk];exact List.getElem_mem hk)))
  cases e1:l.any (wrongB l) with
  |true=>
   rw [e1] at hw
   refine wk ?_
   refine retP (r:=.tup [.agg [.nilsl, .nilsl],pint 1]) rfl (by simp [low_tup,low_agg,low_nilsl,low_pint]) ?_
   rw [boxOf,if_pos (.inr e1)]
   exact weak_nobox
  |false=>
   rw [e1] at hw
   have hc:=pcClone (l.getD 0 default) (by have:=hv (l.getD 0 default) (by rw [List.getD_eq_getElem?_getD,List.getElem?_eq_getElem (by omega)];exact List.getElem_mem _);omega)
   have hlen:∀k,k < (l.drop 1).length→((l.drop 1).getD k default).length=(l.getD 0 default).length:=by
    intro k hk
    rw [List.any_eq_false] at e1
    have h1:=e1 ((l.drop 1).getD k default) (by rw [List.getD_eq_getElem?_getD,List.getElem?_eq_getElem hk];exact List.mem_of_mem_drop (List.getElem_mem hk))
    by_cases h2:((l.drop 1).getD k default).length=(l.getD 0 default).length
    ·exact h2
    ·exact absurd (by simp only [wrongB,decide_eq_true h2,Bool.or_true]) h1
   have h00:(l.getD 0 default).length≤1000000:=hv _ (by rw [List.getD_eq_getElem?_getD,List.getElem?_eq_getElem (by omega)];exact List.getElem_mem _)
   have hdl:(l.drop 1).length≤1000000:=by simp;omega
   have hlow:∀x,Low (pvecs x):=fun x=>(low_pvecs x).2 trivial
   refine wk ?_
   refine PW.loop (fun k:Nat=>(((((((bot.setb 1 [.nilsl, .nilsl]).setb 4009 [pints (boxK l k).lo,pints (boxK l k).hi]).put 2 (.ptr 1 0)).put 5 (.ptr 4009 0)).put 28 (pvecs (l.drop 1))).put 29 (pint (l.drop 1).length)).put 30 (pint k))) (fun k=>k≤(l.drop 1).length) (fun k=>(l.drop 1).length - k) 0 (by omega) ?_ ?_
   ·exact sb
   ·intro k hk
    obtain ⟨q1,q2⟩:=boxK_len l k
    by_cases hlt:k < (l.drop 1).length
    ·have hz1:=pw_zip 139 min (boxK l k).lo ((l.drop 1).getD k default) rfl (by omega) (by rw [hlen k hlt];omega) pw_least
     have hz2:=pw_zip 140 max (boxK l k).hi ((l.drop 1).getD k default) rfl (by omega) (by rw [hlen k hlt];omega) pw_greatest
     clear hw hc hlen e1
     refine wk ?_
     refine loopP (k+1) (by omega) (by omega) ?_
     simp only [boxK_succ hlt]
     exact sb
    ·refine wk ?_
     have hkk:k=(l.drop 1).length:=by omega
     refine retP (r:=.tup [.agg [pints (boxK l k).lo,pints (boxK l k).hi],pint 0]) rfl (by simp [low_tup,low_agg,low_pints,low_pint]) ?_
     rw [boxOf,if_neg (by rintro (h|h);exact h0 h;rw [e1] at h;cases h)]
     have:boxK l k=boxOfL l:=by rw [hkk,boxK,boxOfL,List.take_length]
     rw [this]
     exact Weak.refl _
def gapD (lo hi x:Int):Int:=max (max 0 (lo - x)) (x - hi)
set_option maxRecDepth 10000 in
theorem pw_near1 (lo hi x:Int) (h1 : -1000000≤lo∧lo≤1000000) (h2 : -1000000≤hi∧hi≤1000000) (h3 : -1000000≤x∧x≤1000000):PCalls Tryz.prog 151 [pint lo,pint hi,pint x] (· = pint (gapD lo hi x)):=by
 refine pcalls_of_pw typeTab_ok Tryz.func151 rfl (by kernel_rfl) (by simp [low_pint]) (by simp [pint,PV.ownB]) (by rw [Tryz.ntmps151];simp) ?_
 rw [Tryz.ntmps151,Tryz.results151]
 obtain ⟨a1,a2⟩:=h1
 obtain ⟨b1,b2⟩:=h2
 obtain ⟨c1,c2⟩:=h3
 refine wk ?_
 refine retP rfl (by exact lw) ?_
 simp only [if_true,pint,gapD]
 congr 2
 repeat' split
 all_goals omega
def dsOf (g:Int→Int→Int→Int) (b:PBox) (v:List Int):List Int:=(List.range v.length).map fun k=>g (b.lo.getD k default) (b.hi.getD k default) (v.getD k default)
theorem mesL_ds (g:Int→Int→Int→Int) (b:PBox) (v:List Int):mesL g b v=(dsOf g b v).map fun d => [pint d]:=by simp [mesL,dsOf]
theorem vecB_get {v:List Int} (h:vecB v=true):(1≤v.length∧v.length≤32)∧∀k,-1000≤v.getD k default∧v.getD k default≤1000:=by
 simp only [vecB,Bool.and_eq_true,decide_eq_true_eq,Bool.not_eq_true',List.any_eq_false] at h
 refine ⟨⟨h.1,h.2.1⟩,fun k=>?_⟩
 rw [List.getD_eq_getElem?_getD]
 rcases Nat.lt_or_ge k v.length with hk|hk
 ·rw [List.getElem?_eq_getElem hk]
  have:=h.2.2 v[k] (List.getElem_mem hk)
  simp [farB] at this
  simpa using this
 ·rw [List.getElem?_eq_none hk];decide
theorem boxB_vec {b:PBox} (h:boxB b=true):vecB b.lo=true∧vecB b.hi=true:=by
 simp only [boxB,Bool.and_eq_true] at h
 exact ⟨h.1,h.2.1⟩
def boxNear (m:Int) (b:PBox) (v:List Int):Int×Int:=if boxB b && (vecB v && (decide (v.length=b.lo.length) && keyB m)) then (keyD m (dsOf gapD b v),0) else (0,1)
set_option maxRecDepth 10000 in
set_option maxHeartbeats 2000000 in
theorem pw_measure (m:Int) (b:PBox) (v:List Int) (h1:b.lo.length≤1000000) (h2:b.hi.length≤1000000) (h3:v.length≤1000000):PCalls Tryz.prog 150 [pint m,pbox b,pints v, .fn 151 []] (· = .tup [pint (boxNear m b v).1,pint (boxNear m b v).2]):=by
 have hv:=pw_boxValid b (by omega) (by omega)
 have hw:=pw_isVector v (by omega)
 have hl1:=low_pboxL b
 refine pcalls_of_pw typeTab_ok Tryz.func150 rfl (by kernel_rfl) (by simp [low_pint,low_pbox,low_pints,low_fn]) (by simp [pint,pbox,pints,PV.ownB]) (by rw [Tryz.ntmps150];simp) ?_
 rw [Tryz.ntmps150,Tryz.results150]
 unfold boxNear
 unfold pbox pboxL at *
 refine PW.seq ?_
 refine PW.region typeTab_ok (by kernel_rfl) ?_
 refine wg ?_
 refine PW.freezeP (id:=0) (s:=5) (off:=0) (σ':=((((bot.setb 1 [pints v]).setb 2 [.fn 151 []]).put 0 (pint m)).put 6 (.ptr 1 0)).put 7 (.ptr 2 0)) rfl rfl hl1 ?_ rfl ?_
 ·exact sbr0
 refine PW.freezeP (id:=1) (s:=6) (off:=0) (σ':=(((bot.setb 2 [.fn 151 []]).put 0 (pint m)).put 5 (.ep [pints b.lo,pints b.hi] 0)).put 7 (.ptr 2 0)) rfl rfl (fun c hc=>by simp only [List.mem_cons,List.not_mem_nil,or_false] at hc;subst hc;exact (low_pints _).2 trivial) ?_ rfl ?_
 ·exact sbr0
 refine PW.freezeP (id:=2) (s:=7) (off:=0) (σ':=((bot.put 0 (pint m)).put 5 (.ep [pints b.lo,pints b.hi] 0)).put 6 (.ep [pints v] 0)) rfl rfl (fun c hc=>by simp only [List.mem_cons,List.not_mem_nil,or_false] at hc;subst hc;exact .fn _ _ (by simp)) ?_ rfl ?_
 ·exact sbr0
 cases e1:boxB b with
 |false=>
  rw [e1] at hv
  refine wk ?_
  exact retP (r:=.tup [pint 0,pint 1]) rfl (by simp [low_tup,low_pint]) rfl
 |true=>
  rw [e1] at hv
  cases e2:vecB v with
  |false=>
   rw [e2] at hw
   refine wk ?_
   exact retP (r:=.tup [pint 0,pint 1]) rfl (by simp [low_tup,low_pint]) rfl
  |true=>
   rw [e2] at hw
   by_cases e3:v.length=b.lo.length
   ·obtain ⟨q1,q2,q3⟩:=boxB_len e1
    obtain ⟨r1,r2⟩:=boxB_vec e1
    obtain ⟨-,g1⟩:=vecB_get r1
    obtain ⟨-,g2⟩:=vecB_get r2
    obtain ⟨-,g3⟩:=vecB_get e2
    have hit:=it_measure 151 gapD b v rfl (by omega) (by omega) (by omega) (by omega) (by omega) (fun k _=>pw_near1 _ _ _ (by have:=g1 k;omega) (by have:=g2 k;omega) (by have:=g3 k;omega))
    rw [mesL_ds] at hit
    have hk:=pw_key m 233 [.ep [pints v] 0, .ep [.fn 151 []] 0, .ep [pints b.lo,pints b.hi] 0] (dsOf gapD b v) rfl (by simp [low_ep,low_pints,low_fn]) hit (fun d hd=>by
     obtain ⟨k,-,rfl⟩:=List.mem_map.1 hd
     have:=g1 k;have:=g2 k;have:=g3 k
     unfold gapD;omega) (by simp [dsOf];omega)
    cases e4:keyB m with
    |false=>
     rw [e4] at hk
     simp only [Bool.false_eq_true,if_false] at hk
     refine wk ?_
     exact retP (r:=.tup [pint 0,pint 1]) rfl (by simp [low_tup,low_pint]) (by simp)
    |true=>
     rw [e4] at hk
     simp only [if_true] at hk
     refine wk ?_
     exact retP (r:=.tup [pint (keyD m (dsOf gapD b v)),pint 0]) rfl (by simp [low_tup,low_pint]) (by simp [e3])
   ·refine wk ?_
    exact retP (r:=.tup [pint 0,pint 1]) rfl (by simp [low_tup,low_pint]) (by simp [e3])
set_option maxRecDepth 10000 in
theorem pw_boxNear (m:Int) (b:PBox) (v:List Int) (h1:b.lo.length≤1000000) (h2:b.hi.length≤1000000) (h3:v.length≤1000000):PCalls Tryz.prog 76 [pint m,pbox b,pints v] (· = .tup [pint (boxNear m b v).1,pint (boxNear m b v).2]):=by
 have h:=pw_measure m b v h1 h2 h3
 have hl1:=low_pboxL b
 refine pcalls_of_pw typeTab_ok Tryz.func76 rfl (by kernel_rfl) (by simp [low_pint,low_pbox,low_pints]) (by simp [pint,pbox,pints,PV.ownB]) (by rw [Tryz.ntmps76];simp) ?_
 rw [Tryz.ntmps76,Tryz.results76]
 generalize boxNear m b v=r at *
 unfold pbox pboxL at *
 refine wk ?_
 exact retP (r:=.tup [pint r.1,pint r.2]) rfl (by simp [low_tup,low_pint]) rfl
set_option maxRecDepth 10000 in
theorem hc_clone1 (l:List Int) (h0:0 < l.length) (hl:l.length≤1000000):HCalls Tryz.prog 137 [pints l] [] [] (.msl 3002 0 l.length 1) [(3002,l.map pint)] []:=by
 refine hcalls_of_pw typeTab_ok Tryz.func137 rfl (by kernel_rfl) (by simp [pints,PV.ownB]) (by rw [Tryz.ntmps137];simp) (by simp [ResIds]) (by simp [ResIds]) ⟨fun p hp=>by simp only [List.mem_cons,List.not_mem_nil,or_false] at hp;subst hp;exact ((low_pints l).2 trivial).lowI,by simp,by simp, .msl _ _ _ _ (by simp [ResIds]),fun x hx c hc=>by simp only [List.mem_cons,List.not_mem_nil,or_false] at hx;subst hx;obtain ⟨z,-,rfl⟩:=List.mem_map.1 hc;exact .val _,by simp,by simp,by simp⟩ ?_
 rw [Tryz.ntmps137,Tryz.results137]
 cases l with
 |nil=>cases h0
 |cons x l=>
  have hone:((x :: l).map pint).all PV.one=true:=one_map (fun _=>rfl) _
  have hno:((x :: l).map pint).all (fun c => !c.ownB)=true:=by rw [List.all_map,List.all_eq_true];intro z _;rfl
  refine PW.seq ?_
  refine PW.region typeTab_ok (by kernel_rfl) ?_
  refine wg ?_
  refine PW.region typeTab_ok (by kernel_rfl) ?_
  refine wg ?_
  refine PW.region typeTab_ok (by kernel_rfl) ?_
  (refine ops0 ?_)
  (refine ops0 ?_)
  refine PWops.appN typeTab_ok rfl (fun _ _=>rfl) rfl rfl (.inr rfl) rfl rfl rfl rfl rfl (by omega) (by omega) h0 hone hno ?_
  refine wk ?_
  exact RetH.mk rfl (Weak.refl _) ⟨⟨_,rfl,WeakL.refl _⟩,trivial⟩ trivial
theorem hc_clone (id:Nat) (l:List Int) (h0:0 < l.length) (hl:l.length≤1000000):HCalls Tryz.prog 137 [pints l] [] [] (.msl id 0 l.length 1) [(id,l.map pint)] []:=
 (hc_clone1 l h0 hl).at [(3002,id)] (by simp) (by simp [ResIds]) (by simp) (by simp) (RenL.low (by simp [low_pints])) RenB.nil RenMs.nil (.msl _ _ _ _ (by simp [ResIds])) (RenB.cons _ _ _ _ _ (RenL.low (low_map (fun _=>Low.val _) _)) RenB.nil) RenMs.nil
def subI (x y:Int):Int:=x - y
def subK (a b:List Int) (k:Nat):List Int:=(zipI subI a b).take k ++ a.drop k
theorem subK_len {a b:List Int} {k:Nat} (h:k≤a.length):(subK a b k).length=a.length:=by
 simp [subK,zipI_len];omega
theorem subK_get {a b:List Int} {k:Nat} (h:k < a.length):(subK a b k).getD k default=a.getD k default:=by
 have hl:((zipI subI a b).take k).length=k:=by rw [List.length_take,zipI_len];omega
 rw [subK,List.getD_eq_getElem?_getD,List.getElem?_append_right (by omega),hl,Nat.sub_self,List.getElem?_drop,List.getD_eq_getElem?_getD,Nat.add_zero]
theorem subK_set {a b:List Int} {k:Nat} (h:k < a.length):(subK a b k).set k (a.getD k default - b.getD k default)=subK a b (k+1):=by
 have hl:((zipI subI a b).take k).length=k:=by rw [List.length_take,zipI_len];omega
 rw [subK,List.set_append_right _ _ (by omega),hl,Nat.sub_self,List.drop_eq_getElem_cons h,List.set_cons_zero,subK,zipI_take h]
 simp [subI]
set_option maxRecDepth 10000 in
set_option maxHeartbeats 2000000 in
theorem pw_vecSub (a b:List Int) (h0:0 < a.length) (h1:a.length≤1000000) (h2:a.length≤b.length) (h3:b.length≤1000000) (ha:∀k,-1000000≤a.getD k default∧a.getD k default≤1000000) (hb:∀k,-1000000≤b.getD k default∧b.getD k default≤1000000):PCalls Tryz.prog 107 [pints a,pints b] (· = pints (zipI subI a b)):=by
 have hc:=hc_clone 900001 a h0 h1
 refine pcalls_of_pw typeTab_ok Tryz.func107 rfl (by kernel_rfl) (by simp [low_pints]) (by simp [pints,PV.ownB]) (by rw [Tryz.ntmps107];simp) ?_
 rw [Tryz.ntmps107,Tryz.results107]
 refine wk ?_
 refine PW.loop (fun k:Nat=>(((((bot.setb 900001 ((subK a b k).map pint)).put 1 (pints b)).put 5 (.msl 900001 0 a.length 1)).put 10 (pint a.length)).put 11 (pint k))) (fun k=>k≤a.length) (fun k=>a.length - k) 0 (by omega) ?_ ?_
 ·exact sb
 ·intro k hk
  have hlen:=subK_len (b:=b) hk
  have hml:((subK a b k).map pint).length=a.length:=by rw [List.length_map,hlen]
  by_cases hlt:k < a.length
  ·have hgk:=subK_get (b:=b) hlt
   obtain ⟨a1,a2⟩:=ha k
   obtain ⟨b1,b2⟩:=hb k
   refine wk ?_
   rw [show (0+((k:Int)).toNat * 1)=k from by omega,hgk]
   refine wk ?_
   rw [show (0+((k:Int)).toNat * 1)=k from by omega,subK_set hlt]
   refine loopP (k+1) (by omega) (by omega) ?_
   have hml2:((subK a b (k+1)).map pint).length=a.length:=by rw [List.length_map,subK_len (by omega)]
   exact sb
  ·have hkk:k=a.length:=by omega
   refine PW.freeze (s:=5) (id:=900001) (n:=a.length) (k:=1) (cs:=(subK a b k).map pint) (σ':=(bot.put 10 (pint a.length)).put 11 (pint k)) rfl rfl (by simp [hlen]) (low_map (fun _=>Low.val _) _) (by exact sbr0) rfl ?_
   refine wk ?_
   refine retP (r:=.sl a.length 1 ((subK a b k).map pint) none) rfl (.sl _ _ _ _ (low_map (fun _=>Low.val _) _)) ?_
   rw [hkk,subK,List.take_of_length_le (by rw [zipI_len];omega),List.drop_length,List.append_nil,pints,zipI_len]
def absI (x:Int):Int:=max x (-x)
theorem absI_sq (x:Int):absI x * absI x=x * x:=by
 unfold absI
 rcases Int.le_total x (-x) with h|h
 ·rw [Int.max_eq_right h,Int.neg_mul_neg]
 ·rw [Int.max_eq_left h]
set_option maxRecDepth 10000 in
theorem pw_norm1 (n x:Int) (hn:Small30 n) (h1 : -5000≤x) (h2:x≤5000):PCalls Tryz.prog 187 [pint n,pint x] (· = pint (addM 1 n (absI x))):=by
 obtain ⟨h3,h4⟩:=hn
 have hdd:=sq_bound h1 h2
 have hw:IntKind.i64.wrap (0 - x) = -x:=by rw [wrap64_id (by omega) (by omega)];omega
 refine pcalls_of_pw typeTab_ok Tryz.func187 rfl (by kernel_rfl) (by simp [low_pint]) (by simp [pint,PV.ownB]) (by rw [Tryz.ntmps187];simp) ?_
 rw [Tryz.ntmps187,Tryz.results187]
 refine wk ?_
 rw [hw]
 rw [show (if true=true then if -x > x then -x else x else if -x < x then -x else x)=absI x from by simp only [if_true,absI];split<;>omega]
 have hab : -5000≤absI x∧absI x≤5000:=by unfold absI;omega
 refine wk ?_
 exact retP rfl (by exact lw) (by simp [addM,pint])
set_option maxRecDepth 10000 in
theorem pw_norm2 (n x:Int) (hn:Small30 n) (h1 : -5000≤x) (h2:x≤5000):PCalls Tryz.prog 188 [pint n,pint x] (· = pint (addM 2 n (absI x))):=by
 obtain ⟨h3,h4⟩:=hn
 have hdd:=sq_bound h1 h2
 have hw:IntKind.i64.wrap (0 - x) = -x:=by rw [wrap64_id (by omega) (by omega)];omega
 refine pcalls_of_pw typeTab_ok Tryz.func188 rfl (by kernel_rfl) (by simp [low_pint]) (by simp [pint,PV.ownB]) (by rw [Tryz.ntmps188];simp) ?_
 rw [Tryz.ntmps188,Tryz.results188]
 refine wk ?_
 exact retP rfl (by exact lw) (by simp [addM,pint,absI_sq])
set_option maxRecDepth 10000 in
theorem pw_norm3 (n x:Int) (hn:Small30 n) (h1 : -5000≤x) (h2:x≤5000):PCalls Tryz.prog 189 [pint n,pint x] (· = pint (addM 3 n (absI x))):=by
 obtain ⟨h3,h4⟩:=hn
 have hdd:=sq_bound h1 h2
 have hw:IntKind.i64.wrap (0 - x) = -x:=by rw [wrap64_id (by omega) (by omega)];omega
 refine pcalls_of_pw typeTab_ok Tryz.func189 rfl (by kernel_rfl) (by simp [low_pint]) (by simp [pint,PV.ownB]) (by rw [Tryz.ntmps189];simp) ?_
 rw [Tryz.ntmps189,Tryz.results189]
 refine wk ?_
 rw [hw]
 refine retP rfl (by exact lw) ?_
 simp only [if_true,pint,addM,absI]
 congr 2
 repeat' split
 all_goals omega
theorem absI_bound {x:Int} (h : -5000≤x∧x≤5000) : -5000≤absI x∧absI x≤5000:=by unfold absI;omega
def normI (m:Int) (v:List Int):Int:=keyD m (v.map absI)
theorem normI_eq (m:Int) (v:List Int):v.foldl (fun n x=>addM m n (absI x)) 0=normI m v:=by rw [normI,keyD,List.foldl_map]
theorem norm_small {m:Int} {v:List Int} (hd:∀d∈v,-5000≤d∧d≤5000) (hl:v.length≤1000):Small30 (v.foldl (fun n x=>addM m n (absI x)) 0):=by
 rw [normI_eq]
 have:=keyD_bound m (v.map absI) (fun d h=>by obtain ⟨x,hx,rfl⟩:=List.mem_map.1 h;exact absI_bound (hd x hx)) 0 0 (by simp)
 unfold Small30 normI keyD
 simp only [List.length_map] at this
 omega
set_option maxRecDepth 10000 in
set_option maxHeartbeats 2000000 in
theorem pw_norm (m:Int) (v:List Int) (hm:keyB m=true) (hl:v.length≤1000) (hv:∀k,-5000≤v.getD k default∧v.getD k default≤5000):PCalls Tryz.prog 106 [pint m,pints v] (· = pint (normI m v)):=by
 have hv' : ∀d∈v,-5000≤d∧d≤5000:=fun d hd=>by
  obtain ⟨j,hj,rfl⟩:=List.getElem_of_mem hd
  have:=hv j
  rwa [List.getD_eq_getElem?_getD,List.getElem?_eq_getElem hj] at this
 have hsm:∀(m:Int) k,Small30 ((v.take k).foldl (fun n x=>addM m n (absI x)) 0):=fun m k=>norm_small (fun d h=>hv' d (List.mem_of_mem_take h)) (by simp;omega)
 have f1:=pw_foldI 187 (fun n x=>addM 1 n (absI x)) v 0 rfl (by omega) (fun k _=>pw_norm1 _ _ (hsm 1 k) (hv k).1 (hv k).2)
 have f2:=pw_foldI 188 (fun n x=>addM 2 n (absI x)) v 0 rfl (by omega) (fun k _=>pw_norm2 _ _ (hsm 2 k) (hv k).1 (hv k).2)
 have f3:=pw_foldI 189 (fun n x=>addM 3 n (absI x)) v 0 rfl (by omega) (fun k _=>pw_norm3 _ _ (hsm 3 k) (hv k).1 (hv k).2)
 rw [normI_eq] at f1 f2 f3
 refine pcalls_of_pw typeTab_ok Tryz.func106 rfl (by kernel_rfl) (by simp [low_pint,low_pints]) (by simp [pint,pints,PV.ownB]) (by rw [Tryz.ntmps106];simp) ?_
 rw [Tryz.ntmps106,Tryz.results106]
 clear hsm hv'
 simp only [keyB,Bool.and_eq_true,decide_eq_true_eq] at hm
 rcases (show m=1∨m=2∨m=3 by omega) with rfl|rfl|rfl
 ·clear f2 f3
  refine wk ?_
  refine PWops.mkMG rfl rfl rfl rfl ?_
  refine PWops.mins rfl rfl rfl rfl rfl rfl rfl rfl rfl rfl rfl rfl rfl ?_
  refine PWops.mins rfl rfl rfl rfl rfl rfl rfl rfl rfl rfl rfl rfl rfl ?_
  refine PWops.mins rfl rfl rfl rfl rfl rfl rfl rfl rfl rfl rfl rfl rfl ?_
  refine wk ?_
  exact retP rfl (by exact lw) rfl
 ·clear f1 f3
  refine wk ?_
  refine PWops.mkMG rfl rfl rfl rfl ?_
  refine PWops.mins rfl rfl rfl rfl rfl rfl rfl rfl rfl rfl rfl rfl rfl ?_
  refine PWops.mins rfl rfl rfl rfl rfl rfl rfl rfl rfl rfl rfl rfl rfl ?_
  refine PWops.mins rfl rfl rfl rfl rfl rfl rfl rfl rfl rfl rfl rfl rfl ?_
  refine wk ?_
  exact retP rfl (by exact lw) rfl
 ·clear f1 f2
  refine wk ?_
  refine PWops.mkMG rfl rfl rfl rfl ?_
  refine PWops.mins rfl rfl rfl rfl rfl rfl rfl rfl rfl rfl rfl rfl rfl ?_
  refine PWops.mins rfl rfl rfl rfl rfl rfl rfl rfl rfl rfl rfl rfl rfl ?_
  refine PWops.mins rfl rfl rfl rfl rfl rfl rfl rfl rfl rfl rfl rfl rfl ?_
  refine wk ?_
  exact retP rfl (by exact lw) rfl
def keyV (m:Int) (a b:List Int):Int:=normI m (zipI subI a b)
set_option maxRecDepth 10000 in
theorem pw_vecKey (m:Int) (a b:List Int) (hm:keyB m=true) (ha:vecB a=true) (hb:vecB b=true) (hl:a.length=b.length):PCalls Tryz.prog 41 [pint m,pints a,pints b] (· = pint (keyV m a b)):=by
 obtain ⟨⟨a1,a2⟩,a3⟩:=vecB_get ha
 obtain ⟨⟨b1,b2⟩,b3⟩:=vecB_get hb
 have h1:=pw_vecSub a b (by omega) (by omega) (by omega) (by omega) (fun k=>by have:=a3 k;omega) (fun k=>by have:=b3 k;omega)
 have h2:=pw_norm m (zipI subI a b) hm (by rw [zipI_len];omega) (fun k=>by
  rcases Nat.lt_or_ge k a.length with hk|hk
  ·have e:(zipI subI a b).getD k default=a.getD k default - b.getD k default:=by
    simp [zipI,subI,List.getD_eq_getElem?_getD,hk]
   rw [e]
   have:=a3 k;have:=b3 k;omega
  ·rw [List.getD_eq_getElem?_getD,List.getElem?_eq_none (by rw [zipI_len];exact hk)];decide)
 refine pcalls_of_pw typeTab_ok Tryz.func41 rfl (by kernel_rfl) (by simp [low_pint,low_pints]) (by simp [pint,pints,PV.ownB]) (by rw [Tryz.ntmps41];simp) ?_
 rw [Tryz.ntmps41,Tryz.results41]
 refine wk ?_
 exact retP rfl (by exact lw) rfl
end
end Go.Proofs.YtoamkpgaaanafaaGreat
