/- Out of: Zd, Zf, Zg. -/
import Derived.Test.YtoamkpgaaanafaaGreatM20
import Derived.Test.YtoamkpgaaanafaaGreatM21
namespace Go.Proofs.YtoamkpgaaanafaaGreat
set_option linter.unusedSimpArgs false
set_option linter.unusedVariables false
set_option linter.unnecessarySimpa false
section
open Go.RowKit
def wrongB (l:List (List Int)) (v:List Int):Bool := !vecB v || decide (v.length≠(l.getD 0 default).length)
set_option maxRecDepth 10000 in
theorem pw_wrong (l:List (List Int)) (v:List Int) (hl:0 < l.length) (hv:v.length≤1000000):PCalls Tryz.prog 135 [pints v, .ep [pvecs l] 0] (· = pbool (wrongB l v)):=by
 have h:=pw_isVector v (by omega)
 have hlow:Low (.ep [pvecs l] 0):=by simp [low_ep,low_pvecs]
 refine pcalls_of_pw typeTab_ok Tryz.func135 rfl (by kernel_rfl) (by simp [low_pints,hlow]) (by simp [pints,PV.ownB]) (by rw [Tryz.ntmps135];simp) ?_
 rw [Tryz.ntmps135,Tryz.results135]
 unfold wrongB
 cases e1:vecB v with
 |false=>
  rw [e1] at h
  refine wk ?_
  exact retP rfl (by exact lw) (by simp [pbool])
 |true=>
  rw [e1] at h
  by_cases e2:v.length=(l.getD 0 default).length
  ·refine wk ?_
   exact retP rfl (by exact lw) (by simp only [pbool];simp [e2])
  ·refine wk ?_
   exact retP rfl (by exact lw) (by simp only [pbool,decide_eq_true e2];rfl)
def boxOfL (l:List (List Int)):PBox:=(l.drop 1).foldl (fun b v=>⟨zipI min b.lo v,zipI max b.hi v⟩) ⟨l.getD 0 default,l.getD 0 default⟩
def boxOf (l:List (List Int)):PBox×Int:=if l.length=0∨l.any (wrongB l)=true then (⟨[],[]⟩,1) else (boxOfL l,0)
def boxK (l:List (List Int)) (k:Nat):PBox:=((l.drop 1).take k).foldl (fun b v=>⟨zipI min b.lo v,zipI max b.hi v⟩) ⟨l.getD 0 default,l.getD 0 default⟩
theorem boxK_succ {l:List (List Int)} {k:Nat} (h:k < (l.drop 1).length):boxK l (k+1)=⟨zipI min (boxK l k).lo ((l.drop 1).getD k default),zipI max (boxK l k).hi ((l.drop 1).getD k default)⟩:=by
 unfold boxK
 have e:(l.drop 1).getD k default=(l.drop 1)[k]:=by rw [List.getD_eq_getElem?_getD,List.getElem?_eq_getElem h];rfl
 rw [List.take_add_one,List.getElem?_eq_getElem h,List.foldl_append,e]
 rfl
theorem boxK_len (l:List (List Int)) (k:Nat):(boxK l k).lo.length=(l.getD 0 default).length∧(boxK l k).hi.length=(l.getD 0 default).length:=by
 unfold boxK
 generalize (l.drop 1).take k=r
 have:∀(r:List (List Int)) (b:PBox),(r.foldl (fun b v=>(⟨zipI min b.lo v,zipI max b.hi v⟩:PBox)) b).lo.length=b.lo.length∧(r.foldl (fun b v=>(⟨zipI min b.lo v,zipI max b.hi v⟩:PBox)) b).hi.length=b.hi.length:=by
  intro r
  induction r with
  |nil=>intro b;exact ⟨rfl,rfl⟩
  |cons v r ih=>
   intro b
   obtain ⟨h1,h2⟩:=ih ⟨zipI min b.lo v,zipI max b.hi v⟩
   simp only [List.foldl_cons]
   rw [h1,h2,zipI_len,zipI_len]
   exact ⟨rfl,rfl⟩
 exact this r _
set_option maxRecDepth 10000 in
set_option maxHeartbeats 2000000 in
theorem pw_boxOf (l:List (List Int)) (hl:l.length≤1000000) (hv:∀v∈l,v.length≤1000000):PCalls Tryz.prog 58 [pvecs l] (· = .tup [pbox (boxOf l).1,pint (boxOf l).2]):=by
 refine PCalls.weak ?_
 refine pcalls_of_pw typeTab_ok Tryz.func58 rfl (by kernel_rfl) (by simp [low_pvecs]) (by simp [pvecs,PV.ownB]) (by rw [Tryz.ntmps58];simp) ?_
 rw [Tryz.ntmps58,Tryz.results58]
 refine PW.seq ?_
 refine PW.region typeTab_ok (by kernel_rfl) ?_
 refine wg ?_
 refine PW.freezeP (id:=0) (s:=1) (off:=0) (σ':=(bot.setb 1 [.nilsl, .nilsl]).put 2 (.ptr 1 0)) rfl rfl (fun c hc=>by simp only [List.mem_cons,List.not_mem_nil,or_false] at hc;subst hc;exact (low_pvecs _).2 trivial) (by exact sbr0) rfl ?_
 by_cases h0:l.length=0
 ·refine wk ?_
  refine retP (r:=.tup [.agg [.nilsl, .nilsl],pint 1]) rfl (by simp [low_tup,low_agg,low_nilsl,low_pint]) ?_
  rw [boxOf,if_pos (.inl h0)]
  exact weak_nobox
 ·have hw:=pw_anyV 135 [.ep [pvecs l] 0] (wrongB l) l rfl (by omega) (by simp [low_ep,low_pvecs]) (fun k hk=>pw_wrong l _ (by omega) (hv _ (by rw [List.getD_eq_getElem?_getD,List.getElem?_eq_getElem hk];exact List.getElem_mem hk)))
  cases e1:l.any (wrongB l) with
  |true=>
   rw [e1] at hw
   refine wk ?_
   refine retP (r:=.tup [.agg [.nilsl, .nilsl],pint 1]) rfl (by simp [low_tup,low_agg,low_nilsl,low_pint]) ?_
   rw [boxOf,if_pos (.inr e1)]
   exact weak_nobox
  |false=>
   rw [e1] at hw
   have hc:=pcClone (l.getD 0 default) (by have:=hv (l.getD 0 default) (by rw [List.getD_eq_getElem?_getD,List.getElem?_eq_getElem (by omega)];exact List.getElem_mem _);omega)
   have hlen:∀k,k < (l.drop 1).length→((l.drop 1).getD k default).length=(l.getD 0 default).length:=by
    intro k hk
    rw [List.any_eq_false] at e1
    have h1:=e1 ((l.drop 1).getD k default) (by rw [List.getD_eq_getElem?_getD,List.getElem?_eq_getElem hk];exact List.mem_of_mem_drop (List.getElem_mem hk))
    by_cases h2:((l.drop 1).getD k default).length=(l.getD 0 default).length
    ·exact h2
    ·exact absurd (by simp only [wrongB,decide_eq_true h2,Bool.or_true]) h1
   have h00:(l.getD 0 default).length≤1000000:=hv _ (by rw [List.getD_eq_getElem?_getD,List.getElem?_eq_getElem (by omega)];exact List.getElem_mem _)
   have hdl:(l.drop 1).length≤1000000:=by simp;omega
   have hlow:∀x,Low (pvecs x):=fun x=>(low_pvecs x).2 trivial
   refine wk ?_
   refine PW.loop (fun k:Nat=>(((((((bot.setb 1 [.nilsl, .nilsl]).setb 4009 [pints (boxK l k).lo,pints (boxK l k).hi]).put 2 (.ptr 1 0)).put 5 (.ptr 4009 0)).put 28 (pvecs (l.drop 1))).put 29 (pint (l.drop 1).length)).put 30 (pint k))) (fun k=>k≤(l.drop 1).length) (fun k=>(l.drop 1).length - k) 0 (by omega) ?_ ?_
   ·exact sb
   ·intro k hk
    obtain ⟨q1,q2⟩:=boxK_len l k
    by_cases hlt:k < (l.drop 1).length
    ·have hz1:=pw_zip 139 min (boxK l k).lo ((l.drop 1).getD k default) rfl (by omega) (by rw [hlen k hlt];omega) pw_least
     have hz2:=pw_zip 140 max (boxK l k).hi ((l.drop 1).getD k default) rfl (by omega) (by rw [hlen k hlt];omega) pw_greatest
     clear hw hc hlen e1
     refine wk ?_
     refine loopP (k+1) (by omega) (by omega) ?_
     simp only [boxK_succ hlt]
     exact sb
    ·refine wk ?_
     have hkk:k=(l.drop 1).length:=by omega
     refine retP (r:=.tup [.agg [pints (boxK l k).lo,pints (boxK l k).hi],pint 0]) rfl (by simp [low_tup,low_agg,low_pints,low_pint]) ?_
     rw [boxOf,if_neg (by rintro (h|h);exact h0 h;rw [e1] at h;cases h)]
     have:boxK l k=boxOfL l:=by rw [hkk,boxK,boxOfL,List.take_length]
     rw [this]
     exact Weak.refl _
end
section
open Go.RowKit
variable {P:Program} {T:Tab} {ops:Array Oper} {base:Nat} {ok:Nat→Nat→Bool} {i:Nat} {o:Oper} {rest:List (Nat×Oper)} {K:PS→Prop} {σ:PS}
theorem PWops.callHV {c:Call} {x:Operand} {f:FuncId} {caps args:List PV} {given res:List (Nat×List PV)} {gm rm:List (Nat×PMap)} {r:PV} (hf:Nat.blt f 1000000=true) (hp:HCalls P f args given gm r res rm) (hg:pguard ops σ o=some true) (hop:o.op = .call c) (hcal:c.callee = .value x) (hx:pev σ x = .fn f caps) (hargs:c.args.toList.map (pev σ) ++ caps=args)
  (hA:AllB σ (ok i) given) (hB:AllM σ (ok i) gm) (hn:hnewB σ (ok i) (given.map (·.1)) (gm.map (·.1)) (res.map (·.1)) (rm.map (·.1))=true) (hh:∀j id,ok j id=true) (k:PWops P T ops base ok rest K (σ.app o.dst ⟨r,res,none,rm⟩)):PWops P T ops base ok ((i,o) :: rest) K σ:=by
 refine PWops.callH hg ?_ hp hA hB hn (.inr hh) k
 unfold pcall
 rw [hop]
 simp only [hcal,hx,hf,cond_true,hargs]
end
section
open Go.RowKit
variable {P:Program} {M:Nat} {Q:Exit→PS→Prop} {σ:PS}
theorem midB {α:Type} {id:Nat} {y:Code} {st:α→PS} {I:α→Prop} (h2:∀x,I x→PW P M y Q (st x)):∀e σ,BlockP id (MidP M st I Q) e σ→BlockP id (ThenP P M y Q) e σ:=by
 intro e σ h
 cases e with
 |normal=>
  obtain ⟨x,hx,hs⟩:=h
  exact PW.sub (h2 x hx) hs
 |exit i=>
  simp only [BlockP] at h ⊢
  split at h
  ·rename_i e
   rw [if_pos e]
   obtain ⟨x,hx,hs⟩:=h
   exact PW.sub (h2 x hx) hs
  ·rename_i e
   rw [if_neg e]
   exact h
 |_=>exact h
theorem PW.cutTB {α:Type} {id:Nat} {c z y:Code} (st:α→PS) (I:α→Prop) (h1:PW P M c (ThenP P M z (BlockP id (MidP M st I Q))) σ) (h2:∀x,I x→PW P M y Q (st x)):PW P M c (ThenP P M z (BlockP id (ThenP P M y Q))) σ:=by
 refine PW.conseq h1 fun e σ' h=>?_
 cases e with
 |normal=>exact PW.conseq h (midB h2)
 |exit i=>exact midB (id:=id) h2 (.exit i) σ' h
 |goto i=>exact midB (id:=id) h2 (.goto i) σ' h
 |ret=>exact midB (id:=id) h2 .ret σ' h
 |panic c=>exact midB (id:=id) h2 (.panic c) σ' h
 |outgrown=>exact midB (id:=id) h2 .outgrown σ' h
theorem rq_fn1 {κ:Nat→Nat} {S:Nat→Prop} {f j:Nat} (hj:S j):RenQL κ S [.fn f [.ptr j 0]] [.fn f [.ptr (κ j) 0]]:=RenQL.cons (.inl (ren_fn (RenL.cons (.ptr _ _ hj) RenL.nil))) RenQL.nil
end
section
open Go.RowKit
theorem sq_bound {d:Int} (h1 : -5000≤d) (h2:d≤5000):0≤d * d∧d * d≤25000000:=by
 have h3:d * d=((d.natAbs * d.natAbs:Nat):Int):=by rw [Int.natCast_mul,Int.natAbs_mul_self']
 have h4:d.natAbs * d.natAbs≤5000 * 5000:=Nat.mul_le_mul (by omega) (by omega)
 rw [h3]
 omega
def Small30 (z:Int):Prop := -1000000000000≤z∧z≤1000000000000
def AddC (m:Int) (f:Nat):Prop:=Nat.blt f 1000000=true∧∀(id:Nat) (n d:Int),Small30 n → -5000≤d→d≤5000→HCalls Tryz.prog f [pint d, .ptr id 0] [(id,[pint n])] [] (.tup []) [(id,[pint (addM m n d)])] []
set_option maxRecDepth 10000 in
theorem hc_key1:AddC 1 257:=by
 refine ⟨rfl,fun id n d hn h1 h2=>?_⟩
 obtain ⟨h3,h4⟩:=hn
 have hdd:=sq_bound h1 h2
 have h:HCalls Tryz.prog 257 [pint d, .ptr 1000001 0] [(1000001,[pint n])] [] (.tup []) [(1000001,[pint (addM 1 n d)])] []:=by
  refine hcalls_of_pw typeTab_ok Tryz.func257 rfl (by kernel_rfl) (by simp [pint,PV.ownB]) (by rw [Tryz.ntmps257];simp) (by simp [ResIds]) (by simp [ResIds]) (by exact hok0) ?_
  rw [Tryz.ntmps257,Tryz.results257]
  refine wk ?_
  exact RetH.mk rfl (Weak.refl _) ⟨⟨_,rfl,WeakL.eq (by simp [addM,pint])⟩,trivial⟩ trivial
 exact h.at [(1000001,id)] (by simp) (by simp [ResIds]) (by simp) (by simp) (by exact ren0) (by exact ren0) (by exact ren0) (Ren.low _ (.tup _ (by simp))) (by exact ren0) (by exact ren0)
set_option maxRecDepth 10000 in
theorem hc_key2:AddC 2 258:=by
 refine ⟨rfl,fun id n d hn h1 h2=>?_⟩
 obtain ⟨h3,h4⟩:=hn
 have hdd:=sq_bound h1 h2
 have h:HCalls Tryz.prog 258 [pint d, .ptr 1000001 0] [(1000001,[pint n])] [] (.tup []) [(1000001,[pint (addM 2 n d)])] []:=by
  refine hcalls_of_pw typeTab_ok Tryz.func258 rfl (by kernel_rfl) (by simp [pint,PV.ownB]) (by rw [Tryz.ntmps258];simp) (by simp [ResIds]) (by simp [ResIds]) (by exact hok0) ?_
  rw [Tryz.ntmps258,Tryz.results258]
  refine wk ?_
  exact RetH.mk rfl (Weak.refl _) ⟨⟨_,rfl,WeakL.eq (by simp [addM,pint])⟩,trivial⟩ trivial
 exact h.at [(1000001,id)] (by simp) (by simp [ResIds]) (by simp) (by simp) (by exact ren0) (by exact ren0) (by exact ren0) (Ren.low _ (.tup _ (by simp))) (by exact ren0) (by exact ren0)
set_option maxRecDepth 10000 in
theorem hc_key3:AddC 3 259:=by
 refine ⟨rfl,fun id n d hn h1 h2=>?_⟩
 obtain ⟨h3,h4⟩:=hn
 have hdd:=sq_bound h1 h2
 have h:HCalls Tryz.prog 259 [pint d, .ptr 1000001 0] [(1000001,[pint n])] [] (.tup []) [(1000001,[pint (addM 3 n d)])] []:=by
  refine hcalls_of_pw typeTab_ok Tryz.func259 rfl (by kernel_rfl) (by simp [pint,PV.ownB]) (by rw [Tryz.ntmps259];simp) (by simp [ResIds]) (by simp [ResIds]) (by exact hok0) ?_
  rw [Tryz.ntmps259,Tryz.results259]
  refine wk ?_
  exact RetH.mk rfl (Weak.refl _) ⟨⟨_,rfl,WeakL.eq (by simp [addM,pint];split<;>omega)⟩,trivial⟩ trivial
 exact h.at [(1000001,id)] (by simp) (by simp [ResIds]) (by simp) (by simp) (by exact ren0) (by exact ren0) (by exact ren0) (Ren.low _ (.tup _ (by simp))) (by exact ren0) (by exact ren0)
def unP:List PV→Int
 | [.val (.int _ z)]=>z
 |_=>0
def keyP (m:Int) (pre:List (List PV)):Int:=keyD m (pre.map unP)
theorem keyP_snoc (m:Int) (pre:List (List PV)) (d:Int):keyP m (pre ++ [[pint d]])=addM m (keyP m pre) d:=by
 simp [keyP,keyD,unP,pint]
theorem addM_bound {m n d:Int} {k:Nat} (h : -25000000 * k≤n∧n≤25000000 * k) (h1 : -5000≤d) (h2:d≤5000) : -25000000 * ((k+1:Nat):Int)≤addM m n d∧addM m n d≤25000000 * ((k+1:Nat):Int):=by
 have:=sq_bound h1 h2
 unfold addM
 split
 ·omega
 ·split
  ·omega
  ·omega
theorem keyD_bound (m:Int):∀(ds:List Int),(∀d∈ds,-5000≤d∧d≤5000)→∀(n:Int) (k:Nat),-25000000 * k≤n∧n≤25000000 * k → -25000000 * ((k+ds.length:Nat):Int)≤ds.foldl (addM m) n∧ds.foldl (addM m) n≤25000000 * ((k+ds.length:Nat):Int)
 | [],_,n,k,h=>by simpa using h
 |d :: ds,hd,n,k,h=>by
  have h1:=hd d List.mem_cons_self
  have:=keyD_bound m ds (fun x hx=>hd x (List.mem_cons_of_mem _ hx)) (addM m n d) (k+1) (addM_bound h h1.1 h1.2)
  simp only [List.foldl_cons,List.length_cons]
  rw [show k+(ds.length+1)=k+1+ds.length by omega]
  exact this
theorem keyP_small {m:Int} {ds:List Int} (hd:∀d∈ds,-5000≤d∧d≤5000) (hl:ds.length≤1000):Small30 (keyP m (ds.map fun d => [pint d])):=by
 have h1:(ds.map fun d => [pint d]).map unP=ds:=by
  rw [List.map_map]
  have:(unP ∘ fun d => [pint d])=id:=by funext d;rfl
  rw [this,List.map_id]
 have:=keyD_bound m ds hd 0 0 (by simp)
 unfold Small30 keyP keyD
 rw [h1]
 omega
theorem part_ds {ds:List Int} {pre:List (List PV)} {x:List PV} (h:Part (ds.map fun d => [pint d]) (pre ++ [x])):∃k,k < ds.length∧x = [pint (ds.getD k default)]∧pre=(ds.take k).map fun d => [pint d]:=by
 obtain ⟨k,hk⟩:=h
 have hl:pre.length+1=min k ds.length:=by
  have:=congrArg List.length hk
  simpa using this
 have hj:pre.length < ds.length:=by omega
 refine ⟨pre.length,hj,?_,?_⟩
 ·have h1:(pre ++ [x])[pre.length]? = some x:=by simp
  rw [hk,List.getElem?_take,if_pos (by omega),List.getElem?_map,List.getElem?_eq_getElem hj] at h1
  simp only [Option.map_some,Option.some.injEq] at h1
  rw [←h1,List.getD_eq_getElem?_getD,List.getElem?_eq_getElem hj];rfl
 ·have h1:pre=(pre ++ [x]).take pre.length:=by simp
  rw [hk,List.take_take,show min pre.length k=pre.length by omega,←List.map_take] at h1
  exact h1
set_option maxRecDepth 10000 in
set_option maxHeartbeats 2000000 in
theorem pw_key (m:Int) (f:Nat) (caps:List PV) (ds:List Int) (hf:Nat.blt f 1000000=true) (hlow:∀c∈caps,Low c) (hit:ItSpec Tryz.prog f caps (Part (ds.map fun d => [pint d])) (· = ds.map fun d => [pint d])) (hd:∀d∈ds,-5000≤d∧d≤5000) (hl:ds.length≤1000) :
  PCalls Tryz.prog 232 [pint m, .fn f caps] (· = if keyB m then .tup [pint (keyD m ds),pbool true] else .tup [pint 0,pbool false]):=by
 have hlow1:Low (.fn f caps):=.fn f caps hlow
 refine pcalls_of_pw typeTab_ok Tryz.func232 rfl (by kernel_rfl) (by simp [low_pint,hlow1]) (by simp [pint,PV.ownB]) (by rw [Tryz.ntmps232];simp) ?_
 rw [Tryz.ntmps232,Tryz.results232]
 refine PW.seq ?_
 refine PW.region typeTab_ok (by kernel_rfl) ?_
 refine wg ?_
 refine PW.region typeTab_ok (by kernel_rfl) ?_
 refine wg ?_
 refine PW.region typeTab_ok (by kernel_rfl) ?_
 refine wg ?_
 refine PW.region typeTab_ok (by kernel_rfl) ?_
 refine wg ?_
 refine PW.cutTB (fun fc:Nat=>(((((bot.setb 1000 [pint 0]).setb 2001 [.fn fc [.ptr 1000 0]]).put 1 (.fn f caps)).put 6 (.ptr 1000 0)).put 7 (.ptr 2001 0))) (fun fc=>AddC m fc∧keyB m=true) ?_ ?_
 ·by_cases m1:m=1
  ·subst m1
   refine wk ?_
   exact midP 257 ⟨hc_key1,rfl⟩ (by exact sbF)
  ·by_cases m2:m=2
   ·subst m2
    refine wk ?_
    exact midP 258 ⟨hc_key2,rfl⟩ (by exact sbF)
   ·by_cases m3:m=3
    ·subst m3
     refine wk ?_
     exact midP 259 ⟨hc_key3,rfl⟩ (by exact sbF)
    ·refine wk ?_
     refine midP_ret (retP (r:=.tup [pint 0,pbool false]) rfl (by simp [low_tup,low_pint,low_pbool]) ?_)
     rw [if_neg (by simp only [keyB,Bool.and_eq_true,decide_eq_true_eq];omega)]
 ·rintro fc ⟨⟨hfc,hA⟩,hm⟩
  refine wk ?_
  refine PW.rangeFunc (A:=Part (ds.map fun d => [pint d])) (S:=(· = ds.map fun d => [pint d])) 3000000 [3002001,3001000] (fun pre=>((((bot.setb 3001000 [pint (keyP m pre)]).setb 3002001 [.fn fc [.ptr 3001000 0]]).put 6 (.ptr 3001000 0)).put 7 (.ptr 3002001 0))) (fun _=>True) trivial rfl hf hlow hit (by exact sbrF) (fun pre=>by exact kn0) (by intro pre i hi;simp only [List.mem_cons,List.not_mem_nil,or_false] at hi;rcases hi with rfl|rfl|rfl|rfl|rfl<;>rfl) rfl (by decide) (fun pre=>by exact ow0) (by simp) ?_ ?_ ?_
  ·intro pre x hx
   obtain ⟨k,-,rfl,-⟩:=part_ds hx
   refine ⟨rfl,fun p hp=>?_⟩
   simp only [List.mem_cons,List.not_mem_nil,or_false] at hp
   subst hp
   exact ⟨.val _,rfl⟩
  ·intro pre x hI hx
   obtain ⟨k,hk,rfl,hpre⟩:=part_ds hx
   simp only [putps]
   refine wk ?_
   refine normP ?_
   have hdk:=hd (ds.getD k default) (by rw [List.getD_eq_getElem?_getD,List.getElem?_eq_getElem hk];exact List.getElem_mem hk)
   have hsm:Small30 (keyP m pre):=by
    rw [hpre]
    exact keyP_small (fun d h=>hd d (List.mem_of_mem_take h)) (by simp;omega)
   have hc:=hA 3001000 (keyP m pre) (ds.getD k default) hsm hdk.1 hdk.2
   refine wk ?_
   refine PWops.callHV hfc hc rfl rfl rfl rfl rfl ⟨⟨rfl,rfl⟩,trivial⟩ trivial rfl (fun _ _=>rfl) ?_
   refine wk ?_
   refine roundP trivial ?_ (by exact lt0)
   rw [keyP_snoc]
   exact sbF
  ·intro xs hxs hI
   subst hxs
   refine ⟨((bot.setb 1000 [pint (keyD m ds)]).put 6 (.ptr 1000 0)),?_,?_⟩
   ·have:keyP m (ds.map fun d => [pint d])=keyD m ds:=by
     unfold keyP
     rw [List.map_map]
     have:(unP ∘ fun d => [pint d])=id:=by funext d;rfl
     rw [this,List.map_id]
    rw [this]
    exact sbrF
   ·refine wk ?_
    refine retP (r:=.tup [pint (keyD m ds),pbool true]) rfl (by simp [low_tup,low_pint,low_pbool]) ?_
    rw [if_pos hm]
def gapD (lo hi x:Int):Int:=max (max 0 (lo - x)) (x - hi)
set_option maxRecDepth 10000 in
theorem pw_near1 (lo hi x:Int) (h1 : -1000000≤lo∧lo≤1000000) (h2 : -1000000≤hi∧hi≤1000000) (h3 : -1000000≤x∧x≤1000000):PCalls Tryz.prog 151 [pint lo,pint hi,pint x] (· = pint (gapD lo hi x)):=by
 refine pcalls_of_pw typeTab_ok Tryz.func151 rfl (by kernel_rfl) (by simp [low_pint]) (by simp [pint,PV.ownB]) (by rw [Tryz.ntmps151];simp) ?_
 rw [Tryz.ntmps151,Tryz.results151]
 obtain ⟨a1,a2⟩:=h1
 obtain ⟨b1,b2⟩:=h2
 obtain ⟨c1,c2⟩:=h3
 refine wk ?_
 refine retP rfl (by exact lw) ?_
 simp only [if_true,pint,gapD]
 congr 2
 repeat' split
 all_goals omega
def dsOf (g:Int→Int→Int→Int) (b:PBox) (v:List Int):List Int:=(List.range v.length).map fun k=>g (b.lo.getD k default) (b.hi.getD k default) (v.getD k default)
theorem mesL_ds (g:Int→Int→Int→Int) (b:PBox) (v:List Int):mesL g b v=(dsOf g b v).map fun d => [pint d]:=by simp [mesL,dsOf]
theorem vecB_get {v:List Int} (h:vecB v=true):(1≤v.length∧v.length≤32)∧∀k,-1000≤v.getD k default∧v.getD k default≤1000:=by
 simp only [vecB,Bool.and_eq_true,decide_eq_true_eq,Bool.not_eq_true',List.any_eq_false] at h
 refine ⟨⟨h.1,h.2.1⟩,fun k=>?_⟩
 rw [List.getD_eq_getElem?_getD]
 rcases Nat.lt_or_ge k v.length with hk|hk
 ·rw [List.getElem?_eq_getElem hk]
  have:=h.2.2 v[k] (List.getElem_mem hk)
  simp [farB] at this
  simpa using this
 ·rw [List.getElem?_eq_none hk];decide
theorem boxB_vec {b:PBox} (h:boxB b=true):vecB b.lo=true∧vecB b.hi=true:=by
 simp only [boxB,Bool.and_eq_true] at h
 exact ⟨h.1,h.2.1⟩
def boxNear (m:Int) (b:PBox) (v:List Int):Int×Int:=if boxB b && (vecB v && (decide (v.length=b.lo.length) && keyB m)) then (keyD m (dsOf gapD b v),0) else (0,1)
set_option maxRecDepth 10000 in
set_option maxHeartbeats 2000000 in
theorem pw_measure (m:Int) (b:PBox) (v:List Int) (h1:b.lo.length≤1000000) (h2:b.hi.length≤1000000) (h3:v.length≤1000000):PCalls Tryz.prog 150 [pint m,pbox b,pints v, .fn 151 []] (· = .tup [pint (boxNear m b v).1,pint (boxNear m b v).2]):=by
 have hv:=pw_boxValid b (by omega) (by omega)
 have hw:=pw_isVector v (by omega)
 have hl1:=low_pboxL b
 refine pcalls_of_pw typeTab_ok Tryz.func150 rfl (by kernel_rfl) (by simp [low_pint,low_pbox,low_pints,low_fn]) (by simp [pint,pbox,pints,PV.ownB]) (by rw [Tryz.ntmps150];simp) ?_
 rw [Tryz.ntmps150,Tryz.results150]
 unfold boxNear
 unfold pbox pboxL at *
 refine PW.seq ?_
 refine PW.region typeTab_ok (by kernel_rfl) ?_
 refine wg ?_
 refine PW.freezeP (id:=0) (s:=5) (off:=0) (σ':=((((bot.setb 1 [pints v]).setb 2 [.fn 151 []]).put 0 (pint m)).put 6 (.ptr 1 0)).put 7 (.ptr 2 0)) rfl rfl hl1 ?_ rfl ?_
 ·exact sbr0
 refine PW.freezeP (id:=1) (s:=6) (off:=0) (σ':=(((bot.setb 2 [.fn 151 []]).put 0 (pint m)).put 5 (.ep [pints b.lo,pints b.hi] 0)).put 7 (.ptr 2 0)) rfl rfl (fun c hc=>by simp only [List.mem_cons,List.not_mem_nil,or_false] at hc;subst hc;exact (low_pints _).2 trivial) ?_ rfl ?_
 ·exact sbr0
 refine PW.freezeP (id:=2) (s:=7) (off:=0) (σ':=((bot.put 0 (pint m)).put 5 (.ep [pints b.lo,pints b.hi] 0)).put 6 (.ep [pints v] 0)) rfl rfl (fun c hc=>by simp only [List.mem_cons,List.not_mem_nil,or_false] at hc;subst hc;exact .fn _ _ (by simp)) ?_ rfl ?_
 ·exact sbr0
 cases e1:boxB b with
 |false=>
  rw [e1] at hv
  refine wk ?_
  exact retP (r:=.tup [pint 0,pint 1]) rfl (by simp [low_tup,low_pint]) rfl
 |true=>
  rw [e1] at hv
  cases e2:vecB v with
  |false=>
   rw [e2] at hw
   refine wk ?_
   exact retP (r:=.tup [pint 0,pint 1]) rfl (by simp [low_tup,low_pint]) rfl
  |true=>
   rw [e2] at hw
   by_cases e3:v.length=b.lo.length
   ·obtain ⟨q1,q2,q3⟩:=boxB_len e1
    obtain ⟨r1,r2⟩:=boxB_vec e1
    obtain ⟨-,g1⟩:=vecB_get r1
    obtain ⟨-,g2⟩:=vecB_get r2
    obtain ⟨-,g3⟩:=vecB_get e2
    have hit:=it_measure 151 gapD b v rfl (by omega) (by omega) (by omega) (by omega) (by omega) (fun k _=>pw_near1 _ _ _ (by have:=g1 k;omega) (by have:=g2 k;omega) (by have:=g3 k;omega))
    rw [mesL_ds] at hit
    have hk:=pw_key m 233 [.ep [pints v] 0, .ep [.fn 151 []] 0, .ep [pints b.lo,pints b.hi] 0] (dsOf gapD b v) rfl (by simp [low_ep,low_pints,low_fn]) hit (fun d hd=>by
     obtain ⟨k,-,rfl⟩:=List.mem_map.1 hd
     have:=g1 k;have:=g2 k;have:=g3 k
     unfold gapD;omega) (by simp [dsOf];omega)
    cases e4:keyB m with
    |false=>
     rw [e4] at hk
     simp only [Bool.false_eq_true,if_false] at hk
     refine wk ?_
     exact retP (r:=.tup [pint 0,pint 1]) rfl (by simp [low_tup,low_pint]) (by simp)
    |true=>
     rw [e4] at hk
     simp only [if_true] at hk
     refine wk ?_
     exact retP (r:=.tup [pint (keyD m (dsOf gapD b v)),pint 0]) rfl (by simp [low_tup,low_pint]) (by simp [e3])
   ·refine wk ?_
    exact retP (r:=.tup [pint 0,pint 1]) rfl (by simp [low_tup,low_pint]) (by simp [e3])
set_option maxRecDepth 10000 in
theorem pw_boxNear (m:Int) (b:PBox) (v:List Int) (h1:b.lo.length≤1000000) (h2:b.hi.length≤1000000) (h3:v.length≤1000000):PCalls Tryz.prog 76 [pint m,pbox b,pints v] (· = .tup [pint (boxNear m b v).1,pint (boxNear m b v).2]):=by
 have h:=pw_measure m b v h1 h2 h3
 have hl1:=low_pboxL b
 refine pcalls_of_pw typeTab_ok Tryz.func76 rfl (by kernel_rfl) (by simp [low_pint,low_pbox,low_pints]) (by simp [pint,pbox,pints,PV.ownB]) (by rw [Tryz.ntmps76];simp) ?_
 rw [Tryz.ntmps76,Tryz.results76]
 generalize boxNear m b v=r at *
 unfold pbox pboxL at *
 refine wk ?_
 exact retP (r:=.tup [pint r.1,pint r.2]) rfl (by simp [low_tup,low_pint]) rfl
end
end Go.Proofs.YtoamkpgaaanafaaGreat
