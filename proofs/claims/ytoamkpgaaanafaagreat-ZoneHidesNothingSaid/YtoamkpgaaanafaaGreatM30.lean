/- Out of: Zm, Zn, Qe, Qf, Wg, Row18e. -/
import Derived.Test.YtoamkpgaaanafaaGreatM24
import Derived.Test.YtoamkpgaaanafaaGreatM26
import Derived.Test.YtoamkpgaaanafaaGreatM29
namespace Go.Proofs.YtoamkpgaaanafaaGreat
set_option linter.unusedSimpArgs false
set_option linter.unusedVariables false
set_option linter.unnecessarySimpa false
section
open Go.RowKit
def pivotsB (m:Int) (pv:List (List Int)):Bool:=keyB m && (fitB pv && decide (pv.length≤8))
set_option maxRecDepth 10000 in
theorem pw_arePivots (m:Int) (pv:List (List Int)) (h1:pv.length≤1000000) (hv:∀v∈pv,v.length≤1000000):PCalls Tryz.prog 227 [pint m,pvecs pv] (· = pbool (pivotsB m pv)):=by
 have a1:=pw_isMetric m
 have a2:=pw_fit pv h1 hv
 refine pcalls_of_pw typeTab_ok Tryz.func227 rfl (by kernel_rfl) (by simp [low_pvecs,low_pint]) (by simp [pvecs,pint,PV.ownB]) (by rw [Tryz.ntmps227];simp) ?_
 rw [Tryz.ntmps227,Tryz.results227]
 have hlow:∀x,Low (pvecs x):=fun x=>(low_pvecs x).2 trivial
 unfold pivotsB
 cases e1:keyB m with
 |false=>
  rw [e1] at a1
  refine wk ?_
  exact retP rfl (by exact lw) rfl
 |true=>
  rw [e1] at a1
  cases e2:fitB pv with
  |false=>
   rw [e2] at a2
   refine wk ?_
   exact retP rfl (by exact lw) rfl
  |true=>
   rw [e2] at a2
   by_cases h:pv.length≤8
   ·refine wk ?_
    exact retP rfl (by exact lw) (by simp [pbool,h])
   ·refine wk ?_
    exact retP rfl (by exact lw) (by simp [pbool,h])
theorem fitB_get {l:List (List Int)} (h:fitB l=true):(1≤l.length∧l.length≤4096)∧∀k,k < l.length→vecB (l.getD k default)=true∧(l.getD k default).length=(l.getD 0 default).length:=by
 simp only [fitB,Bool.and_eq_true,decide_eq_true_eq,Bool.not_eq_true',List.any_eq_false] at h
 refine ⟨⟨h.1,h.2.1⟩,fun k hk=>?_⟩
 have:=h.2.2 _ (getD_mem hk)
 simp [alikeB] at this
 exact ⟨this.2.2,this.1.symm⟩
def keysP (m:Int) (pv:List (List Int)) (v:List Int):List Int:=pv.map fun p=>keyV m p v
theorem keysP_take {m:Int} {pv:List (List Int)} {v:List Int} {k:Nat} (h:k < pv.length):(keysP m pv v).take (k+1)=(keysP m pv v).take k ++ [keyV m (pv.getD k default) v]:=by
 rw [List.take_add_one]
 congr 1
 simp [keysP,h]
theorem low_intsapp (n:Nat) (l:List Int) (x:Int) (own:Option TypeId):Low (.sl n 1 (l.map pint ++ [pint x]) own):=by
 refine .sl _ _ _ _ fun c hc=>?_
 rcases List.mem_append.1 hc with h|h
 ·obtain ⟨z,-,rfl⟩:=List.mem_map.1 h;exact .val _
 ·simp at h;subst h;exact .val _
theorem low_ints (n:Nat) (l:List Int) (own:Option TypeId):Low (.sl n 1 (l.map pint) own):=.sl _ _ _ _ fun c hc=>by
 obtain ⟨z,-,rfl⟩:=List.mem_map.1 hc;exact .val _
set_option maxRecDepth 10000 in
set_option maxHeartbeats 1000000 in
theorem pw_pkeys (m:Int) (pv:List (List Int)) (v:List Int) (hm:keyB m=true) (h1:pv.length≤1000000) (hp:∀k,k < pv.length→vecB (pv.getD k default)=true∧(pv.getD k default).length=v.length) (hv:vecB v=true):PCalls Tryz.prog 230 [pint m,pvecs pv,pints v] (· = pints (keysP m pv v)):=by
 have hlow:∀x,Low (pvecs x):=fun x=>(low_pvecs x).2 trivial
 obtain ⟨⟨v1,v2⟩,-⟩:=vecB_get hv
 refine PCalls.weak ?_
 refine pcalls_of_pw typeTab_ok Tryz.func230 rfl (by kernel_rfl) (by simp [low_pvecs,low_pint,low_pints]) (by simp [pvecs,pints,pint,PV.ownB]) (by rw [Tryz.ntmps230];simp) ?_
 rw [Tryz.ntmps230,Tryz.results230]
 refine wk ?_
 refine PW.loop (fun k:Nat=>((((((bot.put 0 (pint m)).put 2 (pints v)).put 7 (.sl k 1 (((keysP m pv v).take k).map pint) (some 3))).put 10 (pvecs pv)).put 11 (pint pv.length)).put 12 (pint k))) (fun k=>k≤pv.length) (fun k=>pv.length - k) 0 (by omega) ?_ ?_
 ·exact sb
 ·intro k hk
  by_cases hlt:k < pv.length
  ·obtain ⟨b1,b2⟩:=hp k hlt
   have p1:=pw_vecKey m (pv.getD k default) v hm b1 hv b2
   refine wk ?_
   refine loopP (k+1) (by omega) (by omega) ?_
   simp only [keysP_take hlt,List.map_append,List.map_cons,List.map_nil]
   have hl3:=low_intsapp (k+1) ((keysP m pv v).take k) (keyV m (pv.getD k default) v) (some 3)
   exact sb
  ·refine wk ?_
   have hkk:k=pv.length:=by omega
   refine retP (r:=.sl k 1 (((keysP m pv v).take k).map pint) none) rfl (low_ints _ _ _) ?_
   rw [List.take_of_length_le (by simp [keysP,hkk]),hkk,show pv.length=(keysP m pv v).length by simp [keysP]]
   exact Weak.refl _
def tabB (m:Int) (pv l:List (List Int)):Bool:=pivotsB m pv && (fitB l && alikeB (pv.getD 0 default) (l.getD 0 default))
def tabL (m:Int) (pv l:List (List Int)):List (List Int):=l.map (keysP m pv)
def tabP (m:Int) (pv l:List (List Int)):List (List Int)×Int:=if tabB m pv l then (tabL m pv l,0) else ([],1)
theorem tabL_take {m:Int} {pv l:List (List Int)} {k:Nat} (h:k < l.length):(tabL m pv l).take (k+1)=(tabL m pv l).take k ++ [keysP m pv (l.getD k default)]:=by
 rw [List.take_add_one]
 congr 1
 simp [tabL,h]
theorem tabB_get {m:Int} {pv l:List (List Int)} (h:tabB m pv l=true):keyB m=true∧(1≤pv.length∧pv.length≤8)∧(1≤l.length∧l.length≤4096)∧(∀i k,i < l.length→k < pv.length→(vecB (pv.getD k default)=true∧(pv.getD k default).length=(l.getD i default).length))∧∀i,i < l.length→vecB (l.getD i default)=true:=by
 simp only [tabB,pivotsB,Bool.and_eq_true,decide_eq_true_eq] at h
 obtain ⟨⟨a1,a2,a3⟩,a4,a5⟩:=h
 obtain ⟨⟨b1,b2⟩,b3⟩:=fitB_get a2
 obtain ⟨c1,c3⟩:=fitB_get a4
 simp only [alikeB,Bool.and_eq_true,decide_eq_true_eq] at a5
 refine ⟨a1,⟨b1,a3⟩,c1,fun i k hi hk=>⟨(b3 k hk).1,?_⟩,fun i hi=>(c3 i hi).1⟩
 rw [(b3 k hk).2,(c3 i hi).2,a5.1]
theorem low_pvecL (l:List (List Int)):∀c∈l.map pints,Low c:=by
 intro c hc
 obtain ⟨z,-,rfl⟩:=List.mem_map.1 hc
 simp [low_pints]
set_option maxRecDepth 10000 in
set_option maxHeartbeats 2000000 in
theorem pw_table (m:Int) (pv l:List (List Int)) (h1:pv.length≤1000000) (h2:∀v∈pv,v.length≤1000000) (h3:l.length≤1000000) (h4:∀v∈l,v.length≤1000000):PCalls Tryz.prog 141 [pint m,pvecs pv,pvecs l] (· = .tup [pvecs (tabP m pv l).1,pint (tabP m pv l).2]):=by
 have hlow:∀x,Low (pvecs x):=fun x=>(low_pvecs x).2 trivial
 have a1:=pw_arePivots m pv h1 h2
 have a2:=pw_fit l h3 h4
 refine PCalls.weak ?_
 refine pcalls_of_pw typeTab_ok Tryz.func141 rfl (by kernel_rfl) (by simp [low_pvecs,low_pint]) (by simp [pvecs,pint,PV.ownB]) (by rw [Tryz.ntmps141];simp) ?_
 rw [Tryz.ntmps141,Tryz.results141]
 have hnil:Weak (.tup [.nilsl, .val (.int .i64 1)]) (.tup [pvecs [],pint 1]):=Weak.tup (.cons (Weak.nil 1) (.cons (Weak.refl _) .nil))
 cases e1:pivotsB m pv with
 |false=>
  rw [e1] at a1
  clear a2
  refine wk ?_
  refine retP (r:=.tup [.nilsl,pint 1]) rfl (by simp [low_tup,low_nilsl,low_pint]) ?_
  simp only [tabP,tabB,e1,Bool.false_and,Bool.false_eq_true,if_false]
  exact hnil
 |true=>
  rw [e1] at a1
  cases e2:fitB l with
  |false=>
   rw [e2] at a2
   refine wk ?_
   refine retP (r:=.tup [.nilsl,pint 1]) rfl (by simp [low_tup,low_nilsl,low_pint]) ?_
   simp only [tabP,tabB,e2,Bool.false_and,Bool.and_false,Bool.false_eq_true,if_false]
   exact hnil
  |true=>
   rw [e2] at a2
   have q1:0 < pv.length:=by
    simp only [pivotsB,Bool.and_eq_true] at e1
    have:=(fitB_get e1.2.1).1;omega
   have q2:0 < l.length:=(fitB_get e2).1.1
   have a3:=pw_alike (pv.getD 0 default) (l.getD 0 default) (h2 _ (getD_mem q1)) (h4 _ (getD_mem q2))
   cases e3:alikeB (pv.getD 0 default) (l.getD 0 default) with
   |false=>
    rw [e3] at a3
    refine wk ?_
    refine retP (r:=.tup [.nilsl,pint 1]) rfl (by simp [low_tup,low_nilsl,low_pint]) ?_
    simp only [tabP,tabB,e3,Bool.and_false,Bool.false_eq_true,if_false]
    exact hnil
   |true=>
    rw [e3] at a3
    have ht:tabB m pv l=true:=by simp only [tabB,e1,e2,e3,Bool.and_self]
    obtain ⟨g1,g2,g3,g4,g5⟩:=tabB_get ht
    unfold tabP
    rw [if_pos ht]
    refine wk ?_
    refine PW.loop (fun k:Nat=>((((((bot.put 0 (pint m)).put 1 (pvecs pv)).put 8 (.sl k 1 (((tabL m pv l).take k).map pints) (some 27))).put 30 (pvecs l)).put 31 (pint l.length)).put 32 (pint k))) (fun k=>k≤l.length) (fun k=>l.length - k) 0 (by omega) ?_ ?_
    ·exact sb
    ·intro k hk
     clear a1 a2 a3
     by_cases hlt:k < l.length
     ·have p1:=pw_pkeys m pv (l.getD k default) g1 h1 (fun j hj=>g4 k j hlt hj) (g5 k hlt)
      refine wk ?_
      refine loopP (k+1) (by omega) (by omega) ?_
      simp only [tabL_take hlt,List.map_append,List.map_cons,List.map_nil]
      have hl3:Low (.sl (k+1) 1 (((tabL m pv l).take k).map pints ++ [pints (keysP m pv (l.getD k default))]) (some 27)):=by
       refine .sl _ _ _ _ fun c hc=>?_
       rcases List.mem_append.1 hc with h|h
       ·exact low_pvecL _ c h
       ·simp at h;subst h;simp [low_pints]
      exact sb
     ·refine wk ?_
      have hkk:k=l.length:=by omega
      refine retP (r:=.tup [.sl k 1 (((tabL m pv l).take k).map pints) none,pint 0]) rfl (low_tup.2 (by simp only [List.mem_cons,List.not_mem_nil,or_false];rintro c (rfl|rfl);exact .sl _ _ _ _ (low_pvecL _);exact .val _)) ?_
      rw [List.take_of_length_le (by simp [tabL,hkk]),hkk,show l.length=(tabL m pv l).length by simp [tabL]]
      exact Weak.refl _
theorem idxF_idxGo {α:Type} (p:α→Bool):∀(l:List α) (k:Int),idxGo (l.map p) k=(match l.findIdx? p with|some i=>k+i|none => -1)
 | [],k=>by simp [idxGo]
 |a :: l,k=>by
  rw [List.map_cons,idxGo,List.findIdx?_cons]
  cases h:p a with
  |true=>simp
  |false=>
   simp only [Bool.false_eq_true,if_false]
   rw [idxF_idxGo p l (k+1)]
   cases l.findIdx? p with
   |none=>rfl
   |some i=>show k+1+(i:Int)=k+((i+1:Nat):Int);omega
theorem idxF_findI (l:List PDef) (nm:ByteArray):idxF (fun d=>eqB d.name nm) l=findI l nm:=by
 unfold findI idxB
 rw [idxF_idxGo]
 unfold idxF
 cases l.findIdx? (fun d=>eqB d.name nm) with
 |none=>rfl
 |some i=>simp
def fYes:PV:=.ep [.fn 160 []] 0
def fNo:PV:=.ep [.fn 161 []] 0
def fNever:PV:=.ep [.fn 162 []] 0
def fAlways:PV:=.ep [.fn 163 []] 0
theorem low_fn0 (f:Nat):Low (.fn f []):=.fn _ _ (by simp)
theorem low_fe (f:Nat):∀c ∈ [PV.fn f []],Low c:=by
 intro c hc
 simp only [List.mem_cons,List.not_mem_nil,or_false] at hc
 subst hc;exact low_fn0 f
theorem low_fep (f:Nat):Low (.ep [.fn f []] 0):=.ep _ _ (low_fe f)
def waysE:List (Nat×PV×PV) := [(0,pint 1, .fn 164 []),(1,pint 2, .fn 165 [fNever,fNo]),(2,pint 3, .fn 168 [fYes,fAlways]),(3,pint 4, .fn 169 []),(4,pint 5, .fn 170 []),(5,pint 6, .fn 172 []),(6,pint 7, .fn 173 [])]
def waysM:PMap:=.map waysE 7
theorem low_ways:∀e∈waysE,Low e.2.1∧Low e.2.2:=by
 intro e he
 simp only [waysE,List.mem_cons,List.not_mem_nil,or_false] at he
 have l2:∀(f a b:Nat),Low (.fn f [.ep [.fn a []] 0, .ep [.fn b []] 0]):=fun f a b=>.fn _ _ (by
  intro c hc
  simp only [List.mem_cons,List.not_mem_nil,or_false] at hc
  rcases hc with rfl|rfl<;>exact low_fep _)
 rcases he with rfl|rfl|rfl|rfl|rfl|rfl|rfl<;>refine ⟨.val _,?_⟩<;>first|exact low_fn0 _|exact l2 _ _ _
set_option maxRecDepth 10000 in
set_option maxHeartbeats 1000000 in
theorem hc_ways1:HCalls Tryz.prog 84 [] [] [] (.mref 5000) [] [(5000,waysM)]:=by
 have e1:=low_fe 160
 have e2:=low_fe 161
 have e3:=low_fe 162
 have e4:=low_fe 163
 refine hcalls_of_pw typeTab_ok Tryz.func84 rfl (by kernel_rfl) (by simp) (by rw [Tryz.ntmps84];simp) (by simp [ResIds]) (by simp [ResIds]) ⟨by exact li0,by exact li0,lm_nil, .mref _ (by simp [ResIds]),by exact li0,lm_cons low_ways lm_nil,by simp,by simp⟩ ?_
 rw [Tryz.ntmps84,Tryz.results84]
 refine PW.seq ?_
 refine PW.region typeTab_ok (by kernel_rfl) ?_
 refine wg ?_
 refine PW.region typeTab_ok (by kernel_rfl) ?_
 refine wg ?_
 refine PW.region typeTab_ok (by kernel_rfl) ?_
 refine wg ?_
 refine PW.region typeTab_ok (by kernel_rfl) ?_
 refine wg ?_
 refine PW.region typeTab_ok (by kernel_rfl) ?_
 refine wg ?_
 have hf1:Low fYes:=low_fep _
 have hf2:Low fNo:=low_fep _
 have hf3:Low fNever:=low_fep _
 have hf4:Low fAlways:=low_fep _
 refine PW.freezeP (id:=1000) (s:=1) (off:=0) (σ':=(((((bot.setb 2000 [.fn 161 []]).setb 3000 [.fn 162 []]).setb 4000 [.fn 163 []]).put 2 (.ptr 2000 0)).put 3 (.ptr 3000 0)).put 4 (.ptr 4000 0)) rfl rfl e1 (by exact sbr0) rfl ?_
 refine PW.freezeP (id:=2000) (s:=2) (off:=0) (σ':=((((bot.setb 3000 [.fn 162 []]).setb 4000 [.fn 163 []]).put 1 fYes).put 3 (.ptr 3000 0)).put 4 (.ptr 4000 0)) rfl rfl e2 (by exact sbr0) rfl ?_
 refine PW.freezeP (id:=3000) (s:=3) (off:=0) (σ':=(((bot.setb 4000 [.fn 163 []]).put 1 fYes).put 2 fNo).put 4 (.ptr 4000 0)) rfl rfl e3 (by exact sbr0) rfl ?_
 refine PW.freezeP (id:=4000) (s:=4) (off:=0) (σ':=((bot.put 1 fYes).put 2 fNo).put 3 fNever) rfl rfl e4 (by exact sbr0) rfl ?_
 refine wk ?_
 refine PWops.mkMG rfl rfl rfl rfl ?_
 refine PWops.mins rfl rfl rfl rfl rfl rfl rfl rfl rfl rfl rfl rfl rfl ?_
 (refine ops0 ?_)
 refine PWops.mins rfl rfl rfl rfl rfl rfl rfl rfl rfl rfl rfl rfl rfl ?_
 (refine ops0 ?_)
 refine PWops.mins rfl rfl rfl rfl rfl rfl rfl rfl rfl rfl rfl rfl rfl ?_
 refine PWops.mins rfl rfl rfl rfl rfl rfl rfl rfl rfl rfl rfl rfl rfl ?_
 refine PWops.mins rfl rfl rfl rfl rfl rfl rfl rfl rfl rfl rfl rfl rfl ?_
 refine PWops.mins rfl rfl rfl rfl rfl rfl rfl rfl rfl rfl rfl rfl rfl ?_
 refine PWops.mins rfl rfl rfl rfl rfl rfl rfl rfl rfl rfl rfl rfl rfl ?_
 refine wk ?_
 exact RetH.mk rfl (Weak.refl _) trivial ⟨⟨rfl,rfl⟩,trivial⟩
theorem hc_ways (id:Nat):HCalls Tryz.prog 84 [] [] [] (.mref id) [] [(id,waysM)]:=
 hc_ways1.at [(5000,id)] (by simp) (by simp [ResIds]) (by simp) (by simp) RenL.nil RenB.nil RenMs.nil (.mref _ (by simp [ResIds])) RenB.nil (RenMs.cons _ _ _ _ _ (RenM.low low_ways) RenMs.nil)
set_option maxRecDepth 10000 in
theorem pw_yes (t:PTruth):PCalls Tryz.prog 160 [ptruth t] (· = pbool t.yes):=by
 refine pcalls_of_pw typeTab_ok Tryz.func160 rfl (by kernel_rfl) (by simp [ptruth,truthL,low_agg,low_pbool]) (by simp [ptruth,PV.ownB]) (by rw [Tryz.ntmps160];simp) ?_
 rw [Tryz.ntmps160,Tryz.results160]
 unfold ptruth truthL
 refine wk ?_
 exact retP rfl (by exact lw) rfl
set_option maxRecDepth 10000 in
theorem pw_no (t:PTruth):PCalls Tryz.prog 161 [ptruth t] (· = pbool t.no):=by
 refine pcalls_of_pw typeTab_ok Tryz.func161 rfl (by kernel_rfl) (by simp [ptruth,truthL,low_agg,low_pbool]) (by simp [ptruth,PV.ownB]) (by rw [Tryz.ntmps161];simp) ?_
 rw [Tryz.ntmps161,Tryz.results161]
 unfold ptruth truthL
 refine wk ?_
 exact retP rfl (by exact lw) rfl
set_option maxRecDepth 10000 in
theorem pw_never (t:PTruth):PCalls Tryz.prog 162 [ptruth t] (· = pbool (!t.yes)):=by
 refine pcalls_of_pw typeTab_ok Tryz.func162 rfl (by kernel_rfl) (by simp [ptruth,truthL,low_agg,low_pbool]) (by simp [ptruth,PV.ownB]) (by rw [Tryz.ntmps162];simp) ?_
 rw [Tryz.ntmps162,Tryz.results162]
 unfold ptruth truthL
 refine wk ?_
 exact retP rfl (by exact lw) rfl
set_option maxRecDepth 10000 in
theorem pw_always (t:PTruth):PCalls Tryz.prog 163 [ptruth t] (· = pbool (!t.no)):=by
 refine pcalls_of_pw typeTab_ok Tryz.func163 rfl (by kernel_rfl) (by simp [ptruth,truthL,low_agg,low_pbool]) (by simp [ptruth,PV.ownB]) (by rw [Tryz.ntmps163];simp) ?_
 rw [Tryz.ntmps163,Tryz.results163]
 unfold ptruth truthL
 refine wk ?_
 exact retP rfl (by exact lw) rfl
set_option maxRecDepth 10000 in
theorem pw_some (f:Nat) (p:PTruth→Bool) (l:List PTruth) (hf:Nat.blt f 1000000=true) (hl:l.length≤1000000000000) (hp:∀t,PCalls Tryz.prog f [ptruth t] (· = pbool (p t))):PCalls Tryz.prog 167 [ptruths l, .fn f []] (· = pbool (l.any p)):=by
 have h:=pw_anyT f [] p l hf hl (by simp) (fun k _=>hp _)
 have hl1:=low_fn0 f
 refine pcalls_of_pw typeTab_ok Tryz.func167 rfl (by kernel_rfl) (by simp [low_ptruths,hl1]) (by simp [ptruths,PV.ownB]) (by rw [Tryz.ntmps167];simp) ?_
 rw [Tryz.ntmps167,Tryz.results167]
 refine wk ?_
 exact retP rfl (by exact lw) rfl
set_option maxRecDepth 10000 in
theorem pw_fieldD (nm:ByteArray) (d:PDef):PCalls Tryz.prog 241 [.agg (pdefL d), .ep [pstr nm] 0] (· = pbool (eqB d.name nm)):=by
 have hl1:Low (.ep [pstr nm] 0):=by simp [low_ep,low_pstr]
 have hd:=low_pdefL d
 refine pcalls_of_pw typeTab_ok Tryz.func241 rfl (by kernel_rfl) (by simp [low_pdef,hl1]) (by simp [PV.ownB]) (by rw [Tryz.ntmps241];simp) ?_
 rw [Tryz.ntmps241,Tryz.results241]
 unfold pdefL at *
 cases e:eqB d.name nm <;>
 ·have e' : (d.name.toList == nm.toList)=_:=e
  refine wk ?_
  exact retP rfl (by exact lw) rfl
set_option maxRecDepth 10000 in
theorem pw_other (p:PPred) (w:ByteArray):PCalls Tryz.prog 174 [pstr w, .ep (prL p) 0] (· = pbool (!eqB w p.s)):=by
 have hl1:Low (.ep (prL p) 0):=.ep _ _ (low_prL p)
 refine pcalls_of_pw typeTab_ok Tryz.func174 rfl (by kernel_rfl) (by simp [low_pstr,hl1]) (by simp [pstr,PV.ownB]) (by rw [Tryz.ntmps174];simp) ?_
 rw [Tryz.ntmps174,Tryz.results174]
 cases e:eqB w p.s with
 |true=>
  have e' : (!(w.toList == p.s.toList))=false:=by rw [show (w.toList == p.s.toList)=true from e];rfl
  refine wk ?_
  exact retP rfl (by exact lw) rfl
 |false=>
  have e' : (!(w.toList == p.s.toList))=true:=by rw [show (w.toList == p.s.toList)=false from e];rfl
  refine wk ?_
  exact retP rfl (by exact lw) rfl
def wC (s:PSchema) (z:PSum) (m:Nat):List PV := [pint s.dims,pint s.metric,pdefs s.defs,pint z.count,pints z.box.lo,pints z.box.hi,pshells z.shells,pint z.fromLo,pint z.fromHi,pint z.toHi,pint z.bornLo,pint z.bornHi,pflds z.fields, .mref m]
def wG (s:PSchema) (z:PSum) (w m:Nat):List (Nat×List PV) := [(w,wC s z m)]
def wMs (m:Nat):List (Nat×PMap) := [(m,waysM)]
theorem wC_lowI {S:Nat→Prop} (s:PSchema) (z:PSum) {m:Nat} (h:S m):∀p∈wC s z m,LowI S p:=by
 intro p hp
 simp only [wC,List.mem_cons,List.not_mem_nil,or_false] at hp
 rcases hp with rfl|rfl|rfl|rfl|rfl|rfl|rfl|rfl|rfl|rfl|rfl|rfl|rfl|rfl
 ·exact .val _
 ·exact .val _
 ·exact ((low_pdefs _).2 trivial).lowI
 ·exact .val _
 ·exact ((low_pints _).2 trivial).lowI
 ·exact ((low_pints _).2 trivial).lowI
 ·exact ((low_pshells _).2 trivial).lowI
 ·exact .val _
 ·exact .val _
 ·exact .val _
 ·exact .val _
 ·exact .val _
 ·exact ((low_pflds _).2 trivial).lowI
 ·exact .mref _ h
theorem wG_lowI {S:Nat→Prop} (s:PSchema) (z:PSum) {w m:Nat} (h:S m):∀x∈wG s z w m,∀p∈x.2,LowI S p:=by
 intro x hx
 simp only [wG,List.mem_cons,List.not_mem_nil,or_false] at hx
 subst hx
 exact wC_lowI s z h
theorem w_givB (s:PSchema) (z:PSum):GivB (wG s z 1000001 1000002):=by unfold wG wC;(first|assumption|(repeat (first|exact givb_nil|exact ows_nil|exact dC_owns _|exact rC_owns _|refine givb_cons ?_ ?_|refine ows_cons ?_ ?_|exact owns_no rfl|exact psecs_owns _ _|assumption)))
theorem w_givM:GivM (wMs 1000002):=by
 unfold wMs waysM waysE
 refine givm_cons ?_ givm_nil
 intro e he
 simp only [List.mem_cons,List.not_mem_nil,or_false] at he
 rcases he with rfl|rfl|rfl|rfl|rfl|rfl|rfl<;>exact owns_no rfl
theorem w_ok (s:PSchema) (z:PSum) {args:List PV} {r:PV} (ha:∀p∈args,LowI (fun i=>i∈ResIds (wG s z 1000001 1000002) (wMs 1000002)) p) (hr:Low r):HOk args (wG s z 1000001 1000002) (wMs 1000002) r (wG s z 1000001 1000002) (wMs 1000002):=
 ⟨ha,wG_lowI s z (by simp [ResIds,wG,wMs]),lm_cons low_ways lm_nil,hr.lowI,wG_lowI s z (by simp [ResIds,wG,wMs]),lm_cons low_ways lm_nil,by simp,by simp⟩
def WCalls (s:PSchema) (z:PSum) (f:Nat) (args:List PV) (r:PV):Prop:=HCalls Tryz.prog f args (wG s z 1000001 1000002) (wMs 1000002) r (wG s z 1000001 1000002) (wMs 1000002)
theorem w_ret {s:PSchema} {z:PSum} {T:Tab} {rs:List ResultVar} {r:PV} {σ:PS} (h1:presult T σ rs=some r) (h3:σ.b 1000001=some (wC s z 1000002)) (h4:σ.m 1000002=some waysM):RetH T rs r (wG s z 1000001 1000002) (wMs 1000002) .ret σ:=
 RetH.mk h1 (Weak.refl _) ⟨⟨_,h3,WeakL.refl _⟩,trivial⟩ ⟨⟨rfl,h4⟩,trivial⟩
set_option maxRecDepth 10000 in
set_option maxHeartbeats 1000000 in
theorem hc_field (s:PSchema) (z:PSum) (nm:ByteArray) (h0:0≤findI s.defs nm) (h1:(findI s.defs nm).toNat < z.fields.length) (hd:s.defs.length≤1000) (hz:z.fields.length≤1000000):WCalls s z 171 [.ptr 1000001 0,pstr nm] (pfld (fieldAt s z nm)):=by
 have hl1:Low (.ep [pstr nm] 0):=by simp [low_ep,low_pstr]
 have c1:=pw_idxD 241 [.ep [pstr nm] 0] (fun d=>eqB d.name nm) s.defs rfl (by omega) (by simp [hl1]) (fun k _=>pw_fieldD nm _)
 rw [idxF_findI] at c1
 unfold fieldAt
 obtain ⟨n,hn⟩:∃n:Nat,findI s.defs nm=n:=⟨(findI s.defs nm).toNat,by omega⟩
 rw [hn] at c1 h1 ⊢
 rw [Int.toNat_natCast] at h1 ⊢
 have hp1:Low (pdefs s.defs):=(low_pdefs _).2 trivial
 have hp2:Low (pshells z.shells):=(low_pshells _).2 trivial
 have hp3:Low (pflds z.fields):=(low_pflds _).2 trivial
 have hlw:=low_ways
 have hlz:=low_pfldL ⟨0,0,0,[]⟩
 have hlk:=low_pfldL (z.fields.getD n default)
 unfold WCalls
 refine hcalls_of_pw typeTab_ok Tryz.func171 rfl (by kernel_rfl) (by simp [pstr,PV.ownB]) (by rw [Tryz.ntmps171];simp) (by simp [ResIds,wG,wMs]) (by simp [ResIds,wG,wMs]) (w_ok s z (li_cons (.ptr _ _ (by simp [ResIds,wG,wMs])) (li_cons (.val _) li_nil)) ((low_pfld _).2 trivial)) ?_ (w_givB s z) w_givM
 rw [Tryz.ntmps171,Tryz.results171]
 refine PW.seq ?_
 refine PW.region typeTab_ok (by kernel_rfl) ?_
 refine wg ?_
 refine PW.freezeP (id:=0) (s:=3) (off:=0) (σ':=(bot.setb 1000001 (wC s z 1000002) |>.setb 1 [pint 0,pint 0,pint 0, .nilsl] |>.setm 1000002 waysM |>.put 0 (.ptr 1000001 0) |>.put 4 (.ptr 1 0))) rfl rfl (fun c hc=>by simp only [List.mem_cons,List.not_mem_nil,or_false] at hc;subst hc;exact .val _) (by exact sbr0) rfl ?_
 refine wk ?_
 exact w_ret rfl rfl rfl
set_option maxRecDepth 10000 in
set_option maxHeartbeats 1000000 in
theorem hc_all (s:PSchema) (z:PSum) (p:PPred) (hl:p.subs.length≤1000000) (h:∀k,k < p.subs.length→WCalls s z 85 [.ptr 1000001 0,ppred (p.subs.getD k default)] (ptruth (canZ s z (p.subs.getD k default)))):WCalls s z 166 [.ptr 1000001 0,ppred p] (ptruths (p.subs.map (canZ s z))):=by
 have hp1:Low (pdefs s.defs):=(low_pdefs _).2 trivial
 have hp2:Low (pshells z.shells):=(low_pshells _).2 trivial
 have hp3:Low (pflds z.fields):=(low_pflds _).2 trivial
 have hlw:=low_ways
 have hps:Low (ppreds p.subs):=(low_ppreds _).2 trivial
 unfold WCalls at *
 refine hcalls_of_pw typeTab_ok Tryz.func166 rfl (by kernel_rfl) (by simp [ppred,PV.ownB]) (by rw [Tryz.ntmps166];simp) (by simp [ResIds,wG,wMs]) (by simp [ResIds,wG,wMs]) (w_ok s z (li_cons (.ptr _ _ (by simp [ResIds,wG,wMs])) (li_cons ((low_ppred p).2 trivial).lowI li_nil)) ((low_ptruths _).2 trivial)) ?_ (w_givB s z) w_givM
 rw [Tryz.ntmps166,Tryz.results166]
 unfold ppred
 rw [prL_eq]
 refine wk ?_
 refine PW.loop (fun k:Nat=>(bot.setb 1000001 (wC s z 1000002) |>.setm 1000002 waysM |>.put 0 (.ptr 1000001 0) |>.put 5 (.sl k 2 (((p.subs.take k).map (canZ s z)).flatMap truthL) (some 134)) |>.put 9 (ppreds p.subs) |>.put 10 (pint p.subs.length) |>.put 11 (pint k))) (fun k=>k≤p.subs.length) (fun k=>p.subs.length - k) 0 (by omega) ?_ ?_
 ·exact sb
 intro k hk
 by_cases hlt:k < p.subs.length
 ·have h1:=h k hlt
  unfold ppred at h1
  have hlk:=low_prL (p.subs.getD k default)
  have e:((p.subs.take (k+1)).map (canZ s z)).flatMap truthL=((p.subs.take k).map (canZ s z)).flatMap truthL ++ truthL (canZ s z (p.subs.getD k default)):=by
   rw [List.take_add_one,List.getElem?_eq_getElem hlt,Option.toList_some,List.map_append,List.flatMap_append]
   simp only [List.map_cons,List.map_nil,List.flatMap_cons,List.flatMap_nil,List.append_nil]
   rw [List.getD_eq_getElem?_getD,List.getElem?_eq_getElem hlt];rfl
  generalize canZ s z (p.subs.getD k default)=t at *
  unfold ptruth at h1
  refine wk ?_
  refine loopP (k+1) (by omega) (by omega) ?_
  have hll:Low (.sl (k+1) 2 (((p.subs.take k).map (canZ s z)).flatMap truthL ++ truthL t) (some 134)):=.sl _ _ _ _ fun c hc=>by
   have h2:∀(l:List PTruth),∀c∈l.flatMap truthL,Low c:=fun l c hc=>by
    obtain ⟨x,-,hx⟩:=List.mem_flatMap.1 hc
    simp only [truthL,List.mem_cons,List.not_mem_nil,or_false] at hx
    rcases hx with rfl|rfl<;>exact .val _
   rcases List.mem_append.1 hc with h3|h3
   ·exact h2 _ c h3
   ·exact h2 [t] c (by simpa using h3)
  simp only [e]
  exact sb
 ·have hkk:k=p.subs.length:=by omega
  subst hkk
  simp only [List.take_length]
  refine wk ?_
  refine w_ret (r:=ptruths (p.subs.map (canZ s z))) ?_ rfl rfl
  unfold ptruths
  rw [List.length_map]
  rfl
structure BigL (l:List PEntry):Prop where
 len:l.length≤20000000000000
 parts:∀e∈l,e.attrs.length≤20000000000000∧e.vec.length≤20000000000000
 times:∀e∈l,Fit64 e.frm∧Fit64 e.to∧Fit64 e.born
 nums:∀e∈l,∀a∈e.attrs,Fit64 a.n
theorem fewEs_of {l:List PEntry} (h:∀e∈l,e.vec.length≤40∧e.attrs.length≤20∧∀a∈e.attrs,a.s.size≤300) (k:Nat) (hk:k < l.length):(l.getD k default).vec.length≤1000000∧(l.getD k default).attrs.length≤1000000∧∀a∈(l.getD k default).attrs,a.s.size≤1000000000:=by
 obtain ⟨b1,b2,b3⟩:=h _ (getD_mem hk)
 exact ⟨by omega,by omega,fun a ha=>by have:=b3 a ha;omega⟩
end
section
open Go.ChangeShapes Go.WideShapes Go.ChangeAt Go.RowKit
theorem argU32:ArgOpens Tryz.prog 85 pu32 (fun _=>True):=(arg_int Tryz.underlying85).map id (fun _ _=>rfl) (fun _ _=>trivial)
theorem bigL_of2 {l:List PEntry} (h:(∀e∈l,GoodE e)∧l.length * 104≤reachBytes):BigL l:=by
 have r:=reach_eq
 have h2:=h.2
 exact ⟨by omega,fun e he=>(h.1 e he).big,fun e he=>by have f:=(h.1 e he).fit;exact ⟨f.frm,f.to,f.born⟩,fun e he a ha=>((h.1 e he).fit.attrs a ha).2⟩
end
end Go.Proofs.YtoamkpgaaanafaaGreat
