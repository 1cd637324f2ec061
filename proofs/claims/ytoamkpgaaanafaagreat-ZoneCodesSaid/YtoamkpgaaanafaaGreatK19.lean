/- Out of: Zm, Zn, Zo, Qf. -/
import Derived.Test.YtoamkpgaaanafaaGreatK1
import Derived.Test.YtoamkpgaaanafaaGreatK2
import Derived.Test.YtoamkpgaaanafaaGreatK4
import Derived.Test.YtoamkpgaaanafaaGreatK5
import Derived.Test.YtoamkpgaaanafaaGreatK6
import Derived.Test.YtoamkpgaaanafaaGreatK8
import Derived.Test.YtoamkpgaaanafaaGreatK9
import Derived.Test.YtoamkpgaaanafaaGreatK10
import Derived.Test.YtoamkpgaaanafaaGreatK11
import Derived.Test.YtoamkpgaaanafaaGreatK12
import Derived.Test.YtoamkpgaaanafaaGreatK13
import Derived.Test.YtoamkpgaaanafaaGreatK15
import Derived.Test.YtoamkpgaaanafaaGreatK16
import Derived.Test.YtoamkpgaaanafaaGreatK17
import Derived.Test.YtoamkpgaaanafaaGreatK18
namespace Go.Proofs.YtoamkpgaaanafaaGreat
set_option linter.unusedSimpArgs false
set_option linter.unusedVariables false
set_option linter.unnecessarySimpa false
section
open Go.RowKit
def pivotsB (m:Int) (pv:List (List Int)):Bool:=keyB m && (fitB pv && decide (pv.length≤8))
set_option maxRecDepth 10000 in
theorem pw_arePivots (m:Int) (pv:List (List Int)) (h1:pv.length≤1000000) (hv:∀v∈pv,v.length≤1000000):PCalls Tryz.prog 227 [pint m,pvecs pv] (· = pbool (pivotsB m pv)):=by
 have a1:=pw_isMetric m
 have a2:=pw_fit pv h1 hv
 refine pcalls_of_pw typeTab_ok Tryz.func227 rfl (by kernel_rfl) (by simp [low_pvecs,low_pint]) (by simp [pvecs,pint,PV.ownB]) (by rw [Tryz.ntmps227];simp) ?_
 rw [Tryz.ntmps227,Tryz.results227]
 have hlow:∀x,Low (pvecs x):=fun x=>(low_pvecs x).2 trivial
 unfold pivotsB
 cases e1:keyB m with
 |false=>
  rw [e1] at a1
  refine wk ?_
  exact retP rfl (by exact lw) rfl
 |true=>
  rw [e1] at a1
  cases e2:fitB pv with
  |false=>
   rw [e2] at a2
   refine wk ?_
   exact retP rfl (by exact lw) rfl
  |true=>
   rw [e2] at a2
   by_cases h:pv.length≤8
   ·refine wk ?_
    exact retP rfl (by exact lw) (by simp [pbool,h])
   ·refine wk ?_
    exact retP rfl (by exact lw) (by simp [pbool,h])
theorem fitB_get {l:List (List Int)} (h:fitB l=true):(1≤l.length∧l.length≤4096)∧∀k,k < l.length→vecB (l.getD k default)=true∧(l.getD k default).length=(l.getD 0 default).length:=by
 simp only [fitB,Bool.and_eq_true,decide_eq_true_eq,Bool.not_eq_true',List.any_eq_false] at h
 refine ⟨⟨h.1,h.2.1⟩,fun k hk=>?_⟩
 have:=h.2.2 _ (getD_mem hk)
 simp [alikeB] at this
 exact ⟨this.2.2,this.1.symm⟩
def keysP (m:Int) (pv:List (List Int)) (v:List Int):List Int:=pv.map fun p=>keyV m p v
theorem keysP_take {m:Int} {pv:List (List Int)} {v:List Int} {k:Nat} (h:k < pv.length):(keysP m pv v).take (k+1)=(keysP m pv v).take k ++ [keyV m (pv.getD k default) v]:=by
 rw [List.take_add_one]
 congr 1
 simp [keysP,h]
theorem low_intsapp (n:Nat) (l:List Int) (x:Int) (own:Option TypeId):Low (.sl n 1 (l.map pint ++ [pint x]) own):=by
 refine .sl _ _ _ _ fun c hc=>?_
 rcases List.mem_append.1 hc with h|h
 ·obtain ⟨z,-,rfl⟩:=List.mem_map.1 h;exact .val _
 ·simp at h;subst h;exact .val _
theorem low_ints (n:Nat) (l:List Int) (own:Option TypeId):Low (.sl n 1 (l.map pint) own):=.sl _ _ _ _ fun c hc=>by
 obtain ⟨z,-,rfl⟩:=List.mem_map.1 hc;exact .val _
set_option maxRecDepth 10000 in
set_option maxHeartbeats 1000000 in
theorem pw_pkeys (m:Int) (pv:List (List Int)) (v:List Int) (hm:keyB m=true) (h1:pv.length≤1000000) (hp:∀k,k < pv.length→vecB (pv.getD k default)=true∧(pv.getD k default).length=v.length) (hv:vecB v=true):PCalls Tryz.prog 230 [pint m,pvecs pv,pints v] (· = pints (keysP m pv v)):=by
 have hlow:∀x,Low (pvecs x):=fun x=>(low_pvecs x).2 trivial
 obtain ⟨⟨v1,v2⟩,-⟩:=vecB_get hv
 refine PCalls.weak ?_
 refine pcalls_of_pw typeTab_ok Tryz.func230 rfl (by kernel_rfl) (by simp [low_pvecs,low_pint,low_pints]) (by simp [pvecs,pints,pint,PV.ownB]) (by rw [Tryz.ntmps230];simp) ?_
 rw [Tryz.ntmps230,Tryz.results230]
 refine wk ?_
 refine PW.loop (fun k:Nat=>((((((bot.put 0 (pint m)).put 2 (pints v)).put 7 (.sl k 1 (((keysP m pv v).take k).map pint) (some 3))).put 10 (pvecs pv)).put 11 (pint pv.length)).put 12 (pint k))) (fun k=>k≤pv.length) (fun k=>pv.length - k) 0 (by omega) ?_ ?_
 ·exact sb
 ·intro k hk
  by_cases hlt:k < pv.length
  ·obtain ⟨b1,b2⟩:=hp k hlt
   have p1:=pw_vecKey m (pv.getD k default) v hm b1 hv b2
   refine wk ?_
   refine loopP (k+1) (by omega) (by omega) ?_
   simp only [keysP_take hlt,List.map_append,List.map_cons,List.map_nil]
   have hl3:=low_intsapp (k+1) ((keysP m pv v).take k) (keyV m (pv.getD k default) v) (some 3)
   exact sb
  ·refine wk ?_
   have hkk:k=pv.length:=by omega
   refine retP (r:=.sl k 1 (((keysP m pv v).take k).map pint) none) rfl (low_ints _ _ _) ?_
   rw [List.take_of_length_le (by simp [keysP,hkk]),hkk,show pv.length=(keysP m pv v).length by simp [keysP]]
   exact Weak.refl _
def tabB (m:Int) (pv l:List (List Int)):Bool:=pivotsB m pv && (fitB l && alikeB (pv.getD 0 default) (l.getD 0 default))
def tabL (m:Int) (pv l:List (List Int)):List (List Int):=l.map (keysP m pv)
def tabP (m:Int) (pv l:List (List Int)):List (List Int)×Int:=if tabB m pv l then (tabL m pv l,0) else ([],1)
theorem tabL_take {m:Int} {pv l:List (List Int)} {k:Nat} (h:k < l.length):(tabL m pv l).take (k+1)=(tabL m pv l).take k ++ [keysP m pv (l.getD k default)]:=by
 rw [List.take_add_one]
 congr 1
 simp [tabL,h]
theorem tabB_get {m:Int} {pv l:List (List Int)} (h:tabB m pv l=true):keyB m=true∧(1≤pv.length∧pv.length≤8)∧(1≤l.length∧l.length≤4096)∧(∀i k,i < l.length→k < pv.length→(vecB (pv.getD k default)=true∧(pv.getD k default).length=(l.getD i default).length))∧∀i,i < l.length→vecB (l.getD i default)=true:=by
 simp only [tabB,pivotsB,Bool.and_eq_true,decide_eq_true_eq] at h
 obtain ⟨⟨a1,a2,a3⟩,a4,a5⟩:=h
 obtain ⟨⟨b1,b2⟩,b3⟩:=fitB_get a2
 obtain ⟨c1,c3⟩:=fitB_get a4
 simp only [alikeB,Bool.and_eq_true,decide_eq_true_eq] at a5
 refine ⟨a1,⟨b1,a3⟩,c1,fun i k hi hk=>⟨(b3 k hk).1,?_⟩,fun i hi=>(c3 i hi).1⟩
 rw [(b3 k hk).2,(c3 i hi).2,a5.1]
theorem low_pvecL (l:List (List Int)):∀c∈l.map pints,Low c:=by
 intro c hc
 obtain ⟨z,-,rfl⟩:=List.mem_map.1 hc
 simp [low_pints]
set_option maxRecDepth 10000 in
set_option maxHeartbeats 2000000 in
theorem pw_table (m:Int) (pv l:List (List Int)) (h1:pv.length≤1000000) (h2:∀v∈pv,v.length≤1000000) (h3:l.length≤1000000) (h4:∀v∈l,v.length≤1000000):PCalls Tryz.prog 141 [pint m,pvecs pv,pvecs l] (· = .tup [pvecs (tabP m pv l).1,pint (tabP m pv l).2]):=by
 have hlow:∀x,Low (pvecs x):=fun x=>(low_pvecs x).2 trivial
 have a1:=pw_arePivots m pv h1 h2
 have a2:=pw_fit l h3 h4
 refine PCalls.weak ?_
 refine pcalls_of_pw typeTab_ok Tryz.func141 rfl (by kernel_rfl) (by simp [low_pvecs,low_pint]) (by simp [pvecs,pint,PV.ownB]) (by rw [Tryz.ntmps141];simp) ?_
 rw [Tryz.ntmps141,Tryz.results141]
 have hnil:Weak (.tup [.nilsl, .val (.int .i64 1)]) (.tup [pvecs [],pint 1]):=Weak.tup (.cons (Weak.nil 1) (.cons (Weak.refl _) .nil))
 cases e1:pivotsB m pv with
 |false=>
  rw [e1] at a1
  clear a2
  refine wk ?_
  refine retP (r:=.tup [.nilsl,pint 1]) rfl (by simp [low_tup,low_nilsl,low_pint]) ?_
  simp only [tabP,tabB,e1,Bool.false_and,Bool.false_eq_true,if_false]
  exact hnil
 |true=>
  rw [e1] at a1
  cases e2:fitB l with
  |false=>
   rw [e2] at a2
   refine wk ?_
   refine retP (r:=.tup [.nilsl,pint 1]) rfl (by simp [low_tup,low_nilsl,low_pint]) ?_
   simp only [tabP,tabB,e2,Bool.false_and,Bool.and_false,Bool.false_eq_true,if_false]
   exact hnil
  |true=>
   rw [e2] at a2
   have q1:0 < pv.length:=by
    simp only [pivotsB,Bool.and_eq_true] at e1
    have:=(fitB_get e1.2.1).1;omega
   have q2:0 < l.length:=(fitB_get e2).1.1
   have a3:=pw_alike (pv.getD 0 default) (l.getD 0 default) (h2 _ (getD_mem q1)) (h4 _ (getD_mem q2))
   cases e3:alikeB (pv.getD 0 default) (l.getD 0 default) with
   |false=>
    rw [e3] at a3
    refine wk ?_
    refine retP (r:=.tup [.nilsl,pint 1]) rfl (by simp [low_tup,low_nilsl,low_pint]) ?_
    simp only [tabP,tabB,e3,Bool.and_false,Bool.false_eq_true,if_false]
    exact hnil
   |true=>
    rw [e3] at a3
    have ht:tabB m pv l=true:=by simp only [tabB,e1,e2,e3,Bool.and_self]
    obtain ⟨g1,g2,g3,g4,g5⟩:=tabB_get ht
    unfold tabP
    rw [if_pos ht]
    refine wk ?_
    refine PW.loop (fun k:Nat=>((((((bot.put 0 (pint m)).put 1 (pvecs pv)).put 8 (.sl k 1 (((tabL m pv l).take k).map pints) (some 27))).put 30 (pvecs l)).put 31 (pint l.length)).put 32 (pint k))) (fun k=>k≤l.length) (fun k=>l.length - k) 0 (by omega) ?_ ?_
    ·exact sb
    ·intro k hk
     clear a1 a2 a3
     by_cases hlt:k < l.length
     ·have p1:=pw_pkeys m pv (l.getD k default) g1 h1 (fun j hj=>g4 k j hlt hj) (g5 k hlt)
      refine wk ?_
      refine loopP (k+1) (by omega) (by omega) ?_
      simp only [tabL_take hlt,List.map_append,List.map_cons,List.map_nil]
      have hl3:Low (.sl (k+1) 1 (((tabL m pv l).take k).map pints ++ [pints (keysP m pv (l.getD k default))]) (some 27)):=by
       refine .sl _ _ _ _ fun c hc=>?_
       rcases List.mem_append.1 hc with h|h
       ·exact low_pvecL _ c h
       ·simp at h;subst h;simp [low_pints]
      exact sb
     ·refine wk ?_
      have hkk:k=l.length:=by omega
      refine retP (r:=.tup [.sl k 1 (((tabL m pv l).take k).map pints) none,pint 0]) rfl (low_tup.2 (by simp only [List.mem_cons,List.not_mem_nil,or_false];rintro c (rfl|rfl);exact .sl _ _ _ _ (low_pvecL _);exact .val _)) ?_
      rw [List.take_of_length_le (by simp [tabL,hkk]),hkk,show l.length=(tabL m pv l).length by simp [tabL]]
      exact Weak.refl _
def colI (T:List (List Int)) (k i:Nat):PShell:=(T.take i).foldl (fun s row=>withP s (row.getD k default)) ⟨(T.getD 0 default).getD k default,(T.getD 0 default).getD k default⟩
theorem colI_succ {T:List (List Int)} {k i:Nat} (h:i < T.length):colI T k (i+1)=withP (colI T k i) ((T.getD i default).getD k default):=by
 unfold colI
 rw [List.take_add_one,List.foldl_append,List.getElem?_eq_getElem h]
 simp [h]
def shellL (T:List (List Int)) (n:Nat):List PShell:=(List.range n).map fun k=>colI T k T.length
theorem shellL_take {T:List (List Int)} {n k:Nat} (h:k < n):(shellL T n).take (k+1)=(shellL T n).take k ++ [colI T k T.length]:=by
 rw [List.take_add_one]
 congr 1
 simp [shellL,h]
def shellP (m:Int) (pv l:List (List Int)):List PShell×Int:=if tabB m pv l then (shellL (tabL m pv l) pv.length,0) else ([],1)
set_option maxRecDepth 10000 in
set_option maxHeartbeats 2000000 in
theorem pw_shells (m:Int) (pv l:List (List Int)) (h1:pv.length≤1000000) (h2:∀v∈pv,v.length≤1000000) (h3:l.length≤1000000) (h4:∀v∈l,v.length≤1000000):PCalls Tryz.prog 59 [pint m,pvecs pv,pvecs l] (· = .tup [pshells (shellP m pv l).1,pint (shellP m pv l).2]):=by
 have hlow:∀x,Low (pvecs x):=fun x=>(low_pvecs x).2 trivial
 have a1:=pw_table m pv l h1 h2 h3 h4
 refine PCalls.weak ?_
 refine pcalls_of_pw typeTab_ok Tryz.func59 rfl (by kernel_rfl) (by simp [low_pvecs,low_pint]) (by simp [pvecs,pint,PV.ownB]) (by rw [Tryz.ntmps59];simp) ?_
 rw [Tryz.ntmps59,Tryz.results59]
 unfold shellP
 unfold tabP at a1
 cases e1:tabB m pv l with
 |false=>
  rw [if_neg (by simp [e1])] at a1
  refine wk ?_
  refine retP (r:=.tup [.nilsl,pint 1]) rfl (by simp [low_tup,low_nilsl,low_pint]) ?_
  exact Weak.tup (.cons (Weak.nil 2) (.cons (Weak.refl _) .nil))
 |true=>
  rw [if_pos e1] at a1
  rw [if_pos rfl]
  obtain ⟨-,g2,g3,-,-⟩:=tabB_get e1
  have hT:(tabL m pv l).length=l.length:=by simp [tabL]
  have hR:∀i,i < l.length→((tabL m pv l).getD i default).length=pv.length:=fun i hi=>by simp [tabL,keysP,hi]
  generalize tabL m pv l=T at *
  refine wk ?_
  refine PW.loop (fun k:Nat=>(((bot.put 8 (pvecs T)).put 10 (.sl k 2 (((shellL T pv.length).take k).flatMap pshL) (some 119))).put 26 (pint pv.length)).put 27 (pint k)) (fun k=>k≤pv.length) (fun k=>pv.length - k) 0 (by omega) ?_ ?_
  ·exact sb
  ·intro k hk
   clear a1
   by_cases hlt:k < pv.length
   ·have r0:=hR 0 (by omega)
    refine wk ?_
    refine PW.loop (fun i:Nat=>(((((((((bot.setb 8013 (pshL (colI T k i))).put 8 (pvecs T)).put 10 (.sl k 2 (((shellL T pv.length).take k).flatMap pshL) (some 119))).put 11 (pint k)).put 12 (.ptr 8013 0)).put 26 (pint pv.length)).put 27 (pint k)).put 43 (pvecs T)).put 44 (pint T.length)).put 45 (pint i)) (fun i=>i≤T.length) (fun i=>T.length - i) 0 (by omega) ?_ ?_
    ·have hl3:=low_shown k ((shellL T pv.length).take k) (some 119)
     exact sb
    ·intro i hi
     have hl4:=low_pshL (colI T k i)
     by_cases hit:i < T.length
     ·have ri:=hR i (by omega)
      have p1:=pw_with (colI T k i) ((T.getD i default).getD k default)
      rw [←colI_succ hit] at p1
      have hl5:=low_pshL (colI T k (i+1))
      unfold psh pshL at p1
      refine wk ?_
      refine loopP (i+1) (by omega) (by omega) ?_
      have hl3:=low_shown k ((shellL T pv.length).take k) (some 119)
      exact sb
     ·obtain rfl:i=T.length:=by omega
      refine wk ?_
      refine loopP (k+1) (by omega) (by omega) ?_
      simp only [shellL_take hlt,List.flatMap_append,List.flatMap_cons,List.flatMap_nil,List.append_nil]
      have hl3:=low_shapp (k+1) ((shellL T pv.length).take k) (colI T k T.length) (some 119)
      exact sb
   ·refine wk ?_
    have hkk:k=pv.length:=by omega
    refine retP (r:=.tup [.sl k 2 (((shellL T pv.length).take k).flatMap pshL) none,pint 0]) rfl (low_tup.2 (by simp only [List.mem_cons,List.not_mem_nil,or_false];rintro c (rfl|rfl);exact low_shown _ _ _;exact .val _)) ?_
    have hls:(shellL T pv.length).length=pv.length:=by simp [shellL]
    have e:PV.sl pv.length 2 ((shellL T pv.length).flatMap pshL) none=pshells (shellL T pv.length):=by unfold pshells;rw [hls]
    rw [List.take_of_length_le (by omega),hkk,e]
    exact Weak.refl _
def lowF (m:Int) (l:List PShell) (keys:List Int) (n:Nat):Int:=(List.range n).foldl (fun b k=>max b (gapM m (l.getD k default).lo (l.getD k default).hi (keys.getD k default))) 0
theorem lowF_succ (m:Int) (l:List PShell) (keys:List Int) (n:Nat):lowF m l keys (n+1)=max (lowF m l keys n) (gapM m (l.getD n default).lo (l.getD n default).hi (keys.getD n default)):=by
 unfold lowF;rw [List.range_succ,List.foldl_append];rfl
def askB (m:Int) (l:List PShell) (keys:List Int):Bool:=keyB m && (shellsB l && (decide (keys.length=l.length) && keys.all (hasP allP)))
def lowP (m:Int) (l:List PShell) (keys:List Int):Int×Int:=if askB m l keys then (lowF m l keys l.length,0) else (0,1)
set_option maxRecDepth 10000 in
theorem pw_low1 (m b:Int) (s:PShell) (k:Int) (hs:shellB s=true) (hk:hasP allP k=true):PCalls Tryz.prog 153 [pint b,psh s,pint k, .ep [pint m] 0] (· = pint (max b (gapM m s.lo s.hi k))):=by
 have hk2:0≤k∧k≤134217728:=by simp only [hasP,Bool.and_eq_true,decide_eq_true_eq] at hk;exact hk
 have h:=pw_gap m s.lo s.hi k hk2 (shellB_iff.1 hs)
 have hl:=low_pshL s
 refine pcalls_of_pw typeTab_ok Tryz.func153 rfl (by kernel_rfl) (by simp [low_pint,low_psh,low_ep]) (by simp [pint,psh,PV.ownB]) (by rw [Tryz.ntmps153];simp) ?_
 rw [Tryz.ntmps153,Tryz.results153]
 unfold psh pshL at *
 refine wk ?_
 refine retP rfl (by exact lw) ?_
 simp only [if_true,pint]
 congr 2;grind
set_option maxRecDepth 10000 in
set_option maxHeartbeats 2000000 in
theorem pw_bound (m:Int) (l:List PShell) (keys:List Int) (h1:l.length≤1000000) (h2:keys.length≤1000000):PCalls Tryz.prog 152 [pint m,pshells l,pints keys,pint 0, .fn 153 [.ep [pint m] 0]] (· = .tup [pint (lowP m l keys).1,pint (lowP m l keys).2]):=by
 have hlow:∀x,Low (pshells x):=fun x=>(low_pshells x).2 trivial
 have hlf:Low (.fn 153 [.ep [pint m] 0]):=low_clo _ _
 have a1:=pw_isMetric m
 have a2:=pw_shValid l h1
 refine pcalls_of_pw typeTab_ok Tryz.func152 rfl (by kernel_rfl) (by simp [low_pshells,low_pint,low_pints,hlf]) (by simp [pshells,pints,pint,PV.ownB]) (by rw [Tryz.ntmps152];simp) ?_
 rw [Tryz.ntmps152,Tryz.results152]
 cases e1:keyB m with
 |false=>
  rw [e1] at a1
  clear a2
  refine wk ?_
  refine retP (r:=.tup [pint 0,pint 1]) rfl (by simp [low_tup,low_pint]) ?_
  simp only [lowP,askB,e1,Bool.false_and,Bool.false_eq_true,if_false]
 |true=>
  rw [e1] at a1
  cases e2:shellsB l with
  |false=>
   rw [e2] at a2
   refine wk ?_
   refine retP (r:=.tup [pint 0,pint 1]) rfl (by simp [low_tup,low_pint]) ?_
   simp only [lowP,askB,e2,Bool.false_and,Bool.and_false,Bool.false_eq_true,if_false]
  |true=>
   rw [e2] at a2
   obtain ⟨l8,hsh⟩:=shellsB_get e2
   by_cases e3:keys.length=l.length
   ·refine wk ?_
    refine PW.loop (fun k:Nat=>((((((bot.put 2 (pints keys)).put 4 (.fn 153 [.ep [pint m] 0])).put 12 (pint (lowF m l keys k))).put 31 (pshells l)).put 32 (pint l.length)).put 33 (pint k))) (fun k=>k≤l.length∧∀j,j < k→hasP allP (keys.getD j default)=true) (fun k=>l.length - k) 0 ⟨by omega,by simp⟩ ?_ ?_
    ·exact sb
    ·rintro k ⟨hk,ha⟩
     clear a1 a2
     by_cases hlt:k < l.length
     ·have p0:=pw_all
      have p1:=pw_has allP (keys.getD k default)
      cases e4:hasP allP (keys.getD k default) with
      |false=>
       rw [e4] at p1
       refine wk ?_
       refine retP (r:=.tup [pint 0,pint 1]) rfl (by simp [low_tup,low_pint]) ?_
       have:askB m l keys=false:=by
        have:keys.all (hasP allP)=false:=by
         rw [List.all_eq_false];exact ⟨keys.getD k default,getD_mem (by omega),by rw [e4];decide⟩
        simp only [askB,this,Bool.and_false]
       simp only [lowP,this,Bool.false_eq_true,if_false]
      |true=>
       rw [e4] at p1
       have p2:=pw_low1 m (lowF m l keys k) (l.getD k default) (keys.getD k default) (hsh k hlt) e4
       rw [←lowF_succ] at p2
       refine wk ?_
       have hI:k+1≤l.length∧∀j,j < k+1→hasP allP (keys.getD j default)=true:=⟨by omega,fun j hj=>by
        rcases Nat.lt_succ_iff_lt_or_eq.1 hj with h|h
        ·exact ha j h
        ·rw [h];exact e4⟩
       refine loopP (k+1) ?_ ?_ ?_
       ·exact hI
       ·omega
       exact sb
     ·refine wk ?_
      have hkk:k=l.length:=by omega
      refine retP (r:=.tup [pint (lowF m l keys k),pint 0]) rfl (by simp [low_tup,low_pint]) ?_
      have:askB m l keys=true:=by
       have:keys.all (hasP allP)=true:=by
        rw [List.all_eq_true]
        intro x hx
        obtain ⟨j,hj,rfl⟩:=List.getElem_of_mem hx
        have:=ha j (by omega)
        rwa [List.getD_eq_getElem?_getD,List.getElem?_eq_getElem hj] at this
       simp only [askB,this,e1,e2,e3,decide_true,Bool.and_self]
      rw [lowP,this,if_pos rfl,hkk]
   ·refine wk ?_
    refine retP (r:=.tup [pint 0,pint 1]) rfl (by simp [low_tup,low_pint]) ?_
    simp only [lowP,askB,e3,decide_false,Bool.false_and,Bool.and_false,Bool.false_eq_true,if_false]
set_option maxRecDepth 10000 in
theorem pw_pLow (m:Int) (l:List PShell) (keys:List Int) (h1:l.length≤1000000) (h2:keys.length≤1000000):PCalls Tryz.prog 77 [pint m,pshells l,pints keys] (· = .tup [pint (lowP m l keys).1,pint (lowP m l keys).2]):=by
 have hlow:∀x,Low (pshells x):=fun x=>(low_pshells x).2 trivial
 have hlf:Low (.fn 153 [.ep [pint m] 0]):=low_clo _ _
 have a1:=pw_bound m l keys h1 h2
 refine pcalls_of_pw typeTab_ok Tryz.func77 rfl (by kernel_rfl) (by simp [low_pshells,low_pint,low_pints]) (by simp [pshells,pints,pint,PV.ownB]) (by rw [Tryz.ntmps77];simp) ?_
 rw [Tryz.ntmps77,Tryz.results77]
 refine PW.seq ?_
 refine PW.region typeTab_ok (by kernel_rfl) ?_
 refine wg ?_
 refine PW.freezeP (id:=0) (s:=3) (off:=0) (σ':=(bot.put 1 (pshells l)).put 2 (pints keys)) rfl rfl (fun c hc=>by simp only [List.mem_cons,List.not_mem_nil,or_false] at hc;subst hc;exact .val _) (by exact sbr0) rfl ?_
 refine wk ?_
 exact retP (r:=.tup [pint (lowP m l keys).1,pint (lowP m l keys).2]) rfl (by simp [low_tup,low_pint]) rfl
def wC (s:PSchema) (z:PSum) (m:Nat):List PV := [pint s.dims,pint s.metric,pdefs s.defs,pint z.count,pints z.box.lo,pints z.box.hi,pshells z.shells,pint z.fromLo,pint z.fromHi,pint z.toHi,pint z.bornLo,pint z.bornHi,pflds z.fields, .mref m]
def wG (s:PSchema) (z:PSum) (w m:Nat):List (Nat×List PV) := [(w,wC s z m)]
def wMs (m:Nat):List (Nat×PMap) := [(m,waysM)]
theorem wC_lowI {S:Nat→Prop} (s:PSchema) (z:PSum) {m:Nat} (h:S m):∀p∈wC s z m,LowI S p:=by
 intro p hp
 simp only [wC,List.mem_cons,List.not_mem_nil,or_false] at hp
 rcases hp with rfl|rfl|rfl|rfl|rfl|rfl|rfl|rfl|rfl|rfl|rfl|rfl|rfl|rfl
 ·exact .val _
 ·exact .val _
 ·exact ((low_pdefs _).2 trivial).lowI
 ·exact .val _
 ·exact ((low_pints _).2 trivial).lowI
 ·exact ((low_pints _).2 trivial).lowI
 ·exact ((low_pshells _).2 trivial).lowI
 ·exact .val _
 ·exact .val _
 ·exact .val _
 ·exact .val _
 ·exact .val _
 ·exact ((low_pflds _).2 trivial).lowI
 ·exact .mref _ h
theorem wG_lowI {S:Nat→Prop} (s:PSchema) (z:PSum) {w m:Nat} (h:S m):∀x∈wG s z w m,∀p∈x.2,LowI S p:=by
 intro x hx
 simp only [wG,List.mem_cons,List.not_mem_nil,or_false] at hx
 subst hx
 exact wC_lowI s z h
theorem w_givB (s:PSchema) (z:PSum):GivB (wG s z 1000001 1000002):=by unfold wG wC;(first|assumption|(repeat (first|exact givb_nil|exact ows_nil|exact dC_owns _|exact rC_owns _|refine givb_cons ?_ ?_|refine ows_cons ?_ ?_|exact owns_no rfl|exact psecs_owns _ _|assumption)))
theorem w_givM:GivM (wMs 1000002):=by
 unfold wMs waysM waysE
 refine givm_cons ?_ givm_nil
 intro e he
 simp only [List.mem_cons,List.not_mem_nil,or_false] at he
 rcases he with rfl|rfl|rfl|rfl|rfl|rfl|rfl<;>exact owns_no rfl
theorem w_ok (s:PSchema) (z:PSum) {args:List PV} {r:PV} (ha:∀p∈args,LowI (fun i=>i∈ResIds (wG s z 1000001 1000002) (wMs 1000002)) p) (hr:Low r):HOk args (wG s z 1000001 1000002) (wMs 1000002) r (wG s z 1000001 1000002) (wMs 1000002):=
 ⟨ha,wG_lowI s z (by simp [ResIds,wG,wMs]),lm_cons low_ways lm_nil,hr.lowI,wG_lowI s z (by simp [ResIds,wG,wMs]),lm_cons low_ways lm_nil,by simp,by simp⟩
def WCalls (s:PSchema) (z:PSum) (f:Nat) (args:List PV) (r:PV):Prop:=HCalls Tryz.prog f args (wG s z 1000001 1000002) (wMs 1000002) r (wG s z 1000001 1000002) (wMs 1000002)
theorem w_ret {s:PSchema} {z:PSum} {T:Tab} {rs:List ResultVar} {r:PV} {σ:PS} (h1:presult T σ rs=some r) (h3:σ.b 1000001=some (wC s z 1000002)) (h4:σ.m 1000002=some waysM):RetH T rs r (wG s z 1000001 1000002) (wMs 1000002) .ret σ:=
 RetH.mk h1 (Weak.refl _) ⟨⟨_,h3,WeakL.refl _⟩,trivial⟩ ⟨⟨rfl,h4⟩,trivial⟩
set_option maxRecDepth 10000 in
set_option maxHeartbeats 1000000 in
theorem hc_field (s:PSchema) (z:PSum) (nm:ByteArray) (h0:0≤findI s.defs nm) (h1:(findI s.defs nm).toNat < z.fields.length) (hd:s.defs.length≤1000) (hz:z.fields.length≤1000000):WCalls s z 171 [.ptr 1000001 0,pstr nm] (pfld (fieldAt s z nm)):=by
 have hl1:Low (.ep [pstr nm] 0):=by simp [low_ep,low_pstr]
 have c1:=pw_idxD 241 [.ep [pstr nm] 0] (fun d=>eqB d.name nm) s.defs rfl (by omega) (by simp [hl1]) (fun k _=>pw_fieldD nm _)
 rw [idxF_findI] at c1
 unfold fieldAt
 obtain ⟨n,hn⟩:∃n:Nat,findI s.defs nm=n:=⟨(findI s.defs nm).toNat,by omega⟩
 rw [hn] at c1 h1 ⊢
 rw [Int.toNat_natCast] at h1 ⊢
 have hp1:Low (pdefs s.defs):=(low_pdefs _).2 trivial
 have hp2:Low (pshells z.shells):=(low_pshells _).2 trivial
 have hp3:Low (pflds z.fields):=(low_pflds _).2 trivial
 have hlw:=low_ways
 have hlz:=low_pfldL ⟨0,0,0,[]⟩
 have hlk:=low_pfldL (z.fields.getD n default)
 unfold WCalls
 refine hcalls_of_pw typeTab_ok Tryz.func171 rfl (by kernel_rfl) (by simp [pstr,PV.ownB]) (by rw [Tryz.ntmps171];simp) (by simp [ResIds,wG,wMs]) (by simp [ResIds,wG,wMs]) (w_ok s z (li_cons (.ptr _ _ (by simp [ResIds,wG,wMs])) (li_cons (.val _) li_nil)) ((low_pfld _).2 trivial)) ?_ (w_givB s z) w_givM
 rw [Tryz.ntmps171,Tryz.results171]
 refine PW.seq ?_
 refine PW.region typeTab_ok (by kernel_rfl) ?_
 refine wg ?_
 refine PW.freezeP (id:=0) (s:=3) (off:=0) (σ':=(bot.setb 1000001 (wC s z 1000002) |>.setb 1 [pint 0,pint 0,pint 0, .nilsl] |>.setm 1000002 waysM |>.put 0 (.ptr 1000001 0) |>.put 4 (.ptr 1 0))) rfl rfl (fun c hc=>by simp only [List.mem_cons,List.not_mem_nil,or_false] at hc;subst hc;exact .val _) (by exact sbr0) rfl ?_
 refine wk ?_
 exact w_ret rfl rfl rfl
set_option maxRecDepth 10000 in
set_option maxHeartbeats 1000000 in
theorem hc_all (s:PSchema) (z:PSum) (p:PPred) (hl:p.subs.length≤1000000) (h:∀k,k < p.subs.length→WCalls s z 85 [.ptr 1000001 0,ppred (p.subs.getD k default)] (ptruth (canZ s z (p.subs.getD k default)))):WCalls s z 166 [.ptr 1000001 0,ppred p] (ptruths (p.subs.map (canZ s z))):=by
 have hp1:Low (pdefs s.defs):=(low_pdefs _).2 trivial
 have hp2:Low (pshells z.shells):=(low_pshells _).2 trivial
 have hp3:Low (pflds z.fields):=(low_pflds _).2 trivial
 have hlw:=low_ways
 have hps:Low (ppreds p.subs):=(low_ppreds _).2 trivial
 unfold WCalls at *
 refine hcalls_of_pw typeTab_ok Tryz.func166 rfl (by kernel_rfl) (by simp [ppred,PV.ownB]) (by rw [Tryz.ntmps166];simp) (by simp [ResIds,wG,wMs]) (by simp [ResIds,wG,wMs]) (w_ok s z (li_cons (.ptr _ _ (by simp [ResIds,wG,wMs])) (li_cons ((low_ppred p).2 trivial).lowI li_nil)) ((low_ptruths _).2 trivial)) ?_ (w_givB s z) w_givM
 rw [Tryz.ntmps166,Tryz.results166]
 unfold ppred
 rw [prL_eq]
 refine wk ?_
 refine PW.loop (fun k:Nat=>(bot.setb 1000001 (wC s z 1000002) |>.setm 1000002 waysM |>.put 0 (.ptr 1000001 0) |>.put 5 (.sl k 2 (((p.subs.take k).map (canZ s z)).flatMap truthL) (some 134)) |>.put 9 (ppreds p.subs) |>.put 10 (pint p.subs.length) |>.put 11 (pint k))) (fun k=>k≤p.subs.length) (fun k=>p.subs.length - k) 0 (by omega) ?_ ?_
 ·exact sb
 intro k hk
 by_cases hlt:k < p.subs.length
 ·have h1:=h k hlt
  unfold ppred at h1
  have hlk:=low_prL (p.subs.getD k default)
  have e:((p.subs.take (k+1)).map (canZ s z)).flatMap truthL=((p.subs.take k).map (canZ s z)).flatMap truthL ++ truthL (canZ s z (p.subs.getD k default)):=by
   rw [List.take_add_one,List.getElem?_eq_getElem hlt,Option.toList_some,List.map_append,List.flatMap_append]
   simp only [List.map_cons,List.map_nil,List.flatMap_cons,List.flatMap_nil,List.append_nil]
   rw [List.getD_eq_getElem?_getD,List.getElem?_eq_getElem hlt];rfl
  generalize canZ s z (p.subs.getD k default)=t at *
  unfold ptruth at h1
  refine wk ?_
  refine loopP (k+1) (by omega) (by omega) ?_
  have hll:Low (.sl (k+1) 2 (((p.subs.take k).map (canZ s z)).flatMap truthL ++ truthL t) (some 134)):=.sl _ _ _ _ fun c hc=>by
   have h2:∀(l:List PTruth),∀c∈l.flatMap truthL,Low c:=fun l c hc=>by
    obtain ⟨x,-,hx⟩:=List.mem_flatMap.1 hc
    simp only [truthL,List.mem_cons,List.not_mem_nil,or_false] at hx
    rcases hx with rfl|rfl<;>exact .val _
   rcases List.mem_append.1 hc with h3|h3
   ·exact h2 _ c h3
   ·exact h2 [t] c (by simpa using h3)
  simp only [e]
  exact sb
 ·have hkk:k=p.subs.length:=by omega
  subst hkk
  simp only [List.take_length]
  refine wk ?_
  refine w_ret (r:=ptruths (p.subs.map (canZ s z))) ?_ rfl rfl
  unfold ptruths
  rw [List.length_map]
  rfl
end
end Go.Proofs.YtoamkpgaaanafaaGreat
