/- Out of: Zo, Zt, Row18c. -/
import Derived.Test.YtoamkpgaaanafaaGreatM27
import Derived.Test.YtoamkpgaaanafaaGreatM30
namespace Go.Proofs.YtoamkpgaaanafaaGreat
set_option linter.unusedSimpArgs false
set_option linter.unusedVariables false
set_option linter.unnecessarySimpa false
section
open Go.RowKit
def colI (T:List (List Int)) (k i:Nat):PShell:=(T.take i).foldl (fun s row=>withP s (row.getD k default)) ⟨(T.getD 0 default).getD k default,(T.getD 0 default).getD k default⟩
theorem colI_succ {T:List (List Int)} {k i:Nat} (h:i < T.length):colI T k (i+1)=withP (colI T k i) ((T.getD i default).getD k default):=by
 unfold colI
 rw [List.take_add_one,List.foldl_append,List.getElem?_eq_getElem h]
 simp [h]
def shellL (T:List (List Int)) (n:Nat):List PShell:=(List.range n).map fun k=>colI T k T.length
theorem shellL_take {T:List (List Int)} {n k:Nat} (h:k < n):(shellL T n).take (k+1)=(shellL T n).take k ++ [colI T k T.length]:=by
 rw [List.take_add_one]
 congr 1
 simp [shellL,h]
def shellP (m:Int) (pv l:List (List Int)):List PShell×Int:=if tabB m pv l then (shellL (tabL m pv l) pv.length,0) else ([],1)
set_option maxRecDepth 10000 in
set_option maxHeartbeats 2000000 in
theorem pw_shells (m:Int) (pv l:List (List Int)) (h1:pv.length≤1000000) (h2:∀v∈pv,v.length≤1000000) (h3:l.length≤1000000) (h4:∀v∈l,v.length≤1000000):PCalls Tryz.prog 59 [pint m,pvecs pv,pvecs l] (· = .tup [pshells (shellP m pv l).1,pint (shellP m pv l).2]):=by
 have hlow:∀x,Low (pvecs x):=fun x=>(low_pvecs x).2 trivial
 have a1:=pw_table m pv l h1 h2 h3 h4
 refine PCalls.weak ?_
 refine pcalls_of_pw typeTab_ok Tryz.func59 rfl (by kernel_rfl) (by simp [low_pvecs,low_pint]) (by simp [pvecs,pint,PV.ownB]) (by rw [Tryz.ntmps59];simp) ?_
 rw [Tryz.ntmps59,Tryz.results59]
 unfold shellP
 unfold tabP at a1
 cases e1:tabB m pv l with
 |false=>
  rw [if_neg (by simp [e1])] at a1
  refine wk ?_
  refine retP (r:=.tup [.nilsl,pint 1]) rfl (by simp [low_tup,low_nilsl,low_pint]) ?_
  exact Weak.tup (.cons (Weak.nil 2) (.cons (Weak.refl _) .nil))
 |true=>
  rw [if_pos e1] at a1
  rw [if_pos rfl]
  obtain ⟨-,g2,g3,-,-⟩:=tabB_get e1
  have hT:(tabL m pv l).length=l.length:=by simp [tabL]
  have hR:∀i,i < l.length→((tabL m pv l).getD i default).length=pv.length:=fun i hi=>by simp [tabL,keysP,hi]
  generalize tabL m pv l=T at *
  refine wk ?_
  refine PW.loop (fun k:Nat=>(((bot.put 8 (pvecs T)).put 10 (.sl k 2 (((shellL T pv.length).take k).flatMap pshL) (some 119))).put 26 (pint pv.length)).put 27 (pint k)) (fun k=>k≤pv.length) (fun k=>pv.length - k) 0 (by omega) ?_ ?_
  ·exact sb
  ·intro k hk
   clear a1
   by_cases hlt:k < pv.length
   ·have r0:=hR 0 (by omega)
    refine wk ?_
    refine PW.loop (fun i:Nat=>(((((((((bot.setb 8013 (pshL (colI T k i))).put 8 (pvecs T)).put 10 (.sl k 2 (((shellL T pv.length).take k).flatMap pshL) (some 119))).put 11 (pint k)).put 12 (.ptr 8013 0)).put 26 (pint pv.length)).put 27 (pint k)).put 43 (pvecs T)).put 44 (pint T.length)).put 45 (pint i)) (fun i=>i≤T.length) (fun i=>T.length - i) 0 (by omega) ?_ ?_
    ·have hl3:=low_shown k ((shellL T pv.length).take k) (some 119)
     exact sb
    ·intro i hi
     have hl4:=low_pshL (colI T k i)
     by_cases hit:i < T.length
     ·have ri:=hR i (by omega)
      have p1:=pw_with (colI T k i) ((T.getD i default).getD k default)
      rw [←colI_succ hit] at p1
      have hl5:=low_pshL (colI T k (i+1))
      unfold psh pshL at p1
      refine wk ?_
      refine loopP (i+1) (by omega) (by omega) ?_
      have hl3:=low_shown k ((shellL T pv.length).take k) (some 119)
      exact sb
     ·obtain rfl:i=T.length:=by omega
      refine wk ?_
      refine loopP (k+1) (by omega) (by omega) ?_
      simp only [shellL_take hlt,List.flatMap_append,List.flatMap_cons,List.flatMap_nil,List.append_nil]
      have hl3:=low_shapp (k+1) ((shellL T pv.length).take k) (colI T k T.length) (some 119)
      exact sb
   ·refine wk ?_
    have hkk:k=pv.length:=by omega
    refine retP (r:=.tup [.sl k 2 (((shellL T pv.length).take k).flatMap pshL) none,pint 0]) rfl (low_tup.2 (by simp only [List.mem_cons,List.not_mem_nil,or_false];rintro c (rfl|rfl);exact low_shown _ _ _;exact .val _)) ?_
    have hls:(shellL T pv.length).length=pv.length:=by simp [shellL]
    have e:PV.sl pv.length 2 ((shellL T pv.length).flatMap pshL) none=pshells (shellL T pv.length):=by unfold pshells;rw [hls]
    rw [List.take_of_length_le (by omega),hkk,e]
    exact Weak.refl _
def lowF (m:Int) (l:List PShell) (keys:List Int) (n:Nat):Int:=(List.range n).foldl (fun b k=>max b (gapM m (l.getD k default).lo (l.getD k default).hi (keys.getD k default))) 0
theorem lowF_succ (m:Int) (l:List PShell) (keys:List Int) (n:Nat):lowF m l keys (n+1)=max (lowF m l keys n) (gapM m (l.getD n default).lo (l.getD n default).hi (keys.getD n default)):=by
 unfold lowF;rw [List.range_succ,List.foldl_append];rfl
def askB (m:Int) (l:List PShell) (keys:List Int):Bool:=keyB m && (shellsB l && (decide (keys.length=l.length) && keys.all (hasP allP)))
def lowP (m:Int) (l:List PShell) (keys:List Int):Int×Int:=if askB m l keys then (lowF m l keys l.length,0) else (0,1)
set_option maxRecDepth 10000 in
theorem pw_low1 (m b:Int) (s:PShell) (k:Int) (hs:shellB s=true) (hk:hasP allP k=true):PCalls Tryz.prog 153 [pint b,psh s,pint k, .ep [pint m] 0] (· = pint (max b (gapM m s.lo s.hi k))):=by
 have hk2:0≤k∧k≤134217728:=by simp only [hasP,Bool.and_eq_true,decide_eq_true_eq] at hk;exact hk
 have h:=pw_gap m s.lo s.hi k hk2 (shellB_iff.1 hs)
 have hl:=low_pshL s
 refine pcalls_of_pw typeTab_ok Tryz.func153 rfl (by kernel_rfl) (by simp [low_pint,low_psh,low_ep]) (by simp [pint,psh,PV.ownB]) (by rw [Tryz.ntmps153];simp) ?_
 rw [Tryz.ntmps153,Tryz.results153]
 unfold psh pshL at *
 refine wk ?_
 refine retP rfl (by exact lw) ?_
 simp only [if_true,pint]
 congr 2;grind
set_option maxRecDepth 10000 in
set_option maxHeartbeats 2000000 in
theorem pw_bound (m:Int) (l:List PShell) (keys:List Int) (h1:l.length≤1000000) (h2:keys.length≤1000000):PCalls Tryz.prog 152 [pint m,pshells l,pints keys,pint 0, .fn 153 [.ep [pint m] 0]] (· = .tup [pint (lowP m l keys).1,pint (lowP m l keys).2]):=by
 have hlow:∀x,Low (pshells x):=fun x=>(low_pshells x).2 trivial
 have hlf:Low (.fn 153 [.ep [pint m] 0]):=low_clo _ _
 have a1:=pw_isMetric m
 have a2:=pw_shValid l h1
 refine pcalls_of_pw typeTab_ok Tryz.func152 rfl (by kernel_rfl) (by simp [low_pshells,low_pint,low_pints,hlf]) (by simp [pshells,pints,pint,PV.ownB]) (by rw [Tryz.ntmps152];simp) ?_
 rw [Tryz.ntmps152,Tryz.results152]
 cases e1:keyB m with
 |false=>
  rw [e1] at a1
  clear a2
  refine wk ?_
  refine retP (r:=.tup [pint 0,pint 1]) rfl (by simp [low_tup,low_pint]) ?_
  simp only [lowP,askB,e1,Bool.false_and,Bool.false_eq_true,if_false]
 |true=>
  rw [e1] at a1
  cases e2:shellsB l with
  |false=>
   rw [e2] at a2
   refine wk ?_
   refine retP (r:=.tup [pint 0,pint 1]) rfl (by simp [low_tup,low_pint]) ?_
   simp only [lowP,askB,e2,Bool.false_and,Bool.and_false,Bool.false_eq_true,if_false]
  |true=>
   rw [e2] at a2
   obtain ⟨l8,hsh⟩:=shellsB_get e2
   by_cases e3:keys.length=l.length
   ·refine wk ?_
    refine PW.loop (fun k:Nat=>((((((bot.put 2 (pints keys)).put 4 (.fn 153 [.ep [pint m] 0])).put 12 (pint (lowF m l keys k))).put 31 (pshells l)).put 32 (pint l.length)).put 33 (pint k))) (fun k=>k≤l.length∧∀j,j < k→hasP allP (keys.getD j default)=true) (fun k=>l.length - k) 0 ⟨by omega,by simp⟩ ?_ ?_
    ·exact sb
    ·rintro k ⟨hk,ha⟩
     clear a1 a2
     by_cases hlt:k < l.length
     ·have p0:=pw_all
      have p1:=pw_has allP (keys.getD k default)
      cases e4:hasP allP (keys.getD k default) with
      |false=>
       rw [e4] at p1
       refine wk ?_
       refine retP (r:=.tup [pint 0,pint 1]) rfl (by simp [low_tup,low_pint]) ?_
       have:askB m l keys=false:=by
        have:keys.all (hasP allP)=false:=by
         rw [List.all_eq_false];exact ⟨keys.getD k default,getD_mem (by omega),by rw [e4];decide⟩
        simp only [askB,this,Bool.and_false]
       simp only [lowP,this,Bool.false_eq_true,if_false]
      |true=>
       rw [e4] at p1
       have p2:=pw_low1 m (lowF m l keys k) (l.getD k default) (keys.getD k default) (hsh k hlt) e4
       rw [←lowF_succ] at p2
       refine wk ?_
       have hI:k+1≤l.length∧∀j,j < k+1→hasP allP (keys.getD j default)=true:=⟨by omega,fun j hj=>by
        rcases Nat.lt_succ_iff_lt_or_eq.1 hj with h|h
        ·exact ha j h
        ·rw [h];exact e4⟩
       refine loopP (k+1) ?_ ?_ ?_
       ·exact hI
       ·omega
       exact sb
     ·refine wk ?_
      have hkk:k=l.length:=by omega
      refine retP (r:=.tup [pint (lowF m l keys k),pint 0]) rfl (by simp [low_tup,low_pint]) ?_
      have:askB m l keys=true:=by
       have:keys.all (hasP allP)=true:=by
        rw [List.all_eq_true]
        intro x hx
        obtain ⟨j,hj,rfl⟩:=List.getElem_of_mem hx
        have:=ha j (by omega)
        rwa [List.getD_eq_getElem?_getD,List.getElem?_eq_getElem hj] at this
       simp only [askB,this,e1,e2,e3,decide_true,Bool.and_self]
      rw [lowP,this,if_pos rfl,hkk]
   ·refine wk ?_
    refine retP (r:=.tup [pint 0,pint 1]) rfl (by simp [low_tup,low_pint]) ?_
    simp only [lowP,askB,e3,decide_false,Bool.false_and,Bool.and_false,Bool.false_eq_true,if_false]
set_option maxRecDepth 10000 in
theorem pw_pLow (m:Int) (l:List PShell) (keys:List Int) (h1:l.length≤1000000) (h2:keys.length≤1000000):PCalls Tryz.prog 77 [pint m,pshells l,pints keys] (· = .tup [pint (lowP m l keys).1,pint (lowP m l keys).2]):=by
 have hlow:∀x,Low (pshells x):=fun x=>(low_pshells x).2 trivial
 have hlf:Low (.fn 153 [.ep [pint m] 0]):=low_clo _ _
 have a1:=pw_bound m l keys h1 h2
 refine pcalls_of_pw typeTab_ok Tryz.func77 rfl (by kernel_rfl) (by simp [low_pshells,low_pint,low_pints]) (by simp [pshells,pints,pint,PV.ownB]) (by rw [Tryz.ntmps77];simp) ?_
 rw [Tryz.ntmps77,Tryz.results77]
 refine PW.seq ?_
 refine PW.region typeTab_ok (by kernel_rfl) ?_
 refine wg ?_
 refine PW.freezeP (id:=0) (s:=3) (off:=0) (σ':=(bot.put 1 (pshells l)).put 2 (pints keys)) rfl rfl (fun c hc=>by simp only [List.mem_cons,List.not_mem_nil,or_false] at hc;subst hc;exact .val _) (by exact sbr0) rfl ?_
 refine wk ?_
 exact retP (r:=.tup [pint (lowP m l keys).1,pint (lowP m l keys).2]) rfl (by simp [low_tup,low_pint]) rfl
def zBound (s:PSchema) (z:PSum) (v keys:List Int):Int×Int:=
 if (boxNear s.metric z.box v).2≠0∨(lowP s.metric z.shells keys).2≠0 then (0,1) else (max (boxNear s.metric z.box v).1 (lowP s.metric z.shells keys).1,0)
set_option maxRecDepth 10000 in
set_option maxHeartbeats 1000000 in
theorem pw_zBound (s:PSchema) (z:PSum) (v keys:List Int) (hz:SmallZ z) (h1:v.length≤1000000) (h2:keys.length≤1000000):PCalls Tryz.prog 25 [pschema s,psum z,pints v,pints keys] (· = .tup [pint (zBound s z v keys).1,pint (zBound s z v keys).2]):=by
 obtain ⟨z1,z2,z3,z4,z5⟩:=hz
 have c1:=pw_boxNear s.metric z.box v z1 z2 h1
 have c2:=pw_pLow s.metric z.shells keys z3 h2
 have hlz:=low_psumL z
 have hls:=low_schCells s
 refine pcalls_of_pw typeTab_ok Tryz.func25 rfl (by kernel_rfl) (by simp [low_psum,low_pschema,low_pints]) (by simp [psum,psumL,pschema,pints,PV.ownB]) (by rw [Tryz.ntmps25];simp) ?_
 rw [Tryz.ntmps25,Tryz.results25]
 unfold zBound
 unfold psum psumL at *
 unfold pbox pboxL at c1
 generalize boxNear s.metric z.box v=r1 at *
 generalize lowP s.metric z.shells keys=r2 at *
 obtain ⟨a1,a2⟩:=r1
 obtain ⟨b1,b2⟩:=r2
 by_cases e1:a2=0
 ·by_cases e2:b2=0
  ·refine wk ?_
   refine retP (r:=.tup [pint (max a1 b1),pint 0]) ?_ (by simp [low_tup,low_pint]) (by rw [if_neg (by simp [e1,e2])])
   rw [show max a1 b1=(if b1 > a1 then b1 else a1) from by split<;>omega]
   rfl
  ·rw [if_pos (.inr e2)]
   refine wk ?_
   exact retP (r:=.tup [pint 0,pint 1]) rfl (by simp [low_tup,low_pint]) rfl
 ·rw [if_pos (.inl e1)]
  refine wk ?_
  exact retP (r:=.tup [pint 0,pint 1]) rfl (by simp [low_tup,low_pint]) rfl
structure PSnap where
 day:Int
 commit:Int
 deriving Inhabited
def psnap (a:PSnap):PV:=.agg [pint a.day,pint a.commit]
theorem low_psnap (a:PSnap):Low (psnap a)↔True:=by simp [psnap,low_agg,low_pint]
def zSeen (z:PSum) (a:PSnap):Bool:=decide (z.fromLo≤a.day) && (decide (a.day < z.toHi) && decide (z.bornLo≤a.commit))
set_option maxRecDepth 10000 in
set_option maxHeartbeats 1000000 in
theorem pw_zSeen (z:PSum) (a:PSnap):PCalls Tryz.prog 27 [psum z,psnap a] (· = pbool (zSeen z a)):=by
 refine pcalls_of_pw typeTab_ok Tryz.func27 rfl (by kernel_rfl) (by simp [low_psum,low_psnap]) (by simp [psum,psnap,PV.ownB]) (by rw [Tryz.ntmps27];simp) ?_
 rw [Tryz.ntmps27,Tryz.results27]
 unfold zSeen
 have hlz:=low_psumL z
 unfold psum psumL psnap at *
 by_cases e1:z.fromLo≤a.day
 ·by_cases e2:a.day < z.toHi
  ·by_cases e3:z.bornLo≤a.commit
   ·refine wk ?_
    exact retP rfl (by exact lw) (by simp [pbool,e1,e2,e3])
   ·refine wk ?_
    exact retP rfl (by exact lw) (by simp [pbool,e3])
  ·refine wk ?_
   exact retP rfl (by exact lw) (by simp [pbool,e2])
 ·refine wk ?_
  exact retP rfl (by exact lw) (by simp [pbool,e1])
end
section
open Go.ChangeShapes Go.WideShapes Go.ChangeAt Go.RowKit
theorem argInts:ArgOpens Tryz.prog 27 pints (fun l=>(∀z∈l,Fit64 z)∧l.length * 8≤reachBytes):=arg_slice Tryz.underlying27 opensInts
theorem argSnap:ArgOpens Tryz.prog 56 psnap (fun a=>Fit64 a.day∧Fit64 a.commit):=
 (arg_struct Tryz.underlying56 (opens_struct Tryz.underlying56 (opensFs_1 rfl opensInt (by kernel_rfl) (opensFs_1 rfl opensInt (by kernel_rfl) opensFs_nil)) (by kernel_rfl))).map
  (fun p=>(⟨p.1,p.2.1⟩:PSnap)) (fun _ _=>rfl) (fun _ h=>⟨h.1,h.2.1⟩)
end
end Go.Proofs.YtoamkpgaaanafaaGreat
