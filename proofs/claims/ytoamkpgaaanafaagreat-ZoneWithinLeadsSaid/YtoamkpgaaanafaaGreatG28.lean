/- Out of: Zc, Zk. -/
import Derived.Test.YtoamkpgaaanafaaGreatRows
import Derived.WalkKit
import Derived.WalkSpells
import Derived.WalkLawsBesides
import Derived.Deep.QuietTactic
import Derived.BigQuiet
import Derived.RegionTactic
import Derived.Lib.AppendZeros
import Derived.Lib.AppendStr
import Derived.Lib.Hide
import Derived.OrdersIn
import Derived.Laws.BytesString
import Derived.WideLaws
import Derived.RangeFuncRecord
import Derived.Orders
import GoSem.Step
import Derived.Laws.RangeAny
import Derived.Lib.OthersKept
import Derived.Outline
import Derived.Laws.EntriesVeiled
import Derived.KernelRfl
import Derived.StillTailTactics
import Derived.Deep.Cut
import Derived.RangeFuncCalls
import Derived.Test.YtoamkpgaaanafaaGreatG1
import Derived.Test.YtoamkpgaaanafaaGreatG3
import Derived.Test.YtoamkpgaaanafaaGreatG6
import Derived.Test.YtoamkpgaaanafaaGreatG7
import Derived.Test.YtoamkpgaaanafaaGreatG8
import Derived.Test.YtoamkpgaaanafaaGreatG10
import Derived.Test.YtoamkpgaaanafaaGreatG11
import Derived.Test.YtoamkpgaaanafaaGreatG14
import Derived.Test.YtoamkpgaaanafaaGreatG15
import Derived.Test.YtoamkpgaaanafaaGreatG17
import Derived.Test.YtoamkpgaaanafaaGreatG19
import Derived.Test.YtoamkpgaaanafaaGreatG23
namespace Go.Proofs.YtoamkpgaaanafaaGreat
set_option linter.unusedSimpArgs false
set_option linter.unusedVariables false
set_option linter.unnecessarySimpa false
section
open Go.RowKit
def boxIn (a b:PBox):Bool:=boxB a && (boxHas b a.lo && boxHas b a.hi)
set_option maxRecDepth 10000 in
set_option maxHeartbeats 1000000 in
theorem pw_boxIn (a b:PBox) (h1:a.lo.length≤1000000000000) (h2:a.hi.length≤1000000000000) (h3:b.lo.length≤1000000000000) (h4:b.hi.length≤1000000000000):PCalls Tryz.prog 101 [pbox a,pbox b] (· = pbool (boxIn a b)):=by
 have hv:=pw_boxValid a h1 h2
 have ha:=pw_boxHas b a.lo h3 h4 h1
 have hb:=pw_boxHas b a.hi h3 h4 h2
 have hl1:=low_pboxL a
 have hl2:=low_pboxL b
 refine pcalls_of_pw typeTab_ok Tryz.func101 rfl (by kernel_rfl) (by simp [low_pbox]) (by simp [pbox,PV.ownB]) (by rw [Tryz.ntmps101];simp) ?_
 rw [Tryz.ntmps101,Tryz.results101]
 unfold boxIn
 cases e1:boxB a with
 |false=>
  rw [e1] at hv
  unfold pbox pboxL at *
  refine wk ?_
  exact retP rfl (by exact lw) (by simp [pbool])
 |true=>
  rw [e1] at hv
  cases e2:boxHas b a.lo with
  |false=>
   rw [e2] at ha
   unfold pbox pboxL at *
   refine wk ?_
   exact retP rfl (by exact lw) (by simp [pbool])
  |true=>
   rw [e2] at ha
   unfold pbox pboxL at *
   cases e3:boxHas b a.hi <;>
   ·rw [e3] at hb
    refine wk ?_
    exact retP rfl (by exact lw) (by simp [pbool])
set_option maxRecDepth 10000 in
set_option maxHeartbeats 1000000 in
theorem pw_boxAlike (a b:PBox) (h1:a.lo.length≤1000000000000) (h2:a.hi.length≤1000000000000) (h3:b.lo.length≤1000000000000) (h4:b.hi.length≤1000000000000):PCalls Tryz.prog 192 [pbox a,pbox b] (· = pbool (boxB a && (boxB b && decide (a.lo.length=b.lo.length)))):=by
 have hv:=pw_boxValid a h1 h2
 have hw:=pw_boxValid b h3 h4
 have hl1:=low_pboxL a
 have hl2:=low_pboxL b
 refine pcalls_of_pw typeTab_ok Tryz.func192 rfl (by kernel_rfl) (by simp [low_pbox]) (by simp [pbox,PV.ownB]) (by rw [Tryz.ntmps192];simp) ?_
 rw [Tryz.ntmps192,Tryz.results192]
 cases e1:boxB a with
 |false=>
  rw [e1] at hv
  unfold pbox pboxL at *
  refine wk ?_
  exact retP rfl (by exact lw) (by simp [pbool])
 |true=>
  rw [e1] at hv
  cases e2:boxB b with
  |false=>
   rw [e2] at hw
   unfold pbox pboxL at *
   refine wk ?_
   exact retP rfl (by exact lw) (by simp [pbool])
  |true=>
   rw [e2] at hw
   unfold pbox pboxL at *
   by_cases e3:a.lo.length=b.lo.length
   ·refine wk ?_
    exact retP rfl (by exact lw) (by simp [pbool,e3])
   ·refine wk ?_
    exact retP rfl (by exact lw) (by simp [pbool,e3])
set_option maxRecDepth 10000 in
set_option maxHeartbeats 1000000 in
theorem pw_boxJoin (a b:PBox) (h1:a.lo.length≤1000000) (h2:a.hi.length≤1000000) (h3:b.lo.length≤1000000) (h4:b.hi.length≤1000000):PCalls Tryz.prog 109 [pbox a,pbox b] (· = .tup [pbox (boxJoin a b).1,pint (boxJoin a b).2]):=by
 have hv:=pw_boxAlike a b (by omega) (by omega) (by omega) (by omega)
 have hl1:=low_pboxL a
 have hl2:=low_pboxL b
 refine PCalls.weak ?_
 refine pcalls_of_pw typeTab_ok Tryz.func109 rfl (by kernel_rfl) (by simp [low_pbox]) (by simp [pbox,PV.ownB]) (by rw [Tryz.ntmps109];simp) ?_
 rw [Tryz.ntmps109,Tryz.results109]
 unfold boxJoin
 cases e1:(boxB a && (boxB b && decide (a.lo.length=b.lo.length))) with
 |false=>
  rw [e1] at hv
  unfold pbox pboxL at *
  refine wk ?_
  exact retP (r:=.tup [.agg [.nilsl, .nilsl],pint 1]) rfl (by simp [low_tup,low_agg,low_nilsl,low_pint]) weak_nobox
 |true=>
  rw [e1] at hv
  have e2:=e1
  simp only [Bool.and_eq_true,decide_eq_true_eq] at e2
  obtain ⟨q1,q2,q3⟩:=e2
  have hz1:=pw_zip 139 min a.lo b.lo rfl (by omega) (by omega) pw_least
  have hz2:=pw_zip 140 max a.hi b.hi rfl (by omega) (by have:=boxB_len q1;have:=boxB_len q2;omega) pw_greatest
  unfold pbox pboxL at *
  refine wk ?_
  exact retP (r:=.tup [.agg [pints (zipI min a.lo b.lo),pints (zipI max a.hi b.hi)],pint 0]) rfl (by simp [low_tup,low_agg,low_pints,low_pint]) (Weak.refl _)
theorem joinS_len (a b:List PShell):(joinS a b).length=a.length:=by simp [joinS]
theorem joinS_take {a b:List PShell} {k:Nat} (h:k < a.length):(joinS a b).take (k+1)=(joinS a b).take k ++ [withP (withP (a.getD k default) (b.getD k default).lo) (b.getD k default).hi]:=by
 rw [List.take_add_one]
 congr 1
 simp [joinS,h,withP]
theorem weak_nosh {c:Int} : Weak (.tup [.nilsl, .val (.int .i64 c)]) (.tup [pshells [],pint c]):=Weak.tup (.cons (Weak.nil 2) (.cons (Weak.refl _) .nil))
set_option maxRecDepth 10000 in
set_option maxHeartbeats 2000000 in
theorem pw_shJoin (a b:List PShell) (h1:a.length≤1000000) (h2:b.length≤1000000):PCalls Tryz.prog 110 [pshells a,pshells b] (· = .tup [pshells (shJoin a b).1,pint (shJoin a b).2]):=by
 have hv:=pw_shValid a h1
 have hw:=pw_shValid b h2
 refine PCalls.weak ?_
 refine pcalls_of_pw typeTab_ok Tryz.func110 rfl (by kernel_rfl) (by simp [low_pshells]) (by simp [pshells,PV.ownB]) (by rw [Tryz.ntmps110];simp) ?_
 rw [Tryz.ntmps110,Tryz.results110]
 have hlow:∀x,Low (pshells x):=fun x=>(low_pshells x).2 trivial
 unfold shJoin
 cases e1:shellsB a with
 |false=>
  rw [e1] at hv
  clear hw
  refine wk ?_
  exact retP (r:=.tup [.nilsl,pint 1]) rfl (by simp [low_tup,low_nilsl,low_pint]) weak_nosh
 |true=>
  rw [e1] at hv
  cases e2:shellsB b with
  |false=>
   rw [e2] at hw
   refine wk ?_
   exact retP (r:=.tup [.nilsl,pint 1]) rfl (by simp [low_tup,low_nilsl,low_pint]) weak_nosh
  |true=>
   rw [e2] at hw
   by_cases e3:a.length=b.length
   ·obtain ⟨a8,-⟩:=shellsB_get e1
    refine wk ?_
    refine PW.loop (fun k:Nat=>(((((bot.put 1 (pshells b)).put 6 (.sl k 2 (((joinS a b).take k).flatMap pshL) (some 119))).put 25 (pshells a)).put 26 (pint a.length)).put 27 (pint k))) (fun k=>k≤a.length) (fun k=>a.length - k) 0 (by omega) ?_ ?_
    ·exact sb
    ·intro k hk
     by_cases hlt:k < a.length
     ·have hlen:=joinS_len a b
      have p1:=pw_pof (a.getD k default)
      have p2:=pw_with (a.getD k default) (b.getD k default).lo
      have p3:=pw_with (withP (a.getD k default) (b.getD k default).lo) (b.getD k default).hi
      refine wk ?_
      refine loopP (k+1) (by omega) (by omega) ?_
      simp only [joinS_take hlt,List.flatMap_append,List.flatMap_cons,List.flatMap_nil,List.append_nil]
      have hl3:=low_shapp (k+1) ((joinS a b).take k) (withP (withP (a.getD k default) (b.getD k default).lo) (b.getD k default).hi) (some 119)
      exact sb
     ·refine wk ?_
      have hkk:k=a.length:=by omega
      refine retP (r:=.tup [.sl k 2 (((joinS a b).take k).flatMap pshL) none,pint 0]) rfl (low_tup.2 (by simp only [List.mem_cons,List.not_mem_nil,or_false];rintro c (rfl|rfl);exact low_shown _ _ _;exact .val _)) ?_
      rw [if_pos (by simp [e3]),List.take_of_length_le (by rw [joinS_len];omega),hkk,←joinS_len a b]
      exact Weak.refl _
   ·refine wk ?_
    refine retP (r:=.tup [.nilsl,pint 1]) rfl (by simp [low_tup,low_nilsl,low_pint]) ?_
    rw [if_neg (by simp [e3])];exact weak_nosh
end
end Go.Proofs.YtoamkpgaaanafaaGreat
