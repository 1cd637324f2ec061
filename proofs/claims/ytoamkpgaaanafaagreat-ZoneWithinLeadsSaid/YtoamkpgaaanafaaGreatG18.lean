/- Out of: Pa, Zm2. -/
import Derived.Test.YtoamkpgaaanafaaGreatRows
import Derived.WalkKit
import Derived.WalkSpells
import Derived.WalkLawsBesides
import Derived.Deep.QuietTactic
import Derived.BigQuiet
import Derived.RegionTactic
import Derived.Lib.AppendZeros
import Derived.Lib.AppendStr
import Derived.Lib.Hide
import Derived.OrdersIn
import Derived.Laws.BytesString
import Derived.WideLaws
import Derived.RangeFuncRecord
import Derived.Orders
import GoSem.Step
import Derived.Laws.RangeAny
import Derived.Lib.OthersKept
import Derived.Outline
import Derived.Laws.EntriesVeiled
import Derived.KernelRfl
import Derived.StillTailTactics
import Derived.Deep.Cut
import Derived.RangeFuncCalls
import Derived.Lib.BitFns
import Derived.Test.YtoamkpgaaanafaaGreatShelf
import Derived.Test.YtoamkpgaaanafaaGreatG1
import Derived.Test.YtoamkpgaaanafaaGreatG3
import Derived.Test.YtoamkpgaaanafaaGreatG6
import Derived.Test.YtoamkpgaaanafaaGreatG7
import Derived.Test.YtoamkpgaaanafaaGreatG8
import Derived.Test.YtoamkpgaaanafaaGreatG10
import Derived.Test.YtoamkpgaaanafaaGreatG11
import Derived.Test.YtoamkpgaaanafaaGreatG12
import Derived.Test.YtoamkpgaaanafaaGreatG14
import Derived.Test.YtoamkpgaaanafaaGreatG17
namespace Go.Proofs.YtoamkpgaaanafaaGreat
set_option linter.unusedSimpArgs false
set_option linter.unusedVariables false
set_option linter.unnecessarySimpa false
section
open Go.RowKit
theorem pcRefHas (l:List ByteArray) (s:ByteArray) (hl:l.length≤1000000000):PCalls Tryz.prog 86 [pstrs l,pstr s] (· = pbool (hasB l s)):=
 pcalls2 (by kernel_rfl) fun Φ μ w v u himm hr hr2=>by
  obtain ⟨rfl,-⟩:=hr2.val_inv
  exact (refHasS v l s w (strs_of_rep himm hr) hl).mono (by
   rintro e w' ⟨rfl,hb⟩
   exact post_flat himm (.val _ rfl) rfl rfl (by first|exact hb|exact hb.below _|(subst hb;exact Below.refl _ _)))
def shIn (l:List PShell) (keys:List Int):Bool:=shellsB l && (decide (keys.length=l.length) && (List.range l.length).all fun k=>hasP (l.getD k default) (keys.getD k default))
set_option maxRecDepth 10000 in
set_option maxHeartbeats 1000000 in
theorem pw_shIn (l:List PShell) (keys:List Int) (h1:l.length≤1000000) (h2:keys.length≤1000000):PCalls Tryz.prog 35 [pshells l,pints keys] (· = pbool (shIn l keys)):=by
 have hv:=pw_shValid l h1
 have hlow:∀x,Low (pshells x):=fun x=>(low_pshells x).2 trivial
 refine pcalls_of_pw typeTab_ok Tryz.func35 rfl (by kernel_rfl) (by simp [low_pshells,low_pints]) (by simp [pshells,pints,PV.ownB]) (by rw [Tryz.ntmps35];simp) ?_
 rw [Tryz.ntmps35,Tryz.results35]
 unfold shIn
 cases e1:shellsB l with
 |false=>
  rw [e1] at hv
  refine wk ?_
  exact retP rfl (by exact lw) rfl
 |true=>
  rw [e1] at hv
  by_cases e2:keys.length=l.length
  ·refine wk ?_
   refine PW.loop (fun k:Nat=>(((bot.put 1 (pints keys)).put 17 (pshells l)).put 18 (pint l.length)).put 19 (pint k)) (fun k=>k≤l.length∧∀j,j < k→hasP (l.getD j default) (keys.getD j default)=true) (fun k=>l.length - k) 0 ⟨by omega,by simp⟩ ?_ ?_
   ·exact sb
   ·rintro k ⟨hk,ha⟩
    by_cases hlt:k < l.length
    ·have p1:=pw_pof (l.getD k default)
     have p2:=pw_has (l.getD k default) (keys.getD k default)
     cases e3:hasP (l.getD k default) (keys.getD k default) with
     |false=>
      rw [e3] at p2
      refine wk ?_
      refine retP rfl (by exact lw) ?_
      have:(List.range l.length).all (fun k=>hasP (l.getD k default) (keys.getD k default))=false:=by
       rw [List.all_eq_false];exact ⟨k,by simp [hlt],by rw [e3];decide⟩
      rw [this];simp [pbool]
     |true=>
      rw [e3] at p2
      refine wk ?_
      have hI:k+1≤l.length∧∀j,j < k+1→hasP (l.getD j default) (keys.getD j default)=true:=⟨by omega,fun j hj=>by
       rcases Nat.lt_succ_iff_lt_or_eq.1 hj with h|h
       ·exact ha j h
       ·rw [h];exact e3⟩
      refine loopP (k+1) ?_ ?_ ?_
      ·exact hI
      ·omega
      exact sb
    ·refine wk ?_
     refine retP rfl (by exact lw) ?_
     have:(List.range l.length).all (fun k=>hasP (l.getD k default) (keys.getD k default))=true:=by
      rw [List.all_eq_true];intro j hj;exact ha j (by simp at hj;omega)
     rw [this];simp [pbool,e2]
  ·refine wk ?_
   exact retP rfl (by exact lw) (by simp [pbool,e2])
end
end Go.Proofs.YtoamkpgaaanafaaGreat
