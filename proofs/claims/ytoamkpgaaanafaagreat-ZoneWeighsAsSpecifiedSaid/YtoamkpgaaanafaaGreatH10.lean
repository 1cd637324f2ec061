/- Out of: Vi. -/
import Derived.Test.YtoamkpgaaanafaaGreatRows
import Derived.WalkKit
import Derived.WalkSpells
import Derived.WalkLawsBesides
import Derived.Deep.QuietTactic
import Derived.BigQuiet
import Derived.RegionTactic
import Derived.Lib.AppendZeros
import Derived.Lib.AppendStr
import Derived.Lib.Hide
import Derived.OrdersIn
import Derived.Laws.BytesString
import Derived.WideLaws
import Derived.RangeFuncRecord
import Derived.Orders
import GoSem.Step
import Derived.Laws.RangeAny
import Derived.Lib.OthersKept
import Derived.Outline
import Derived.Laws.EntriesVeiled
import Derived.KernelRfl
import Derived.StillTailTactics
import Derived.Deep.Cut
import Derived.RangeFuncCalls
import Derived.Lib.BitFns
import Derived.Test.YtoamkpgaaanafaaGreatShelf
import Derived.Test.YtoamkpgaaanafaaGreatIter
import Derived.Laws.Strings
import Derived.Test.YtoamkpgaaanafaaGreatG1
import Derived.Test.YtoamkpgaaanafaaGreatG10
import Derived.Test.YtoamkpgaaanafaaGreatG11
import Derived.Test.YtoamkpgaaanafaaGreatG12
import Derived.Test.YtoamkpgaaanafaaGreatG14
import Derived.Test.YtoamkpgaaanafaaGreatG15
import Derived.Test.YtoamkpgaaanafaaGreatG17
import Derived.Test.YtoamkpgaaanafaaGreatG19
import Derived.Test.YtoamkpgaaanafaaGreatG21
import Derived.Test.YtoamkpgaaanafaaGreatG24
import Derived.Test.YtoamkpgaaanafaaGreatG29
import Derived.Test.YtoamkpgaaanafaaGreatG3
import Derived.Test.YtoamkpgaaanafaaGreatG6
import Derived.Test.YtoamkpgaaanafaaGreatG7
import Derived.Test.YtoamkpgaaanafaaGreatG8
import Derived.Test.YtoamkpgaaanafaaGreatH5
import Derived.Test.YtoamkpgaaanafaaGreatH7
namespace Go.Proofs.YtoamkpgaaanafaaGreat
set_option linter.unusedSimpArgs false
set_option linter.unusedVariables false
set_option linter.unnecessarySimpa false
section
open Go.RowKit
set_option maxRecDepth 10000 in
set_option maxHeartbeats 1000000 in
theorem pw_rBound (s:PSchema) (z:PSum) (v keys:List Int) (hz:SmallZ z) (h1:v.length≤1000000) (h2:keys.length≤1000000):PCalls Tryz.prog 26 [pschema s,psum z,pints v,pints keys] (· = .agg [pint (zBound s z v keys).1,pint (zBound s z v keys).2]):=by
 obtain ⟨z1,z2,z3,z4,z5⟩:=hz
 have c1:=pw_r6Near s.metric z.box v z1 z2 h1
 have c2:=pw_r9Low s.metric z.shells keys z3 h2
 have hlz:=low_psumL z
 have hls:=low_schCells s
 refine pcalls_of_pw typeTab_ok Tryz.func26 rfl (by kernel_rfl) (by simp [low_pint,low_pints,low_pstr,low_pbool,low_pbox,low_pvecs,low_pentry,low_pentries,low_psum,low_pschema,low_pshells,low_pstrs,low_pfld,low_pdef]) (by simp [pint,pints,pstr,pbool,pbox,pvecs,pentry,pentries,psum,psumL,pschema,pshells,pstrs,pfld,pfldL,pdefL,PV.ownB]) (by rw [Tryz.ntmps26];simp) ?_
 rw [Tryz.ntmps26,Tryz.results26]
 unfold zBound
 unfold psum psumL at *
 unfold pbox pboxL at c1
 generalize boxNear s.metric z.box v=r1 at *
 generalize lowP s.metric z.shells keys=r2 at *
 obtain ⟨a1,a2⟩:=r1
 obtain ⟨b1,b2⟩:=r2
 by_cases e1:a2=0
 ·by_cases e2:b2=0
  ·refine wk ?_
   refine retP (r:=.agg [pint (max a1 b1),pint 0]) ?_ (by simp [low_agg,low_pint]) (by rw [if_neg (by simp [e1,e2])])
   rw [show max a1 b1=(if b1 > a1 then b1 else a1) from by split<;>omega]
   rfl
  ·rw [if_pos (.inr e2)]
   refine wk ?_
   exact retP (r:=.agg [pint 0,pint 1]) rfl (by simp [low_agg,low_pint]) rfl
 ·rw [if_pos (.inl e1)]
  refine wk ?_
  exact retP (r:=.agg [pint 0,pint 1]) rfl (by simp [low_agg,low_pint]) rfl
set_option maxRecDepth 10000 in
set_option maxHeartbeats 1000000 in
theorem pw_rSeen (z:PSum) (a:PSnap):PCalls Tryz.prog 28 [psum z,psnap a] (· = pbool (zSeen z a)):=by
 refine pcalls_of_pw typeTab_ok Tryz.func28 rfl (by kernel_rfl) (by simp [low_psum,low_psnap]) (by simp [psum,psnap,PV.ownB]) (by rw [Tryz.ntmps28];simp) ?_
 rw [Tryz.ntmps28,Tryz.results28]
 unfold zSeen
 have hlz:=low_psumL z
 unfold psum psumL psnap at *
 by_cases e1:z.fromLo≤a.day
 ·by_cases e2:a.day < z.toHi
  ·by_cases e3:z.bornLo≤a.commit
   ·refine wk ?_
    exact retP rfl (by exact lw) (by simp [pbool,e1,e2,e3])
   ·refine wk ?_
    exact retP rfl (by exact lw) (by simp [pbool,e3])
  ·refine wk ?_
   exact retP rfl (by exact lw) (by simp [pbool,e2])
 ·refine wk ?_
  exact retP rfl (by exact lw) (by simp [pbool,e1])
end
end Go.Proofs.YtoamkpgaaanafaaGreat
