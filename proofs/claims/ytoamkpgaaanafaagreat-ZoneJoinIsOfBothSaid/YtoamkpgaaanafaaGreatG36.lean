/- Out of: Vi. -/
import Derived.Test.YtoamkpgaaanafaaGreatRows
import Derived.WalkKit
import Derived.WalkSpells
import Derived.WalkLawsBesides
import Derived.Deep.QuietTactic
import Derived.BigQuiet
import Derived.RegionTactic
import Derived.Lib.AppendZeros
import Derived.Lib.AppendStr
import Derived.Lib.Hide
import Derived.OrdersIn
import Derived.Laws.BytesString
import Derived.WideLaws
import Derived.RangeFuncRecord
import Derived.Orders
import GoSem.Step
import Derived.Laws.RangeAny
import Derived.Lib.OthersKept
import Derived.Outline
import Derived.Laws.EntriesVeiled
import Derived.KernelRfl
import Derived.StillTailTactics
import Derived.Deep.Cut
import Derived.RangeFuncCalls
import Derived.Lib.BitFns
import Derived.Test.YtoamkpgaaanafaaGreatShelf
import Derived.Test.YtoamkpgaaanafaaGreatIter
import Derived.Laws.Strings
import Derived.Test.YtoamkpgaaanafaaGreatG1
import Derived.Test.YtoamkpgaaanafaaGreatG3
import Derived.Test.YtoamkpgaaanafaaGreatG6
import Derived.Test.YtoamkpgaaanafaaGreatG8
import Derived.Test.YtoamkpgaaanafaaGreatG11
import Derived.Test.YtoamkpgaaanafaaGreatG14
import Derived.Test.YtoamkpgaaanafaaGreatG15
import Derived.Test.YtoamkpgaaanafaaGreatG21
import Derived.Test.YtoamkpgaaanafaaGreatG31
namespace Go.Proofs.YtoamkpgaaanafaaGreat
set_option linter.unusedSimpArgs false
set_option linter.unusedVariables false
set_option linter.unnecessarySimpa false
section
open Go.RowKit
def betB (x y:PField):Bool:=(x.words.all fun w=>hasB y.words w) && (decide (y.lo≤x.lo) && decide (x.hi≤y.hi))
theorem badF_bet (ca cb:Int) (x y:PField):badF ca cb x y=(decide (y.has < x.has) || (decide (cb - y.has < ca - x.has) || (decide (0 < x.has) && !betB x y))):=by
 have e:(x.words.any fun w => !hasB y.words w) = !(x.words.all fun w=>hasB y.words w):=by
  rw [List.not_all_eq_any_not]
 have e1:decide (x.lo < y.lo) = !decide (y.lo≤x.lo):=by
  by_cases h:x.lo < y.lo
  ·rw [decide_eq_true h,decide_eq_false (by omega)];rfl
  ·rw [decide_eq_false h,decide_eq_true (by omega)];rfl
 have e2:decide (y.hi < x.hi) = !decide (x.hi≤y.hi):=by
  by_cases h:y.hi < x.hi
  ·rw [decide_eq_true h,decide_eq_false (by omega)];rfl
  ·rw [decide_eq_false h,decide_eq_true (by omega)];rfl
 unfold badF betB
 rw [e,e1,e2]
 generalize (x.words.all fun w=>hasB y.words w)=p
 generalize decide (y.lo≤x.lo)=q
 generalize decide (x.hi≤y.hi)=r
 cases p<;>cases q<;>cases r<;>rfl
end
end Go.Proofs.YtoamkpgaaanafaaGreat
