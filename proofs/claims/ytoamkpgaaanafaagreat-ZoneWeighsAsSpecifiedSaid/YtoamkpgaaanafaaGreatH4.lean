/- Out of: Vf. -/
import Derived.Test.YtoamkpgaaanafaaGreatRows
import Derived.WalkKit
import Derived.WalkSpells
import Derived.WalkLawsBesides
import Derived.Deep.QuietTactic
import Derived.BigQuiet
import Derived.RegionTactic
import Derived.Lib.AppendZeros
import Derived.Lib.AppendStr
import Derived.Lib.Hide
import Derived.OrdersIn
import Derived.Laws.BytesString
import Derived.WideLaws
import Derived.RangeFuncRecord
import Derived.Orders
import GoSem.Step
import Derived.Laws.RangeAny
import Derived.Lib.OthersKept
import Derived.Outline
import Derived.Laws.EntriesVeiled
import Derived.KernelRfl
import Derived.StillTailTactics
import Derived.Deep.Cut
import Derived.RangeFuncCalls
import Derived.Lib.BitFns
import Derived.Test.YtoamkpgaaanafaaGreatShelf
import Derived.Test.YtoamkpgaaanafaaGreatIter
import Derived.Laws.Strings
import Derived.Test.YtoamkpgaaanafaaGreatG1
import Derived.Test.YtoamkpgaaanafaaGreatG11
import Derived.Test.YtoamkpgaaanafaaGreatG14
import Derived.Test.YtoamkpgaaanafaaGreatG15
import Derived.Test.YtoamkpgaaanafaaGreatG21
import Derived.Test.YtoamkpgaaanafaaGreatG6
import Derived.Test.YtoamkpgaaanafaaGreatG7
import Derived.Test.YtoamkpgaaanafaaGreatG8
namespace Go.Proofs.YtoamkpgaaanafaaGreat
set_option linter.unusedSimpArgs false
set_option linter.unusedVariables false
set_option linter.unnecessarySimpa false
section
open Go.RowKit
theorem WeakL.append {a b c d:List PV} (h:WeakL a b) (k:WeakL c d):WeakL (a ++ c) (b ++ d):=by
 induction h with
 |nil=>exact k
 |cons h1 _ ih=>exact .cons h1 ih
end
end Go.Proofs.YtoamkpgaaanafaaGreat
