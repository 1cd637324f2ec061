/- Out of: Vf. -/
import Derived.Test.YtoamkpgaaanafaaGreatIter
import Derived.Laws.Strings
import Derived.Test.YtoamkpgaaanafaaGreatM25
namespace Go.Proofs.YtoamkpgaaanafaaGreat
set_option linter.unusedSimpArgs false
set_option linter.unusedVariables false
set_option linter.unnecessarySimpa false
section
open Go.RowKit
theorem WeakL.append {a b c d:List PV} (h:WeakL a b) (k:WeakL c d):WeakL (a ++ c) (b ++ d):=by
 induction h with
 |nil=>exact k
 |cons h1 _ ih=>exact .cons h1 ih
end
end Go.Proofs.YtoamkpgaaanafaaGreat
