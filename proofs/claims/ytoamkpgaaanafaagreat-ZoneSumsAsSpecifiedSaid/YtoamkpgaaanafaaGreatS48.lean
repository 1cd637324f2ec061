/- Merged: Ue. -/
import Derived.Test.YtoamkpgaaanafaaGreatS46
import Derived.Test.YtoamkpgaaanafaaGreatS47
/- law18: ZoneJoinsAsSpecified. -/
namespace Go.Proofs.YtoamkpgaaanafaaGreat
set_option linter.unusedSimpArgs false
set_option linter.unusedVariables false
set_option linter.unnecessarySimpa false
open Go.RowKit
end Go.Proofs.YtoamkpgaaanafaaGreat
