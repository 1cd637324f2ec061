/- Merged: Zr. -/
import Derived.Test.YtoamkpgaaanafaaGreatS28
/- zone: fields (an iterator). -/
namespace Go.Proofs.YtoamkpgaaanafaaGreat
set_option linter.unusedSimpArgs false
set_option linter.unusedVariables false
set_option linter.unnecessarySimpa false
open Go.RowKit
end Go.Proofs.YtoamkpgaaanafaaGreat
