/- Merged: Zs. -/
import Derived.Test.YtoamkpgaaanafaaGreatS29
/- zone: Within. -/
namespace Go.Proofs.YtoamkpgaaanafaaGreat
set_option linter.unusedSimpArgs false
set_option linter.unusedVariables false
set_option linter.unnecessarySimpa false
open Go.RowKit
def CountZ (z:PSum):Prop:=(-1000000≤z.count∧z.count≤1000000)∧∀k,-1000000≤(z.fields.getD k default).has∧(z.fields.getD k default).has≤1000000
end Go.Proofs.YtoamkpgaaanafaaGreat
