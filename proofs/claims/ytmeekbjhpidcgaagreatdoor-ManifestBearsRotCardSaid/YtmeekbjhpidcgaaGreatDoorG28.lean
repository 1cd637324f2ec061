/- Out of: Opens. -/
import Derived.Test.YtmeekbjhpidcgaaGreatDoorG24
namespace Go.Proofs.YtmeekbjhpidcgaaGreatDoor
set_option linter.unusedSimpArgs false
set_option linter.unusedVariables false
set_option linter.unnecessarySimpa false
section
open Go.ChangeShapes Go.WideShapes Go.ChangeAt Go.RowKit
variable {P:Program} {t e:TypeId}
theorem arg_int {k:IntKind} (ht:P.underlying t=some (.int k)):ArgOpens P t (fun z:Int=>.val (.int k z)) (fun z=>(Lit.int k z).wf=true):=by
 intro H enc W base v d pl hv ⟨fuel,h⟩ hw
 obtain ⟨z,rfl⟩:=okWide_int ht hv
 obtain ⟨y,k1,k2⟩:=opens_int ht H enc W fuel _ d pl h hw
 exact ⟨y,k1,repL_one1 k2⟩
end
end Go.Proofs.YtmeekbjhpidcgaaGreatDoor
