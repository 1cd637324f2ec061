/- Out of: Wire4, PwQ. -/
import Derived.Test.YtoamkpgaaanafaaGreatG1
import Derived.Test.YtoamkpgaaanafaaGreatG10
import Derived.Test.YtoamkpgaaanafaaGreatG3
import Derived.Test.YtoamkpgaaanafaaGreatG6
import Derived.Test.YtoamkpgaaanafaaGreatG8
namespace Go.Proofs.YtoamkpgaaanafaaGreat
set_option linter.unusedSimpArgs false
set_option linter.unusedVariables false
set_option linter.unnecessarySimpa false
section
open Go.RowKit
theorem Byte.of {bs:List Int} (h:∀c∈bs,0≤c∧c < 256):Byte bs:=fun _ c hk=>h c (List.mem_of_getElem? hk)
theorem one_pattrs (l:List PAttr):(l.flatMap pattrL).all PV.one=true:=by
 rw [List.all_eq_true]
 intro c hc
 obtain ⟨a,-,h⟩:=List.mem_flatMap.1 hc
 simp [pattrL] at h
 rcases h with rfl|rfl|rfl|rfl<;>rfl
end
end Go.Proofs.YtoamkpgaaanafaaGreat
