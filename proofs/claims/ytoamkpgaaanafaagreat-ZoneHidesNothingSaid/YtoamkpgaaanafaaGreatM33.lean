/- Out of: Wd. -/
import Derived.Test.YtoamkpgaaanafaaGreatM29
namespace Go.Proofs.YtoamkpgaaanafaaGreat
set_option linter.unusedSimpArgs false
set_option linter.unusedVariables false
set_option linter.unnecessarySimpa false
section
open Go.RowKit
theorem getA_found {l:List PAttr} {nm:ByteArray} (h:(getA l nm).2=true):(getA l nm).1∈l∧eqB (getA l nm).1.name nm=true:=by
 induction l with
 |nil=>simp [getA] at h
 |cons a r ih=>
  unfold getA at h ⊢
  split
  ·rename_i q;exact ⟨by simp,q⟩
  ·rename_i q
   rw [if_neg q] at h
   exact ⟨by simp [(ih h).1],(ih h).2⟩
end
end Go.Proofs.YtoamkpgaaanafaaGreat
