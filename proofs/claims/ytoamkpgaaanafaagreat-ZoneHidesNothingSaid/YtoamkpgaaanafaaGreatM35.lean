/- Out of: Vi. -/
import Derived.Test.YtoamkpgaaanafaaGreatM31
namespace Go.Proofs.YtoamkpgaaanafaaGreat
set_option linter.unusedSimpArgs false
set_option linter.unusedVariables false
set_option linter.unnecessarySimpa false
section
open Go.RowKit
def betB (x y:PField):Bool:=(x.words.all fun w=>hasB y.words w) && (decide (y.lo≤x.lo) && decide (x.hi≤y.hi))
theorem badF_bet (ca cb:Int) (x y:PField):badF ca cb x y=(decide (y.has < x.has) || (decide (cb - y.has < ca - x.has) || (decide (0 < x.has) && !betB x y))):=by
 have e:(x.words.any fun w => !hasB y.words w) = !(x.words.all fun w=>hasB y.words w):=by
  rw [List.not_all_eq_any_not]
 have e1:decide (x.lo < y.lo) = !decide (y.lo≤x.lo):=by
  by_cases h:x.lo < y.lo
  ·rw [decide_eq_true h,decide_eq_false (by omega)];rfl
  ·rw [decide_eq_false h,decide_eq_true (by omega)];rfl
 have e2:decide (y.hi < x.hi) = !decide (x.hi≤y.hi):=by
  by_cases h:y.hi < x.hi
  ·rw [decide_eq_true h,decide_eq_false (by omega)];rfl
  ·rw [decide_eq_false h,decide_eq_true (by omega)];rfl
 unfold badF betB
 rw [e,e1,e2]
 generalize (x.words.all fun w=>hasB y.words w)=p
 generalize decide (y.lo≤x.lo)=q
 generalize decide (x.hi≤y.hi)=r
 cases p<;>cases q<;>cases r<;>rfl
end
end Go.Proofs.YtoamkpgaaanafaaGreat
