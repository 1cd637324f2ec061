/- More on own slices. -/
import Derived.Test.YtomjfmebbpfkeaaBase
namespace Go.Proofs.Ytomjfmebbpfkeaa
set_option linter.unusedSimpArgs false
set_option linter.unusedVariables false
set_option linter.unnecessarySimpa false
open Go.RowKit

theorem Own.lower {B B' E : Nat} {w : World} {v : Value} {cs : List Value} (h : Own B E w v cs) (hB : B' ≤ B) : Own B' E w v cs := by
  refine ⟨h.1, ?_⟩
  rcases h.2 with hn | ⟨g, cap, cur, rfl, hb1, rest⟩
  · exact .inl hn
  · exact .inr ⟨g, cap, cur, rfl, by omega, rest⟩

end Go.Proofs.Ytomjfmebbpfkeaa
