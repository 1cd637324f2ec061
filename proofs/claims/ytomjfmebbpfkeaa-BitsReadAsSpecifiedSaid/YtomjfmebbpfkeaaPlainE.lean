/- Plain: what bits.Of does. -/
import Derived.Test.YtomjfmebbpfkeaaPlainB
namespace Go.Proofs.Ytomjfmebbpfkeaa
set_option linter.unusedSimpArgs false
set_option linter.unusedVariables false
set_option linter.unnecessarySimpa false

def stepO (out : List Int) (x : Int) : List Int :=
  if out.length = 0 then out ++ [x, x + 1]
  else if out.getD (out.length - 1) 0 = x then out.set (out.length - 1) (x + 1)
  else if out.getD (out.length - 1) 0 ≤ x then out ++ [x, x + 1]
  else out
def ofS (l : List Int) : List Int := l.foldl stepO []
def sortI (l : List Int) : List Int := l.mergeSort fun x y => decide (x ≤ y)
def ofL (l : List Int) : List Int × Int := if l.all inR then (ofS (sortI l), 0) else ([], 1)

theorem sortI_length (l : List Int) : (sortI l).length = l.length := List.length_mergeSort ..
theorem sortI_all (l : List Int) : (sortI l).all inR = l.all inR := by
  rw [Bool.eq_iff_iff, List.all_eq_true, List.all_eq_true]
  constructor
  · intro h x hx; exact h x ((List.mergeSort_perm l _).mem_iff.2 hx)
  · intro h x hx; exact h x ((List.mergeSort_perm l _).mem_iff.1 hx)
theorem ofS_take (l : List Int) (k : Nat) (y : Int) (h : l[k]? = some y) : ofS (l.take (k+1)) = stepO (ofS (l.take k)) y := by
  rw [ofS, take_one l k y h, List.foldl_append]; rfl
theorem stepO_length (out : List Int) (x : Int) : (stepO out x).length ≤ out.length + 2 := by
  unfold stepO; split
  · simp
  · split
    · simp
    · split <;> simp
theorem ofS_length : ∀ (l : List Int) (k : Nat), (ofS (l.take k)).length ≤ 2 * k
  | l, 0 => by simp [ofS]
  | l, k + 1 => by
    by_cases h : k < l.length
    · have e : l[k]? = some l[k] := by simp
      rw [ofS_take l k _ e]
      have := stepO_length (ofS (l.take k)) l[k]
      have := ofS_length l k
      omega
    · have e : l.take (k+1) = l.take k := by rw [List.take_of_length_le (by omega), List.take_of_length_le (by omega)]
      rw [e]; have := ofS_length l k; omega

end Go.Proofs.Ytomjfmebbpfkeaa
