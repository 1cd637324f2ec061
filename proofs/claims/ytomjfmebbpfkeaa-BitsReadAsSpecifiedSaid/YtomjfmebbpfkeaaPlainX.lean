/- Plain: the value of digits, for antiquaryref01.GetInt. -/
import Derived.Test.YtomjfmebbpfkeaaPlainW
namespace Go.Proofs.Ytomjfmebbpfkeaa
set_option linter.unusedSimpArgs false
set_option linter.unusedVariables false
set_option linter.unnecessarySimpa false

def val : List Int → Int
  | [] => 0
  | d :: r => d % 128 + 128 * val r

theorem pow7 (k : Nat) : (2 : Int) ^ (7 * (k + 1)) = 128 * 2 ^ (7 * k) := by
  rw [show 7 * (k + 1) = 7 * k + 7 by omega, Int.pow_add, Int.mul_comm]; rfl

theorem val_snoc (c : Int) : ∀ (l : List Int), val (l ++ [c]) = val l + c % 128 * 2 ^ (7 * l.length)
  | [] => by simp [val]
  | d :: r => by
    have := val_snoc c r
    simp only [List.cons_append, val, this, List.length_cons, pow7]
    rw [Int.mul_add, ← Int.mul_assoc, ← Int.mul_assoc, Int.mul_comm 128 (c % 128)]
    omega

theorem val_take (bs : List Int) (k : Nat) (c : Int) (h : bs[k]? = some c) : val (bs.take (k+1)) = val (bs.take k) + c % 128 * 2 ^ (7 * k) := by
  obtain ⟨hk, _⟩ := List.getElem?_eq_some_iff.1 h
  rw [List.take_add_one, h, Option.toList, val_snoc, List.length_take, Nat.min_eq_left (by omega)]

theorem val_lt : ∀ (l : List Int), 0 ≤ val l ∧ val l < 2 ^ (7 * l.length)
  | [] => by simp [val]
  | d :: r => by
    have := val_lt r
    simp only [val, List.length_cons, pow7]
    omega

theorem val_last (l : List Int) (c : Int) (h : c % 128 ≤ 1) : val (l ++ [c]) < 2 * 2 ^ (7 * l.length) := by
  rw [val_snoc]
  have h1 := val_lt l
  have hp : (0 : Int) < 2 ^ (7 * l.length) := Int.pow_pos (by decide)
  have hm : c % 128 * 2 ^ (7 * l.length) ≤ 1 * 2 ^ (7 * l.length) := Int.mul_le_mul_of_nonneg_right h (by omega)
  omega

/-- All values on the way are less than 2^64. -/
theorem val_fits (bs : List Int) (k i : Nat) (c : Int) (h : bs[k]? = some c) (hk : k ≤ 9) (hi : i ≤ k + 1) (h9 : k = 9 → c ≤ 1) (hc : 0 ≤ c) : 0 ≤ val ((bs.take (k+1)).drop i) ∧ val ((bs.take (k+1)).drop i) < 18446744073709551616 := by
  refine ⟨(val_lt _).1, ?_⟩
  obtain ⟨hlt, _⟩ := List.getElem?_eq_some_iff.1 h
  by_cases g : k = 9
  · by_cases hik : i = k + 1
    · rw [List.drop_eq_nil_of_le (by simp; omega)]; simp [val]
    · have e : (bs.take (k+1)).drop i = (bs.take k).drop i ++ [c] := by
        rw [List.take_add_one, h, Option.toList, List.drop_append_of_le_length (by simp; omega)]
      have hl : ((bs.take k).drop i).length ≤ 9 := by simp; omega
      rw [e]
      have h1 := val_last ((bs.take k).drop i) c (by have := h9 g; omega)
      have hle : (2 : Int) ^ (7 * ((bs.take k).drop i).length) ≤ 2 ^ 63 := by
        have h := Nat.pow_le_pow_right (n := 2) (by decide) (show 7 * ((bs.take k).drop i).length ≤ 63 by omega)
        exact_mod_cast h
      have e2 : (2 : Int) ^ 63 = 9223372036854775808 := by decide
      omega
  · have h1 := (val_lt ((bs.take (k+1)).drop i)).2
    have hl : ((bs.take (k+1)).drop i).length ≤ 9 := by simp; omega
    have hle : (2 : Int) ^ (7 * ((bs.take (k+1)).drop i).length) ≤ 2 ^ 63 := by
      have h := Nat.pow_le_pow_right (n := 2) (by decide) (show 7 * ((bs.take (k+1)).drop i).length ≤ 63 by omega)
      exact_mod_cast h
    have e2 : (2 : Int) ^ 63 = 9223372036854775808 := by decide
    omega

theorem val_step (bs : List Int) (k i : Nat) (c : Int) (hi : i ≤ k) (h : bs[i]? = some c) : val ((bs.take (k+1)).drop i) = c % 128 + 128 * val ((bs.take (k+1)).drop (i+1)) := by
  obtain ⟨hlt, e⟩ := List.getElem?_eq_some_iff.1 h
  rw [List.drop_eq_getElem_cons (by simp; omega), val]
  simp [e]

/-- After k bytes that are not the last ones. -/
theorem getI_lead (bs : List Int) : ∀ k, k ≤ 9 → (∀ (j : Nat) (c : Int), j < k → bs[j]? = some c → 128 ≤ c) → k ≤ bs.length → getI bs = getGo (bs.drop k) k (val (bs.take k))
  | 0, _, _, _ => rfl
  | k + 1, hk, hall, hl => by
    obtain ⟨c, hc⟩ : ∃ c, bs[k]? = some c := ⟨bs[k], by simp⟩
    have h1 := hall k c (by omega) hc
    rw [getI_lead bs k (by omega) (fun j d hj => hall j d (by omega)) (by omega), getGo_drop bs k c _ hc, if_neg (by omega), if_neg (by omega), val_take bs k c hc]

theorem getI_ten (bs : List Int) (hall : ∀ (j : Nat) (c : Int), j < 10 → bs[j]? = some c → 128 ≤ c) (hl : 10 ≤ bs.length) : getI bs = (0, 0, 11) := by
  obtain ⟨c, hc⟩ : ∃ c, bs[9]? = some c := ⟨bs[9], by simp⟩
  rw [getI_lead bs 9 (by omega) (fun j d hj => hall j d (by omega)) (by omega), getGo_drop bs 9 c _ hc, if_pos]
  left; have := hall 9 c (by omega) hc; omega

theorem getI_short (bs : List Int) (k : Nat) (hk : k ≤ 9) (hall : ∀ (j : Nat) (c : Int), j < k → bs[j]? = some c → 128 ≤ c) (hl : bs.length = k) : getI bs = (0, 0, 10) := by
  rw [getI_lead bs k hk hall (by omega), getGo_end _ _ _ (by omega)]

theorem getI_bad (bs : List Int) (k : Nat) (c : Int) (hk : k ≤ 9) (hall : ∀ (j : Nat) (c : Int), j < k → bs[j]? = some c → 128 ≤ c) (hc : bs[k]? = some c) (h : (k = 9 ∧ 1 < c) ∨ (0 < k ∧ c = 0)) : getI bs = (0, 0, 11) := by
  obtain ⟨hlt, _⟩ := List.getElem?_eq_some_iff.1 hc
  rw [getI_lead bs k hk hall (by omega), getGo_drop bs k c _ hc, if_pos h]

theorem getI_good (bs : List Int) (k : Nat) (c : Int) (hk : k ≤ 9) (hall : ∀ (j : Nat) (c : Int), j < k → bs[j]? = some c → 128 ≤ c) (hc : bs[k]? = some c) (h : ¬ ((k = 9 ∧ 1 < c) ∨ (0 < k ∧ c = 0))) (h1 : c < 128) :
    getI bs = (unzig (val (bs.take (k+1))), (k : Int) + 1, 0) := by
  obtain ⟨hlt, _⟩ := List.getElem?_eq_some_iff.1 hc
  rw [getI_lead bs k hk hall (by omega), getGo_drop bs k c _ hc, if_neg h, if_pos h1, val_take bs k c hc]

end Go.Proofs.Ytomjfmebbpfkeaa
