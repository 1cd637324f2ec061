/- Plain: lists of integers, encoded. -/
import Derived.Test.YtomjfmebbpfkeaaPlainX
namespace Go.Proofs.Ytomjfmebbpfkeaa
set_option linter.unusedSimpArgs false
set_option linter.unusedVariables false
set_option linter.unnecessarySimpa false

theorem getGo_ok : ∀ (l : List Int) (k : Nat) (z : Int), k ≤ 9 → 0 ≤ z → z < 2 ^ (7 * k) → (∀ c ∈ l, 0 ≤ c ∧ c < 256) → (getGo l k z).2.2 = 0 →
    (k : Int) + 1 ≤ (getGo l k z).2.1 ∧ (getGo l k z).2.1 ≤ k + l.length ∧ -9223372036854775808 ≤ (getGo l k z).1 ∧ (getGo l k z).1 ≤ 9223372036854775807
  | [], k, z, _, _, _, _, h => by simp [getGo] at h
  | c :: r, k, z, hk, h0, hz, hby, h => by
    rw [getGo] at h ⊢
    by_cases g : (k = 9 ∧ 1 < c) ∨ (0 < k ∧ c = 0)
    · rw [if_pos g] at h; simp at h
    · rw [if_neg g] at h ⊢
      obtain ⟨c0, c1⟩ := hby c (by simp)
      have hp : (0 : Int) < 2 ^ (7 * k) := Int.pow_pos (by decide)
      have hn : 0 ≤ c % 128 * 2 ^ (7 * k) := Int.mul_nonneg (by omega) (by omega)
      have hm : c % 128 * 2 ^ (7 * k) ≤ 127 * 2 ^ (7 * k) := Int.mul_le_mul_of_nonneg_right (by omega) (by omega)
      by_cases g2 : c < 128
      · rw [if_pos g2] at h ⊢
        simp only at h ⊢
        have hlt : z + c % 128 * 2 ^ (7 * k) < 18446744073709551616 := by
          by_cases g9 : k = 9
          · subst g9
            have hm : c % 128 * 2 ^ (7 * 9) ≤ 1 * 2 ^ (7 * 9) := Int.mul_le_mul_of_nonneg_right (by omega) (by omega)
            have e : (2 : Int) ^ (7 * 9) = 9223372036854775808 := by decide
            rw [e] at *
            omega
          · have hle : (2 : Int) ^ (7 * k) ≤ 2 ^ 56 := by
              have h := Nat.pow_le_pow_right (n := 2) (by decide) (show 7 * k ≤ 56 by omega)
              exact_mod_cast h
            have e : (2 : Int) ^ 56 = 72057594037927936 := by decide
            rw [e] at hle
            omega
        have hnn : 0 ≤ z + c % 128 * 2 ^ (7 * k) := by omega
        generalize z + c % 128 * 2 ^ (7 * k) = q at *
        refine ⟨by omega, by simp; omega, ?_, ?_⟩ <;> (unfold unzig; split <;> omega)
      · rw [if_neg g2] at h ⊢
        have ih := getGo_ok r (k + 1) (z + c % 128 * 2 ^ (7 * k)) (by omega) (by omega) (by rw [pow7]; omega) (fun d hd => hby d (by simp [hd])) h
        simp only [List.length_cons]
        omega

theorem getI_ok (l : List Int) (hby : ∀ c ∈ l, 0 ≤ c ∧ c < 256) (h : (getI l).2.2 = 0) :
    1 ≤ (getI l).2.1 ∧ (getI l).2.1 ≤ l.length ∧ -9223372036854775808 ≤ (getI l).1 ∧ (getI l).1 ≤ 9223372036854775807 := by
  have := getGo_ok l 0 0 (by omega) (by omega) (by simp) hby h
  unfold getI; omega

theorem getGo_err : ∀ (l : List Int) (k : Nat) (z : Int), (getGo l k z).2.2 = 0 ∨ (getGo l k z).2.2 = 10 ∨ (getGo l k z).2.2 = 11
  | [], k, z => by simp [getGo]
  | c :: r, k, z => by
    rw [getGo]
    split
    · simp
    · split
      · simp
      · exact getGo_err r _ _

/-- The length of a list whose elements have at least so many bytes. -/
def lenL (bs : List Int) (least : Int) : Int × Int × Int :=
  if (getI bs).2.2 ≠ 0 then (0, 0, (getI bs).2.2)
  else if (getI bs).1 < 0 then (0, 0, 11)
  else if (bs.length - (getI bs).2.1) / least < (getI bs).1 then (0, 0, 10)
  else ((getI bs).1, (getI bs).2.1, 0)

theorem lenL_ok (bs : List Int) (least : Int) (hby : ∀ c ∈ bs, 0 ≤ c ∧ c < 256) (h : (lenL bs least).2.2 = 0) :
    0 ≤ (lenL bs least).1 ∧ 1 ≤ (lenL bs least).2.1 ∧ (lenL bs least).2.1 ≤ bs.length ∧ (lenL bs least).1 ≤ (bs.length - (lenL bs least).2.1) / least := by
  unfold lenL at *
  by_cases h1 : (getI bs).2.2 ≠ 0
  · rw [if_pos h1] at h; exact absurd h h1
  · rw [if_neg h1] at h ⊢
    have := getI_ok bs hby (by simpa using h1)
    by_cases h2 : (getI bs).1 < 0
    · rw [if_pos h2] at h; simp at h
    · rw [if_neg h2] at h ⊢
      by_cases h3 : (bs.length - (getI bs).2.1) / least < (getI bs).1
      · rw [if_pos h3] at h; simp at h
      · rw [if_neg h3] at h ⊢
        simp only
        omega

/-- n integers, from the beginning of bytes on: them, their bytes, the error. -/
def getN : Nat → List Int → List Int × Int × Int
  | 0, _ => ([], 0, 0)
  | n + 1, bs =>
    if (getI bs).2.2 ≠ 0 then ([], 0, (getI bs).2.2)
    else if (getN n (bs.drop (getI bs).2.1.toNat)).2.2 ≠ 0 then ([], 0, (getN n (bs.drop (getI bs).2.1.toNat)).2.2)
    else ((getI bs).1 :: (getN n (bs.drop (getI bs).2.1.toNat)).1, (getI bs).2.1 + (getN n (bs.drop (getI bs).2.1.toNat)).2.1, 0)

/-- What follows some elements and some bytes. -/
def andThen (out : List Int) (at_ : Int) (s : List Int × Int × Int) : List Int × Int × Int :=
  if s.2.2 ≠ 0 then ([], 0, s.2.2) else (out ++ s.1, at_ + s.2.1, 0)

def getInts (bs : List Int) : List Int × Int × Int :=
  if (lenL bs 1).2.2 ≠ 0 then ([], 0, (lenL bs 1).2.2) else andThen [] (lenL bs 1).2.1 (getN (lenL bs 1).1.toNat (bs.drop (lenL bs 1).2.1.toNat))

theorem andThen_err (out : List Int) (at_ : Int) (n : Nat) (bs : List Int) (r : Int × Int × Int) (hr : getI bs = r) (h : r.2.2 ≠ 0) : andThen out at_ (getN (n + 1) bs) = ([], 0, r.2.2) := by
  subst hr
  simp [andThen, getN, h]
theorem andThen_step (out : List Int) (at_ : Int) (n : Nat) (bs : List Int) (r : Int × Int × Int) (hr : getI bs = r) (h : r.2.2 = 0) :
    andThen out at_ (getN (n + 1) bs) = andThen (out ++ [r.1]) (at_ + r.2.1) (getN n (bs.drop r.2.1.toNat)) := by
  subst hr
  by_cases g : (getN n (bs.drop (getI bs).2.1.toNat)).2.2 = 0
  · simp [andThen, getN, h, g]; omega
  · simp [andThen, getN, h, g]
theorem andThen_done (out : List Int) (at_ : Int) (bs : List Int) : andThen out at_ (getN 0 bs) = (out, at_, 0) := by simp [andThen, getN]

/-- The bytes of a list. -/
def intsB (l : List Int) : List Int := intB l.length ++ (l.map intB).flatten

theorem intB_len (n : Int) (h1 : -9223372036854775808 ≤ n) (h2 : n ≤ 9223372036854775807) : 1 ≤ (intB n).length ∧ (intB n).length ≤ 10 := ⟨leb_pos _, leb64 _ (zig_lt n h1 h2)⟩

theorem flat_len (l : List Int) (h : ∀ z ∈ l, -9223372036854775808 ≤ z ∧ z ≤ 9223372036854775807) : ((l.map intB).flatten).length ≤ 10 * l.length := by
  induction l with
  | nil => simp
  | cons a r ih =>
    have h1 := intB_len a (h a (by simp)).1 (h a (by simp)).2
    have h2 := ih (fun z hz => h z (by simp [hz]))
    simp only [List.map_cons, List.flatten_cons, List.length_append, List.length_cons]
    omega
theorem flat_take (l : List Int) (k : Nat) (a : Int) (h : l[k]? = some a) : ((l.take (k+1)).map intB).flatten = ((l.take k).map intB).flatten ++ intB a := by
  rw [List.take_add_one, h]; simp

end Go.Proofs.Ytomjfmebbpfkeaa
