/- Plain: how many borders are not greater than a number. -/
import Derived.Test.YtomjfmebbpfkeaaPlainB
namespace Go.Proofs.Ytomjfmebbpfkeaa
set_option linter.unusedSimpArgs false
set_option linter.unusedVariables false
set_option linter.unnecessarySimpa false

def runL (x y : Int) : List Int := if max x 0 < min y 4096 then [max x 0, min y 4096] else []

def afterL (zs : List Int) (x : Int) : Nat := (zs.takeWhile (fun y => decide (y ≤ x))).length

theorem afterL_eq (x : Int) : ∀ (zs : List Int) (i : Nat), i ≤ zs.length → (∀ (m : Nat) (y : Int), m < i → zs[m]? = some y → y ≤ x) → (∀ y : Int, zs[i]? = some y → x < y) → afterL zs x = i
  | [], i, hi, _, _ => by simp at hi; subst hi; rfl
  | z :: r, 0, _, _, h2 => by
    have := h2 z rfl
    simp [afterL, show ¬ z ≤ x by omega]
  | z :: r, i + 1, hi, h1, h2 => by
    have hz := h1 0 z (by omega) rfl
    have ih := afterL_eq x r i (by simpa using hi) (fun m y hm hy => h1 (m+1) y (by omega) (by simpa using hy)) (fun y hy => h2 y (by simpa using hy))
    simp only [afterL, List.takeWhile_cons, decide_eq_true_eq, hz, if_true, List.length_cons] at ih ⊢
    omega

theorem good_le {zs : List Int} (hg : Good zs) : ∀ (i j : Nat) (y z : Int), i ≤ j → zs[i]? = some y → zs[j]? = some z → y ≤ z := by
  intro i j
  induction j with
  | zero => intro y z h hy hz; obtain rfl : i = 0 := by omega
            rw [hy] at hz; cases hz; omega
  | succ j ih =>
    intro y z h hy hz
    by_cases e : i = j + 1
    · subst e; rw [hy] at hz; cases hz; omega
    · have hlt := (List.getElem?_eq_some_iff.1 hz).1
      obtain ⟨u, hu⟩ : ∃ u, zs[j]? = some u := ⟨zs[j], by simp⟩
      have h1 := ih y u (by omega) hy hu
      have h2 := hg.asc j u z hu hz
      omega

theorem hasL_after (x : Int) : ∀ (zs : List Int) (lo : Int), ascB lo zs = true → hasL zs x = decide (afterL zs x % 2 = 1) ∨ zs.length % 2 = 1
  | [], _, _ => .inl rfl
  | [_], _, _ => .inr rfl
  | a :: b :: r, lo, h => by
    simp only [ascB, Bool.and_eq_true, decide_eq_true_eq] at h
    obtain ⟨⟨h1, h2⟩, ⟨h3, h4⟩, h5⟩ := h
    rcases hasL_after x r b h5 with ih | ih
    · left
      rw [hasL]
      by_cases g1 : a ≤ x
      · by_cases g2 : b ≤ x
        · have e : afterL (a :: b :: r) x = afterL r x + 2 := by simp [afterL, g1, g2]
          rw [e, ih]
          simp [g1, show ¬ x < b by omega]
        · have e : afterL (a :: b :: r) x = 1 := by simp [afterL, g1, g2]
          rw [e]; simp [g1, show x < b by omega]
      · have e : afterL (a :: b :: r) x = 0 := by simp [afterL, g1]
        have e2 : afterL r x = 0 := by
          have := afterL_eq x r 0 (by omega) (fun m y hm => absurd hm (by omega)) (fun y hy => by have := (ascB_rng r b h5 0 y hy).1; omega)
          exact this
        rw [e, ih, e2]; simp [g1]
    · right; simp; omega

theorem hasL_eq {zs : List Int} (hv : validB zs = true) (x : Int) : hasL zs x = decide (afterL zs x % 2 = 1) := by
  simp only [validB, Bool.and_eq_true, decide_eq_true_eq] at hv
  rcases hasL_after x zs (-1) hv.1 with h | h
  · exact h
  · omega

end Go.Proofs.Ytomjfmebbpfkeaa
