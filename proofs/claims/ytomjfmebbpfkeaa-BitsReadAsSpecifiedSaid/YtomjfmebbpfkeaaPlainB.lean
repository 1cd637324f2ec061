/- Plain lists, second part. -/
import Derived.Test.YtomjfmebbpfkeaaPlainA
namespace Go.Proofs.Ytomjfmebbpfkeaa
set_option linter.unusedSimpArgs false
set_option linter.unusedVariables false
set_option linter.unnecessarySimpa false

def inR (x : Int) : Bool := decide (0 ≤ x) && decide (x < 4096)
def ofB (l : List Int) : List Int := if l.all inR then bitsL (tab (fun j => l.contains j)) else []
def ofE (l : List Int) : Int := if l.all inR then 0 else 1

theorem all_take (l : List Int) (k : Nat) (y : Int) (h : l[k]? = some y) : (l.take (k+1)).all inR = ((l.take k).all inR && inR y) := by
  rw [take_one l k y h]; simp
theorem not_all (l : List Int) (k : Nat) (y : Int) (h : l[k]? = some y) (hy : inR y = false) : l.all inR = false := by
  rw [List.all_eq_false]
  exact ⟨y, List.mem_of_getElem? h, by simp [hy]⟩
theorem contains_take (l : List Int) (k : Nat) (y j : Int) (h : l[k]? = some y) : (l.take (k+1)).contains j = ((l.take k).contains j || decide (j = y)) := by
  rw [take_one l k y h]; simp

/-- How many of the first elements are less than s. -/
def countLess (l : List Int) (s : Int) : Int := (l.filter (fun x => decide (x < s))).length
theorem countLess_take (l : List Int) (k : Nat) (y s : Int) (h : l[k]? = some y) : countLess (l.take (k+1)) s = countLess (l.take k) s + if y < s then 1 else 0 := by
  rw [countLess, take_one l k y h, List.filter_append, countLess]
  by_cases g : y < s <;> simp [g]
theorem countLess_le (l : List Int) (s : Int) : 0 ≤ countLess l s ∧ countLess l s ≤ l.length := by
  unfold countLess; have := List.length_filter_le (fun x => decide (x < s)) l; omega

def selR (l : List Int) (n : Int) : Int := if n < 0 ∨ (l.length : Int) ≤ n then -1 else l.getD n.toNat 0

theorem asc_le_last : ∀ (zs : List Int) (lo : Int), ascB lo zs = true → ∀ y ∈ zs, lo < y ∧ y ≤ 4096
  | [], _, _, y, h => by simp at h
  | z :: r, lo, h, y, hy => by
    simp only [ascB, Bool.and_eq_true, decide_eq_true_eq] at h
    rcases List.mem_cons.1 hy with rfl | hy
    · exact h.1
    · have := asc_le_last r z h.2 y hy; omega

/-- The slots before the k-th border are at most as many as that border. -/
theorem slotsL_len (zs : List Int) (hg : Good zs) : ∀ k, k ≤ zs.length → k % 2 = 0 → (slotsL (zs.take k)).length ≤ prevAt zs k + 1 ∨ k = 0 := by
  intro k
  induction k using Nat.strongRecOn with
  | _ k ih =>
    intro hk hk2
    match k, hk2 with
    | 0, _ => exact .inr rfl
    | 1, h => omega
    | k + 2, hk2 =>
      left
      obtain ⟨y, ha⟩ : ∃ y, zs[k]? = some y := ⟨zs[k], by simp⟩
      obtain ⟨z, hb⟩ : ∃ y, zs[k+1]? = some y := ⟨zs[k+1], by simp⟩
      rw [slotsL_take zs k _ _ ha hb (by omega), List.length_append, upto_length, prevAt_succ zs (k+1) _ hb]
      have h1 := hg.asc k _ _ ha hb
      have h2 := hg.rng k _ ha
      rcases ih k (by omega) (by omega) (by omega) with h | h
      · by_cases h0 : k = 0
        · subst h0; simp [slotsL]; omega
        · have hc : zs[k-1]? = some zs[k-1] := by simp
          have h3 := hg.asc (k-1) _ y hc (by rw [show k - 1 + 1 = k by omega]; exact ha)
          have h4 : prevAt zs k = zs[k-1] := by rw [← prevAt_succ zs (k-1) _ hc, show k - 1 + 1 = k by omega]
          omega
      · subst h; simp [slotsL]; omega
theorem slotsL_le (zs : List Int) (hg : Good zs) (k : Nat) (hk : k ≤ zs.length) (hk2 : k % 2 = 0) : (slotsL (zs.take k)).length ≤ 4097 := by
  rcases slotsL_len zs hg k hk hk2 with h | h
  · by_cases h0 : k = 0
    · subst h0; simp [slotsL]
    · have hc : zs[k-1]? = some zs[k-1] := by simp
      have h4 : prevAt zs k = zs[k-1] := by rw [← prevAt_succ zs (k-1) _ hc, show k - 1 + 1 = k by omega]
      have := hg.rng (k-1) _ hc
      omega
  · subst h; simp [slotsL]

end Go.Proofs.Ytomjfmebbpfkeaa
