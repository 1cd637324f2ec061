/- Plain: slots, ranks, counts. -/
import Derived.Test.YtomjfmebbpfkeaaPlainO
namespace Go.Proofs.Ytomjfmebbpfkeaa
set_option linter.unusedSimpArgs false
set_option linter.unusedVariables false
set_option linter.unnecessarySimpa false

theorem mem_upto (x : Int) : ∀ (n : Nat) (a : Int), x ∈ upto a n ↔ a ≤ x ∧ x < a + n
  | 0, a => by rw [upto]; simp; try omega
  | n + 1, a => by rw [upto, List.mem_cons, mem_upto x n (a + 1)]; omega
theorem mem_slots (x : Int) : ∀ (l : List Int), x ∈ slotsL l ↔ hasL l x = true
  | [] => by simp [slotsL, hasL]
  | [_] => by simp [slotsL, hasL]
  | a :: b :: r => by
    rw [slotsL, hasL, List.mem_append, mem_upto, mem_slots x r]
    simp
    constructor
    · rintro (h | h)
      · exact .inl ⟨h.1, by omega⟩
      · exact .inr h
    · rintro (h | h)
      · exact .inl ⟨h.1, by omega⟩
      · exact .inr h

theorem countLess_append (l m : List Int) (s : Int) : countLess (l ++ m) s = countLess l s + countLess m s := by
  simp [countLess, List.filter_append]
theorem countLess_upto (s : Int) : ∀ (n : Nat) (a : Int), countLess (upto a n) s = if a < s then min (a + n) s - a else 0
  | 0, a => by simp [upto, countLess]; omega
  | n + 1, a => by
    have ih := countLess_upto s n (a + 1)
    rw [upto, show a :: upto (a + 1) n = [a] ++ upto (a + 1) n from rfl, countLess_append, ih]
    by_cases h : a < s
    · have e : countLess [a] s = 1 := by simp [countLess, h]
      rw [e, if_pos h]
      split <;> omega
    · have e : countLess [a] s = 0 := by simp [countLess, h]
      rw [e, if_neg h, if_neg (by omega)]; rfl
theorem countLess_none (l : List Int) (s : Int) (h : ∀ x ∈ l, s ≤ x) : countLess l s = 0 := by
  unfold countLess
  rw [List.filter_eq_nil_iff.2 (fun x hx => by have := h x hx; simp; omega)]; rfl

theorem slots_gt : ∀ (l : List Int) (lo : Int), ascB lo l = true → ∀ x ∈ slotsL l, lo < x := by
  intro l lo h x hx
  rw [mem_slots] at hx
  by_cases g : x ≤ lo
  · rw [hasL_below l lo x h g] at hx; cases hx
  · omega

theorem rank_spec (s : Int) : ∀ (l : List Int) (lo : Int), ascB lo l = true → l.length % 2 = 0 → rankL l s = countLess (slotsL l) s
  | [], _, _, _ => rfl
  | [_], _, _, h => by simp at h
  | a :: b :: r, lo, h, hl => by
    have h' := h
    simp only [ascB, Bool.and_eq_true, decide_eq_true_eq] at h
    obtain ⟨⟨h1, h2⟩, ⟨h3, h4⟩, h5⟩ := h
    rw [rankL, slotsL, countLess_append, countLess_upto]
    by_cases g : a < s
    · rw [if_pos g, if_pos g, rank_spec s r b h5 (by simp at hl; omega), show a + ((b - a).toNat : Int) = b by omega]
    · rw [if_neg g, if_neg g, countLess_none _ _ (fun x hx => by have := slots_gt r b h5 x hx; omega)]; rfl

theorem rank_valid {zs : List Int} (hv : validB zs = true) (s : Int) : rankL zs s = countLess (slotsL zs) s := by
  simp only [validB, Bool.and_eq_true, decide_eq_true_eq] at hv
  exact rank_spec s zs (-1) hv.1 hv.2

theorem countLess_all (l : List Int) (s : Int) (h : ∀ x ∈ l, x < s) : countLess l s = l.length := by
  unfold countLess
  rw [List.filter_eq_self.2 (fun x hx => by have := h x hx; simp; omega)]

theorem slots_lt {zs : List Int} (hv : validB zs = true) : ∀ x ∈ slotsL zs, 0 ≤ x ∧ x < 4096 := fun x hx => has_range hv x ((mem_slots x zs).1 hx)

theorem count_valid {zs : List Int} (hv : validB zs = true) : rankL zs 4096 = (slotsL zs).length := by
  rw [rank_valid hv, countLess_all _ _ (fun x hx => (slots_lt hv x hx).2)]

theorem get_upto : ∀ (n k : Nat) (a : Int), k < n → (upto a n)[k]? = some (a + k)
  | 0, _, _, h => absurd h (by omega)
  | n + 1, 0, a, _ => by simp [upto]
  | n + 1, k + 1, a, h => by
    rw [upto, List.getElem?_cons_succ, get_upto n k (a + 1) (by omega)]
    congr 1; omega

theorem sel_spec : ∀ (l : List Int) (n : Int) (lo : Int), ascB lo l = true → l.length % 2 = 0 → 0 ≤ n → selL l n = selR (slotsL l) n
  | [], n, _, _, _, h => by
    show (-1 : Int) = selR [] n
    rw [selR, if_pos (by right; simpa using h)]
  | [_], _, _, _, h, _ => by simp at h
  | a :: b :: r, n, lo, h, hl, hn => by
    simp only [ascB, Bool.and_eq_true, decide_eq_true_eq] at h
    obtain ⟨⟨h1, h2⟩, ⟨h3, h4⟩, h5⟩ := h
    rw [selL, slotsL]
    have hul : (upto a (b - a).toNat).length = (b - a).toNat := upto_length _ _
    by_cases g : b - a ≤ n
    · rw [if_pos g, sel_spec r (n - (b - a)) b h5 (by simp at hl; omega) (by omega)]
      unfold selR
      by_cases g2 : n - (b - a) < 0 ∨ ((slotsL r).length : Int) ≤ n - (b - a)
      · rw [if_pos g2, if_pos (by rw [List.length_append, hul]; omega)]
      · rw [if_neg g2, if_neg (by rw [List.length_append, hul]; omega)]
        rw [List.getD_eq_getElem?_getD, List.getD_eq_getElem?_getD, List.getElem?_append_right (by rw [hul]; omega), hul]
        congr 2; omega
    · rw [if_neg g]
      unfold selR
      rw [if_neg (by rw [List.length_append, hul]; omega), List.getD_eq_getElem?_getD, List.getElem?_append_left (by rw [hul]; omega), get_upto _ _ _ (by omega)]
      simp; omega

theorem sel_valid {zs : List Int} (hv : validB zs = true) (n : Int) : selB zs n = selR (slotsL zs) n := by
  simp only [validB, Bool.and_eq_true, decide_eq_true_eq] at hv
  unfold selB
  by_cases h : n < 0
  · rw [if_pos h, selR, if_pos (.inl h)]
  · rw [if_neg h]; exact sel_spec zs n (-1) hv.1 hv.2 (by omega)

/-- One more number, one more slot, if the set has it. -/
theorem rank_step (s : Int) : ∀ (l : List Int) (lo : Int), ascB lo l = true → countLess (slotsL l) (s + 1) = countLess (slotsL l) s + if hasL l s then 1 else 0
  | [], _, _ => by simp [slotsL, countLess, hasL]
  | [_], _, _ => by simp [slotsL, countLess, hasL]
  | a :: b :: r, lo, h => by
    simp only [ascB, Bool.and_eq_true, decide_eq_true_eq] at h
    obtain ⟨⟨h1, h2⟩, ⟨h3, h4⟩, h5⟩ := h
    rw [slotsL, countLess_append, countLess_append, rank_step s r b h5, countLess_upto, countLess_upto, hasL]
    by_cases g1 : a ≤ s
    · by_cases g2 : s < b
      · have : hasL r s = false := hasL_below r b s h5 (by omega)
        rw [this]
        simp only [g1, g2, decide_true, Bool.and_self, Bool.true_or, if_true, Bool.false_eq_true, if_false]
        split <;> split <;> omega
      · simp only [g1, g2, decide_true, decide_false, Bool.and_false, Bool.false_or]
        split <;> split <;> split <;> omega
    · have : hasL r s = false := hasL_below r b s h5 (by omega)
      rw [this]
      simp only [g1, decide_false, Bool.false_and, Bool.false_or, Bool.false_eq_true, if_false]
      split <;> split <;> omega

theorem valid_asc {zs : List Int} (hv : validB zs = true) : ascB (-1) zs = true := by
  simp only [validB, Bool.and_eq_true] at hv; exact hv.1

/-- How many numbers less than k satisfy f. -/
def cntTo (f : Int → Bool) : Nat → Int
  | 0 => 0
  | k + 1 => cntTo f k + if f k then 1 else 0
theorem cnt_rank {zs : List Int} (hv : validB zs = true) : ∀ k : Nat, countLess (slotsL zs) k = cntTo (hasL zs) k
  | 0 => countLess_none _ _ (fun x hx => (slots_lt hv x hx).1)
  | k + 1 => by
    rw [cntTo, ← cnt_rank hv k, ← rank_step k zs (-1) (valid_asc hv)]; rfl
theorem count_cnt {zs : List Int} (hv : validB zs = true) : ((slotsL zs).length : Int) = cntTo (hasL zs) 4096 := by
  have e := countLess_all (slotsL zs) 4096 (fun x hx => (slots_lt hv x hx).2)
  have f := cnt_rank hv 4096
  rw [← f]; exact e.symm

theorem cnt_or (f g : Int → Bool) : ∀ k, cntTo (fun x => f x || g x) k = cntTo f k + cntTo g k - cntTo (fun x => f x && g x) k
  | 0 => rfl
  | k + 1 => by
    simp only [cntTo]
    rw [cnt_or f g k]
    by_cases h1 : f k = true <;> by_cases h2 : g k = true <;> simp [h1, h2] <;> omega
theorem cnt_minus (f g : Int → Bool) : ∀ k, cntTo (fun x => f x && !g x) k + cntTo (fun x => f x && g x) k = cntTo f k
  | 0 => rfl
  | k + 1 => by
    simp only [cntTo]
    have := cnt_minus f g k
    by_cases h1 : f k = true <;> by_cases h2 : g k = true <;> simp [h1, h2] <;> omega
theorem cnt_congr {f g : Int → Bool} (h : ∀ x, f x = g x) (k : Nat) : cntTo f k = cntTo g k := by
  have : f = g := funext h
  rw [this]

theorem slots_of {zs : List Int} (hv : validB zs = true) : ofL (slotsL zs) = (zs, 0) := by
  have h : (slotsL zs).all inR = true := by
    rw [List.all_eq_true]; intro x hx; have := slots_lt hv x hx; simp [inR]; omega
  rw [ofL_eq, ofB, ofE, if_pos h, if_pos h]
  have e : bitsL (tab (fun j => (slotsL zs).contains j)) = zs := by
    symm
    refine bits_of_has hv _ (fun y _ _ => ?_)
    rw [Bool.eq_iff_iff]; simp; exact (mem_slots y zs).symm
  rw [e]

/-- The slots are in ascending order. -/
theorem upto_sorted : ∀ (n : Nat) (a : Int), (upto a n).Pairwise (fun x y => x < y)
  | 0, _ => List.Pairwise.nil
  | n + 1, a => by
    rw [upto, List.pairwise_cons]
    exact ⟨fun x hx => by rw [mem_upto] at hx; omega, upto_sorted n (a + 1)⟩
theorem slots_sorted : ∀ (l : List Int) (lo : Int), ascB lo l = true → (slotsL l).Pairwise (fun x y => x < y)
  | [], _, _ => List.Pairwise.nil
  | [_], _, _ => List.Pairwise.nil
  | a :: b :: r, lo, h => by
    simp only [ascB, Bool.and_eq_true, decide_eq_true_eq] at h
    obtain ⟨⟨h1, h2⟩, ⟨h3, h4⟩, h5⟩ := h
    rw [slotsL, List.pairwise_append]
    exact ⟨upto_sorted _ _, slots_sorted r b h5, fun x hx y hy => by
      rw [mem_upto] at hx
      have := slots_gt r b h5 y hy
      omega⟩
theorem rank_get : ∀ (l : List Int), l.Pairwise (fun x y => x < y) → ∀ (n : Nat) (s : Int), l[n]? = some s → countLess l s = n
  | [], _, n, s, h => by simp at h
  | z :: r, hp, 0, s, h => by
    simp at h; subst h
    rw [List.pairwise_cons] at hp
    exact countLess_none _ _ (fun x hx => by
      rcases List.mem_cons.1 hx with rfl | hx
      · omega
      · have := hp.1 x hx; omega)
  | z :: r, hp, n + 1, s, h => by
    rw [List.pairwise_cons] at hp
    have h' : r[n]? = some s := by simpa using h
    rw [show z :: r = [z] ++ r from rfl, countLess_append, rank_get r hp.2 n s h']
    have := hp.1 s (List.mem_of_getElem? h')
    have e : countLess [z] s = 1 := by simp [countLess, this]
    rw [e]; omega

end Go.Proofs.Ytomjfmebbpfkeaa
