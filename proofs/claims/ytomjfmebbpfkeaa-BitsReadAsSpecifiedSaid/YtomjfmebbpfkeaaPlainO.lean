/- Plain: what bits.Of makes is the set of the slots. -/
import Derived.Test.YtomjfmebbpfkeaaPlainM
import Derived.Test.YtomjfmebbpfkeaaPlainE
namespace Go.Proofs.Ytomjfmebbpfkeaa
set_option linter.unusedSimpArgs false
set_option linter.unusedVariables false
set_option linter.unnecessarySimpa false

theorem ascB_append : ∀ (l : List Int) (lo : Int) (m : List Int), ascB lo (l ++ m) = (ascB lo l && ascB (l.getLastD lo) m)
  | [], lo, m => by simp [ascB]
  | z :: r, lo, m => by
    rw [List.cons_append, ascB, ascB, ascB_append r z m, List.getLastD_cons]
    simp [Bool.and_assoc]

theorem even_form : ∀ (l : List Int), l.length % 2 = 0 → l ≠ [] → ∃ o s t, l = o ++ [s, t] ∧ o.length % 2 = 0
  | [], _, h => absurd rfl h
  | [_], h, _ => by simp at h
  | [s, t], _, _ => ⟨[], s, t, rfl, rfl⟩
  | a :: b :: c :: r, h, _ => by
    obtain ⟨o, s, t, e, ho⟩ := even_form (c :: r) (by simp at h ⊢; omega) (by simp)
    exact ⟨a :: b :: o, s, t, by rw [e]; rfl, by simp; omega⟩

/-- After some sorted slots: the set, and the greatest slot. -/
structure OfAt (out seen : List Int) (top : Int) : Prop where
  asc : ascB (-1) out = true
  even : out.length % 2 = 0
  has : ∀ x, hasL out x = decide (x ∈ seen)
  top : ∀ z ∈ out, z ≤ top + 1

theorem OfAt.step {out seen : List Int} {top y : Int} (h : OfAt out seen top) (h0 : 0 ≤ y) (h1 : y < 4096) (hy : top ≤ y) : OfAt (stepO out y) (seen ++ [y]) y := by
  by_cases g0 : out = []
  · subst g0
    have hs : ∀ x, x ∈ seen ↔ False := fun x => by have := h.has x; simp [hasL] at this; simpa using this
    have e : stepO [] y = [y, y + 1] := rfl
    rw [e]
    refine ⟨by simp [ascB]; omega, by simp, fun x => ?_, fun z hz => by simp at hz; omega⟩
    rw [Bool.eq_iff_iff]; simp [hasL, hs]; omega
  · obtain ⟨o, s, t, rfl, ho⟩ := even_form out h.even g0
    have hl : (o ++ [s, t]).length - 1 = o.length + 1 := by simp
    have hg : (o ++ [s, t]).getD ((o ++ [s, t]).length - 1) 0 = t := by
      rw [hl, List.getD_eq_getElem?_getD, List.getElem?_append_right (by omega), show o.length + 1 - o.length = 1 by omega]; rfl
    have hst : (o ++ [s, t]).set ((o ++ [s, t]).length - 1) (y + 1) = o ++ [s, y + 1] := by
      rw [hl, List.set_append_right _ _ (by omega), show o.length + 1 - o.length = 1 by omega]; rfl
    have hn : ¬ (o ++ [s, t]).length = 0 := by simp
    have ha := h.asc
    rw [ascB_append] at ha
    simp only [ascB, Bool.and_eq_true, decide_eq_true_eq, Bool.and_true] at ha
    obtain ⟨ha1, ⟨ha2, ha3⟩, ha4, ha5⟩ := ha
    have htop := h.top t (by simp)
    have hos := fun z hz => h.top z (List.mem_append_left _ hz)
    have hss := h.top s (by simp)
    have hh : ∀ x, (hasL o x || (decide (s ≤ x) && decide (x < t))) = decide (x ∈ seen) := fun x => by rw [← hasL_snoc s t x o ho]; exact h.has x
    have has1 : -1 < s := (ascB_rng (o ++ [s, t]) (-1) h.asc o.length s (by simp)).1
    unfold stepO
    rw [if_neg hn, hg]
    by_cases g1 : t = y
    · rw [if_pos g1, hst]
      subst g1
      refine ⟨?_, by simp; omega, fun x => ?_, ?_⟩
      · rw [ascB_append, ha1]
        generalize o.getLastD (-1) = q at *
        simp [ascB]; omega
      · rw [hasL_snoc s (t + 1) x o ho]
        have := hh x
        rw [Bool.eq_iff_iff] at this ⊢
        simp at this ⊢
        rw [← this]
        constructor
        · rintro (h | ⟨h1, h2⟩)
          · exact .inl (.inl h)
          · by_cases e : x = t
            · exact .inr e
            · exact .inl (.inr ⟨h1, by omega⟩)
        · rintro ((h | ⟨h1, h2⟩) | h)
          · exact .inl h
          · exact .inr ⟨h1, by omega⟩
          · exact .inr ⟨by omega, by omega⟩
      · intro z hz
        simp at hz
        rcases hz with hz | rfl | rfl
        · have := hos z hz; omega
        · omega
        · omega
    · rw [if_neg g1]
      by_cases g2 : t ≤ y
      · rw [if_pos g2]
        refine ⟨?_, by simp; omega, fun x => ?_, ?_⟩
        · rw [ascB_append, h.asc, List.getLastD_eq_getLast?, List.getLast?_append]
          simp [ascB]; omega
        · rw [hasL_snoc y (y + 1) x (o ++ [s, t]) h.even, h.has x]
          rw [Bool.eq_iff_iff]; simp
          constructor
          · rintro (h | h)
            · exact .inl h
            · exact .inr (by omega)
          · rintro (h | h)
            · exact .inl h
            · exact .inr (by omega)
        · intro z hz
          rw [List.mem_append] at hz
          rcases hz with hz | hz
          · have := h.top z hz; omega
          · simp at hz; omega
      · rw [if_neg g2]
        have ht : t = y + 1 := by omega
        refine ⟨h.asc, h.even, fun x => ?_, fun z hz => by have := h.top z hz; omega⟩
        rw [h.has x, Bool.eq_iff_iff]
        simp
        intro hx
        subst hx
        have := hh x
        rw [show (decide (s ≤ x) && decide (x < t)) = true by simp; omega] at this
        simp at this
        exact this

theorem ofS_spec (l : List Int) (hs : l.Pairwise (fun a b => a ≤ b)) (hr : ∀ x ∈ l, 0 ≤ x ∧ x < 4096) : ∀ k, k ≤ l.length → ∃ top, OfAt (ofS (l.take k)) (l.take k) top ∧ (∀ (j : Nat) (z : Int), k ≤ j → l[j]? = some z → top ≤ z)
  | 0, _ => ⟨-1, ⟨rfl, rfl, fun x => by simp [ofS, hasL], fun z hz => by simp [ofS] at hz⟩, fun j z _ hz => by have := hr z (List.mem_of_getElem? hz); omega⟩
  | k + 1, hk => by
    obtain ⟨top, h, ht⟩ := ofS_spec l hs hr k (by omega)
    have e : l[k]? = some l[k] := by simp
    have hy := hr l[k] (List.getElem_mem _)
    refine ⟨l[k], ?_, ?_⟩
    · rw [ofS_take l k _ e, take_one l k _ e]
      exact h.step hy.1 hy.2 (ht k _ (Nat.le_refl _) e)
    · intro j z hj hz
      obtain ⟨hlt, rfl⟩ := List.getElem?_eq_some_iff.1 hz
      exact List.pairwise_iff_getElem.1 hs k j (by omega) hlt (by omega)

theorem of_spec (l : List Int) (h : l.all inR = true) : ofS (sortI l) = bitsL (tab (fun j => l.contains j)) ∧ validB (ofS (sortI l)) = true := by
  have hs : (sortI l).Pairwise (fun a b => a ≤ b) := by
    have := List.pairwise_mergeSort (le := fun x y : Int => decide (x ≤ y)) (fun a b c h1 h2 => by simp at *; omega) (fun a b => by simp; omega) l
    unfold sortI; simpa using this
  have hr : ∀ x ∈ sortI l, 0 ≤ x ∧ x < 4096 := by
    intro x hx
    have h' := sortI_all l
    rw [h, List.all_eq_true] at h'
    have := h' x hx
    simpa [inR] using this
  obtain ⟨top, h1, _⟩ := ofS_spec (sortI l) hs hr (sortI l).length (Nat.le_refl _)
  rw [List.take_of_length_le (Nat.le_refl _)] at h1
  have hv : validB (ofS (sortI l)) = true := by rw [validB, h1.asc, h1.even]; rfl
  refine ⟨bits_of_has hv _ (fun y _ _ => ?_), hv⟩
  rw [h1.has, Bool.eq_iff_iff]
  simp
  exact (List.mergeSort_perm l _).mem_iff

theorem ofL_eq (l : List Int) : ofL l = (ofB l, ofE l) := by
  unfold ofL ofB ofE
  by_cases h : l.all inR = true
  · rw [if_pos h, if_pos h, if_pos h, (of_spec l h).1]
  · rw [if_neg h, if_neg h, if_neg h]
theorem ofL_valid (l : List Int) : validB (ofL l).1 = true := by
  unfold ofL
  by_cases h : l.all inR = true
  · rw [if_pos h]; exact (of_spec l h).2
  · rw [if_neg h]; rfl

end Go.Proofs.Ytomjfmebbpfkeaa
