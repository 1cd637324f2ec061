/- Plain: sets as lists of borders: they are equal if they have the same slots; what Bits and merge make are sets. -/
import Derived.Test.YtomjfmebbpfkeaaPlainF
namespace Go.Proofs.Ytomjfmebbpfkeaa
set_option linter.unusedSimpArgs false
set_option linter.unusedVariables false
set_option linter.unnecessarySimpa false

theorem ascB_mono : ∀ (l : List Int) (lo lo' : Int), ascB lo l = true → lo' ≤ lo → ascB lo' l = true
  | [], _, _, _, _ => rfl
  | z :: r, lo, lo', h, hl => by
    simp only [ascB, Bool.and_eq_true, decide_eq_true_eq] at h ⊢
    exact ⟨⟨by omega, h.1.2⟩, h.2⟩

theorem hasL_below : ∀ (l : List Int) (lo x : Int), ascB lo l = true → x ≤ lo → hasL l x = false
  | [], _, _, _, _ => rfl
  | [_], _, _, _, _ => rfl
  | a :: b :: r, lo, x, h, hx => by
    simp only [ascB, Bool.and_eq_true, decide_eq_true_eq] at h
    rw [hasL, hasL_below r b x h.2.2 (by omega), show decide (a ≤ x) = false by simp; omega]; rfl

theorem set_ext : ∀ (a b : List Int) (lo : Int), ascB lo a = true → ascB lo b = true → a.length % 2 = 0 → b.length % 2 = 0 → (∀ x, hasL a x = hasL b x) → a = b
  | [], [], _, _, _, _, _, _ => rfl
  | [], [_], _, _, _, _, h, _ => by simp at h
  | [_], _, _, _, _, h, _, _ => by simp at h
  | [], b1 :: b2 :: br, lo, _, hb, _, _, h => by
    simp only [ascB, Bool.and_eq_true, decide_eq_true_eq] at hb
    have := h b1
    simp [hasL] at this
    omega
  | a1 :: a2 :: ar, [], lo, ha, _, _, _, h => by
    simp only [ascB, Bool.and_eq_true, decide_eq_true_eq] at ha
    have := h a1
    simp [hasL] at this
    omega
  | a1 :: a2 :: ar, [_], _, _, _, _, h, _ => by simp at h
  | a1 :: a2 :: ar, b1 :: b2 :: br, lo, ha, hb, la, lb, h => by
    simp only [ascB, Bool.and_eq_true, decide_eq_true_eq] at ha hb
    obtain ⟨⟨ha1, _⟩, ⟨ha2, ha3⟩, ha4⟩ := ha
    obtain ⟨⟨hb1, _⟩, ⟨hb2, hb3⟩, hb4⟩ := hb
    have e1 : a1 = b1 := by
      have h1 := h a1
      have h2 := h b1
      rw [hasL, hasL, show (decide (a1 ≤ a1) && decide (a1 < a2)) = true by simp; omega] at h1
      rw [hasL, hasL, show (decide (b1 ≤ b1) && decide (b1 < b2)) = true by simp; omega] at h2
      simp only [Bool.true_or, Bool.or_true] at h1 h2
      by_cases g : a1 < b1
      · rw [hasL_below br b2 a1 hb4 (by omega), show decide (b1 ≤ a1) = false by simp; omega] at h1
        simp at h1
      · by_cases g2 : b1 < a1
        · rw [hasL_below ar a2 b1 ha4 (by omega), show decide (a1 ≤ b1) = false by simp; omega] at h2
          simp at h2
        · omega
    subst e1
    have e2 : a2 = b2 := by
      by_cases g : a2 < b2
      · have h1 := h a2
        rw [hasL, hasL, hasL_below ar a2 a2 ha4 (by omega), show (decide (a1 ≤ a2) && decide (a2 < a2)) = false by simp, show (decide (a1 ≤ a2) && decide (a2 < b2)) = true by simp; omega] at h1
        simp at h1
      · by_cases g2 : b2 < a2
        · have h1 := h b2
          rw [hasL, hasL, hasL_below br b2 b2 hb4 (by omega), show (decide (a1 ≤ b2) && decide (b2 < b2)) = false by simp, show (decide (a1 ≤ b2) && decide (b2 < a2)) = true by simp; omega] at h1
          simp at h1
        · omega
    subst e2
    have e3 : ar = br := by
      refine set_ext ar br a2 ha4 hb4 (by simp at la; omega) (by simp at lb; omega) (fun x => ?_)
      by_cases g : x ≤ a2
      · rw [hasL_below ar a2 x ha4 g, hasL_below br a2 x hb4 g]
      · have h1 := h x
        rw [hasL, hasL, show decide (x < a2) = false by simp; omega] at h1
        simpa using h1
    rw [e3]

theorem valid_ext {a b : List Int} (ha : validB a = true) (hb : validB b = true) (h : ∀ x, hasL a x = hasL b x) : a = b := by
  simp only [validB, Bool.and_eq_true, decide_eq_true_eq] at ha hb
  exact set_ext a b (-1) ha.1 hb.1 ha.2 hb.2 h

/-- A list of bools, from the place x on. -/
def memB (l : List Bool) (x y : Int) : Bool := decide (x ≤ y) && l.getD (y - x).toNat false

theorem memB_cons (c : Bool) (r : List Bool) (x y : Int) : memB (c :: r) x y = ((decide (y = x) && c) || memB r (x + 1) y) := by
  unfold memB
  by_cases h : y = x
  · subst h; simp [show ¬ (y + 1 ≤ y) by omega]
  · by_cases g : x ≤ y
    · obtain ⟨k, hk⟩ : ∃ k : Nat, (y - x).toNat = k + 1 := ⟨(y - x).toNat - 1, by omega⟩
      rw [hk, show (y - (x + 1)).toNat = k by omega]
      simp [h, g, show x + 1 ≤ y by omega]
    · simp [h, g, show ¬ (x + 1 ≤ y) by omega]

theorem bitsGo_spec : ∀ (l : List Bool) (x : Int), 0 ≤ x → x + l.length ≤ 4096 →
    (ascB (x - 1) (bitsGo l x false) = true ∧ (bitsGo l x false).length % 2 = 0 ∧ ∀ y, hasL (bitsGo l x false) y = memB l x y) ∧
    (∀ s, s < x → ascB s (bitsGo l x true) = true ∧ (bitsGo l x true).length % 2 = 1 ∧ ∀ y, hasL (s :: bitsGo l x true) y = ((decide (s ≤ y) && decide (y < x)) || memB l x y))
  | [], x, h0, h1 => by
    refine ⟨⟨rfl, rfl, fun y => by simp [bitsGo, hasL, memB]⟩, fun s hs => ⟨by simp [bitsGo, ascB] at h1 ⊢; omega, rfl, fun y => by simp [bitsGo, hasL, memB]⟩⟩
  | c :: r, x, h0, h1 => by
    obtain ⟨⟨f1, f2, f3⟩, ft⟩ := bitsGo_spec r (x + 1) (by omega) (by simp at h1; omega)
    have hx : x ≤ 4096 := by simp at h1; omega
    refine ⟨?_, fun s hs => ?_⟩
    · cases c
      · refine ⟨?_, ?_, fun y => ?_⟩
        · rw [bitsGo, if_pos rfl]; exact ascB_mono _ _ _ f1 (by omega)
        · rw [bitsGo, if_pos rfl]; exact f2
        · rw [bitsGo, if_pos rfl, f3, memB_cons]; simp
      · obtain ⟨t1, t2, t3⟩ := ft x (by omega)
        refine ⟨?_, ?_, fun y => ?_⟩
        · rw [bitsGo, if_neg (by simp), ascB, t1]; simp; omega
        · rw [bitsGo, if_neg (by simp), List.length_cons]; omega
        · rw [bitsGo, if_neg (by simp), t3, memB_cons]
          congr 1
          rw [Bool.eq_iff_iff]; simp; omega
    · cases c
      · refine ⟨?_, ?_, fun y => ?_⟩
        · rw [bitsGo, if_neg (by simp), ascB]
          have := ascB_mono _ _ x f1 (by omega)
          rw [this]; simp; omega
        · rw [bitsGo, if_neg (by simp), List.length_cons]; omega
        · rw [bitsGo, if_neg (by simp), hasL, f3, memB_cons]; simp
      · obtain ⟨t1, t2, t3⟩ := ft s (by omega)
        refine ⟨?_, ?_, fun y => ?_⟩
        · rw [bitsGo, if_pos rfl]; exact t1
        · rw [bitsGo, if_pos rfl]; exact t2
        · rw [bitsGo, if_pos rfl, t3, memB_cons, ← Bool.or_assoc]
          congr 1
          rw [Bool.eq_iff_iff]; simp; omega

theorem bitsL_valid (f : Int → Bool) : validB (bitsL (tab f)) = true := by
  obtain ⟨⟨h1, h2, _⟩, _⟩ := bitsGo_spec (tab f) 0 (by omega) (by rw [tab_length]; omega)
  rw [validB, bitsL, h2]
  rw [show (0 : Int) - 1 = -1 by omega] at h1
  rw [h1]; rfl
theorem bitsL_has (f : Int → Bool) (y : Int) : hasL (bitsL (tab f)) y = (decide (0 ≤ y) && decide (y < 4096) && f y) := by
  obtain ⟨⟨_, _, h⟩, _⟩ := bitsGo_spec (tab f) 0 (by omega) (by rw [tab_length]; omega)
  rw [bitsL, h, memB]
  by_cases h0 : 0 ≤ y
  · by_cases h1 : y < 4096
    · rw [List.getD_eq_getElem?_getD, tab_get f _ (by omega)]
      have e : ((y - 0).toNat : Int) = y := by omega
      rw [e]; simp [h0, h1]
    · rw [List.getD_eq_getElem?_getD, List.getElem?_eq_none (by rw [tab_length]; omega)]; simp [h1]
  · simp [h0]

theorem has_rng (y : Int) : ∀ (l : List Int), (∀ z ∈ l, 0 ≤ z ∧ z ≤ 4096) → hasL l y = true → 0 ≤ y ∧ y < 4096
  | [], _, h => by simp [hasL] at h
  | [_], _, h => by simp [hasL] at h
  | a :: b :: r, hm, hh => by
    rw [hasL, Bool.or_eq_true] at hh
    rcases hh with hh | hh
    · simp at hh
      have h1 := hm a (by simp)
      have h2 := hm b (by simp)
      omega
    · exact has_rng y r (fun z hz => hm z (by simp [hz])) hh

theorem has_range {zs : List Int} (hv : validB zs = true) (y : Int) (h : hasL zs y = true) : 0 ≤ y ∧ y < 4096 := by
  have hg := good_of_valid hv
  exact has_rng y zs (fun z hz => by
    obtain ⟨k, hk⟩ := List.getElem?_of_mem hz
    exact hg.rng k z hk) h

/-- A valid set is what Bits makes of its slots. -/
theorem bits_of_has {zs : List Int} (hv : validB zs = true) (f : Int → Bool) (h : ∀ y, 0 ≤ y → y < 4096 → hasL zs y = f y) : zs = bitsL (tab f) := by
  refine valid_ext hv (bitsL_valid f) (fun y => ?_)
  rw [bitsL_has]
  by_cases h0 : 0 ≤ y
  · by_cases h1 : y < 4096
    · rw [h y h0 h1]; simp [h0, h1]
    · have : hasL zs y = false := by
        cases e : hasL zs y
        · rfl
        · have := has_range hv y e; omega
      rw [this]; simp [h1]
  · have : hasL zs y = false := by
      cases e : hasL zs y
      · rfl
      · have := has_range hv y e; omega
    rw [this]; simp [h0]

/-- Whether x is inside, if p says so before the list. -/
def inP (p : Bool) (l : List Int) (x : Int) : Bool := p != decide (afterL l x % 2 = 1)

theorem after_cons_le (a : Int) (l : List Int) (x : Int) (h : a ≤ x) : afterL (a :: l) x = afterL l x + 1 := by simp [afterL, h]
theorem after_low (l : List Int) (lo x : Int) (ha : ascB lo l = true) (h : x ≤ lo) : afterL l x = 0 :=
  afterL_eq x l 0 (by omega) (fun m y hm => absurd hm (by omega)) (fun y hy => by have := (ascB_rng l lo ha 0 y hy).1; omega)
theorem inP_cons (p : Bool) (a : Int) (l : List Int) (x : Int) (h : a ≤ x) : inP p (a :: l) x = inP (!p) l x := by
  rw [inP, inP, after_cons_le a l x h, odd_succ]
  cases p <;> cases decide (afterL l x % 2 = 1) <;> rfl
theorem inP_low (p : Bool) (l : List Int) (lo x : Int) (ha : ascB lo l = true) (h : x ≤ lo) : inP p l x = p := by
  rw [inP, after_low l lo x ha h]; cases p <;> rfl
theorem inP_low' (p : Bool) (a : Int) (l : List Int) (x : Int) (h : x < a) : inP p (a :: l) x = p := by
  have : afterL (a :: l) x = 0 := by simp [afterL, show ¬ a ≤ x by omega]
  rw [inP, this]; cases p <;> rfl

theorem merge_step (a : Int) (c po : Bool) (R' : List Int) (lo : Int) (hlo : lo < a) (h4 : a ≤ 4096) (hR : ascB a R' = true) (x : Int) (N : Bool) (hM : x < a → N = po) (hN : a ≤ x → inP (if c then !po else po) R' x = N) :
    ascB lo (if c then a :: R' else R') = true ∧ inP po (if c then a :: R' else R') x = N := by
  refine ⟨?_, ?_⟩
  · cases c
    · exact ascB_mono _ _ _ hR (by omega)
    · simp [ascB, hR]; omega
  · by_cases g : x < a
    · rw [hM g]
      cases c
      · exact inP_low _ _ a x hR (by omega)
      · exact inP_low' _ _ _ _ g
    · rw [← hN (by omega)]
      cases c
      · rfl
      · exact inP_cons _ _ _ _ (by omega)

theorem mergeF_spec (r : Bool → Bool → Bool) : ∀ (n : Nat) (as bs : List Int) (pa pb po : Bool) (lo : Int), as.length + bs.length ≤ n → ascB lo as = true → ascB lo bs = true → po = r pa pb →
    ascB lo (mergeF r n as bs pa pb po) = true ∧ ∀ x, inP po (mergeF r n as bs pa pb po) x = r (inP pa as x) (inP pb bs x)
  | 0, as, bs, pa, pb, po, lo, hl, ha, hb, hp => by
    have h1 : as = [] := List.eq_nil_of_length_eq_zero (by omega)
    have h2 : bs = [] := List.eq_nil_of_length_eq_zero (by omega)
    subst h1; subst h2
    exact ⟨rfl, fun x => by simp [mergeF, inP, afterL, hp]⟩
  | n + 1, as, bs, pa, pb, po, lo, hl, ha, hb, hp => by
    match as, bs with
    | [], [] => exact ⟨by rw [mergeF_nil]; rfl, fun x => by simp [mergeF, inP, afterL, hp]⟩
    | a :: as, [] =>
      simp only [ascB, Bool.and_eq_true, decide_eq_true_eq] at ha
      obtain ⟨⟨a1, a2⟩, a3⟩ := ha
      rw [mergeF_left]
      have ih := mergeF_spec r n as [] (!pa) pb (if (r (!pa) pb != po) then !po else po) a (by simp at hl ⊢; omega) a3 rfl (by cases h1 : r (!pa) pb <;> cases po <;> simp)
      have key : (if (r (!pa) pb != po) = true then a :: mergeF r n as [] (!pa) pb (!po) else mergeF r n as [] (!pa) pb po) = (if (r (!pa) pb != po) = true then a :: mergeF r n as [] (!pa) pb (if (r (!pa) pb != po) then !po else po) else mergeF r n as [] (!pa) pb (if (r (!pa) pb != po) then !po else po)) := by
        split <;> rfl
      rw [key]
      have st := fun x N hM hN => merge_step a (r (!pa) pb != po) po _ lo a1 a2 ih.1 x N hM hN
      refine ⟨(st lo po (fun _ => rfl) (fun h => absurd h (by omega))).1, fun x => (st x _ (fun g => ?_) (fun g => ?_)).2⟩
      · rw [inP_low' _ _ _ _ g, show inP pb [] x = pb by simp [inP, afterL], hp]
      · rw [ih.2, inP_cons _ _ _ _ g]
    | [], b :: bs =>
      simp only [ascB, Bool.and_eq_true, decide_eq_true_eq] at hb
      obtain ⟨⟨a1, a2⟩, a3⟩ := hb
      rw [mergeF_right]
      have ih := mergeF_spec r n [] bs pa (!pb) (if (r pa (!pb) != po) then !po else po) b (by simp at hl ⊢; omega) rfl a3 (by cases h1 : r pa (!pb) <;> cases po <;> simp)
      have key : (if (r pa (!pb) != po) = true then b :: mergeF r n [] bs pa (!pb) (!po) else mergeF r n [] bs pa (!pb) po) = (if (r pa (!pb) != po) = true then b :: mergeF r n [] bs pa (!pb) (if (r pa (!pb) != po) then !po else po) else mergeF r n [] bs pa (!pb) (if (r pa (!pb) != po) then !po else po)) := by
        split <;> rfl
      rw [key]
      have st := fun x N hM hN => merge_step b (r pa (!pb) != po) po _ lo a1 a2 ih.1 x N hM hN
      refine ⟨(st lo po (fun _ => rfl) (fun h => absurd h (by omega))).1, fun x => (st x _ (fun g => ?_) (fun g => ?_)).2⟩
      · rw [inP_low' _ _ _ _ g, show inP pa [] x = pa by simp [inP, afterL], hp]
      · rw [ih.2, inP_cons _ _ _ _ g]
    | a :: as, b :: bs =>
      have ha0 := ha
      have hb0 := hb
      simp only [ascB, Bool.and_eq_true, decide_eq_true_eq] at ha hb
      obtain ⟨⟨a1, a2⟩, a3⟩ := ha
      obtain ⟨⟨b1, b2⟩, b3⟩ := hb
      rw [mergeF.eq_5]
      by_cases g1 : a < b
      · rw [if_pos g1]
        have hb' : ascB a (b :: bs) = true := by simp [ascB, b3]; omega
        have ih := mergeF_spec r n as (b :: bs) (!pa) pb (if (r (!pa) pb != po) then !po else po) a (by simp at hl ⊢; omega) a3 hb' (by cases h1 : r (!pa) pb <;> cases po <;> simp)
        have key : (if (r (!pa) pb != po) = true then a :: mergeF r n as (b :: bs) (!pa) pb (!po) else mergeF r n as (b :: bs) (!pa) pb po) = (if (r (!pa) pb != po) = true then a :: mergeF r n as (b :: bs) (!pa) pb (if (r (!pa) pb != po) then !po else po) else mergeF r n as (b :: bs) (!pa) pb (if (r (!pa) pb != po) then !po else po)) := by
          split <;> rfl
        rw [key]
        have st := fun x N hM hN => merge_step a (r (!pa) pb != po) po _ lo a1 a2 ih.1 x N hM hN
        refine ⟨(st lo po (fun _ => rfl) (fun h => absurd h (by omega))).1, fun x => (st x _ (fun g => ?_) (fun g => ?_)).2⟩
        · rw [inP_low' _ _ _ _ g, inP_low' _ _ _ _ (by omega), hp]
        · rw [ih.2, inP_cons _ _ _ _ g]
      · rw [if_neg g1]
        by_cases g2 : b < a
        · rw [if_pos g2]
          have ha' : ascB b (a :: as) = true := by simp [ascB, a3]; omega
          have ih := mergeF_spec r n (a :: as) bs pa (!pb) (if (r pa (!pb) != po) then !po else po) b (by simp at hl ⊢; omega) ha' b3 (by cases h1 : r pa (!pb) <;> cases po <;> simp)
          have key : (if (r pa (!pb) != po) = true then b :: mergeF r n (a :: as) bs pa (!pb) (!po) else mergeF r n (a :: as) bs pa (!pb) po) = (if (r pa (!pb) != po) = true then b :: mergeF r n (a :: as) bs pa (!pb) (if (r pa (!pb) != po) then !po else po) else mergeF r n (a :: as) bs pa (!pb) (if (r pa (!pb) != po) then !po else po)) := by
            split <;> rfl
          rw [key]
          have st := fun x N hM hN => merge_step b (r pa (!pb) != po) po _ lo b1 b2 ih.1 x N hM hN
          refine ⟨(st lo po (fun _ => rfl) (fun h => absurd h (by omega))).1, fun x => (st x _ (fun g => ?_) (fun g => ?_)).2⟩
          · rw [inP_low' _ _ _ _ g, inP_low' _ _ _ _ (by omega), hp]
          · rw [ih.2, inP_cons pb b bs x g]
        · rw [if_neg g2]
          obtain rfl : a = b := by omega
          have ih := mergeF_spec r n as bs (!pa) (!pb) (if (r (!pa) (!pb) != po) then !po else po) a (by simp at hl ⊢; omega) a3 b3 (by cases h1 : r (!pa) (!pb) <;> cases po <;> simp)
          have key : (if (r (!pa) (!pb) != po) = true then a :: mergeF r n as bs (!pa) (!pb) (!po) else mergeF r n as bs (!pa) (!pb) po) = (if (r (!pa) (!pb) != po) = true then a :: mergeF r n as bs (!pa) (!pb) (if (r (!pa) (!pb) != po) then !po else po) else mergeF r n as bs (!pa) (!pb) (if (r (!pa) (!pb) != po) then !po else po)) := by
            split <;> rfl
          rw [key]
          have st := fun x N hM hN => merge_step a (r (!pa) (!pb) != po) po _ lo a1 a2 ih.1 x N hM hN
          refine ⟨(st lo po (fun _ => rfl) (fun h => absurd h (by omega))).1, fun x => (st x _ (fun g => ?_) (fun g => ?_)).2⟩
          · rw [inP_low' _ _ _ _ g, inP_low' _ _ _ _ g, hp]
          · rw [ih.2, inP_cons _ _ _ _ g, inP_cons _ _ _ _ g]

theorem after_all (l : List Int) (h : ∀ z ∈ l, z ≤ 4096) : afterL l 4096 = l.length := by
  exact afterL_eq 4096 l l.length (Nat.le_refl _) (fun m y _ hy => h y (List.mem_of_getElem? hy)) (fun y hy => by simp at hy)

theorem mergeL_spec (r : Bool → Bool → Bool) (hr : r false false = false) {xs ys : List Int} (hx : validB xs = true) (hy : validB ys = true) :
    validB (mergeL r xs ys) = true ∧ ∀ x, hasL (mergeL r xs ys) x = r (hasL xs x) (hasL ys x) := by
  have hx0 := hx
  have hy0 := hy
  simp only [validB, Bool.and_eq_true, decide_eq_true_eq] at hx hy
  obtain ⟨m1, m2⟩ := mergeF_spec r (xs.length + ys.length) xs ys false false false (-1) (Nat.le_refl _) hx.1 hy.1 hr.symm
  have hv : validB (mergeL r xs ys) = true := by
    have e := m2 4096
    simp only [inP] at e
    rw [after_all _ (fun z hz => (asc_le_last _ _ m1 z hz).2), after_all xs (fun z hz => (asc_le_last _ _ hx.1 z hz).2), after_all ys (fun z hz => (asc_le_last _ _ hy.1 z hz).2)] at e
    rw [show decide (xs.length % 2 = 1) = false by simp; omega, show decide (ys.length % 2 = 1) = false by simp; omega, show (false != false) = false from rfl, hr] at e
    rw [validB, mergeL, m1]
    simp at e ⊢
    exact e
  refine ⟨hv, fun x => ?_⟩
  rw [hasL_eq hv, hasL_eq hx0, hasL_eq hy0]
  have e := m2 x
  have f : ∀ b : Bool, (false != b) = b := by decide
  simp only [inP, f] at e
  exact e

theorem run_spec (p q : Int) : runL p q = bitsL (tab (fun j => decide (p ≤ j) && decide (j < q))) := by
  have hv : validB (runL p q) = true := by
    unfold runL
    split
    · simp [validB, ascB]; omega
    · rfl
  refine bits_of_has hv _ (fun y h0 h1 => ?_)
  unfold runL
  split
  · rw [Bool.eq_iff_iff]; simp [hasL]; omega
  · rw [Bool.eq_iff_iff]; simp [hasL]; omega

end Go.Proofs.Ytomjfmebbpfkeaa
