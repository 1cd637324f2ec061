/- Merged: PlainF, PlainM, PlainZ, PlainS, Hc, Hd, PwQ0, BitOps, Wire, Hu, He, Jf, Jl, Jm, PwZ4, Ka, Kb, Kc, Kd, Ke, Row. -/
import Derived.WalkKit
import Derived.ProofKit
import Derived.OpenShut
import Derived.SizedLaws
import Derived.Test.YtilcpcpmkklobaaDoorC4
/- Plain: how many borders are not greater than a number. -/
namespace Go.Proofs.YtilcpcpmkklobaaDoor
set_option linter.unusedSimpArgs false
set_option linter.unusedVariables false
set_option linter.unnecessarySimpa false

def runL (x y : Int) : List Int := if max x 0 < min y 4096 then [max x 0, min y 4096] else []

def afterL (zs : List Int) (x : Int) : Nat := (zs.takeWhile (fun y => decide (y ≤ x))).length

theorem afterL_eq (x : Int) : ∀ (zs : List Int) (i : Nat), i ≤ zs.length → (∀ (m : Nat) (y : Int), m < i → zs[m]? = some y → y ≤ x) → (∀ y : Int, zs[i]? = some y → x < y) → afterL zs x = i
  | [], i, hi, _, _ => by simp at hi; subst hi; rfl
  | z :: r, 0, _, _, h2 => by
    have := h2 z rfl
    simp [afterL, show ¬ z ≤ x by omega]
  | z :: r, i + 1, hi, h1, h2 => by
    have hz := h1 0 z (by omega) rfl
    have ih := afterL_eq x r i (by simpa using hi) (fun m y hm hy => h1 (m+1) y (by omega) (by simpa using hy)) (fun y hy => h2 y (by simpa using hy))
    simp only [afterL, List.takeWhile_cons, decide_eq_true_eq, hz, if_true, List.length_cons] at ih ⊢
    omega

theorem good_le {zs : List Int} (hg : Good zs) : ∀ (i j : Nat) (y z : Int), i ≤ j → zs[i]? = some y → zs[j]? = some z → y ≤ z := by
  intro i j
  induction j with
  | zero => intro y z h hy hz; obtain rfl : i = 0 := by omega
            rw [hy] at hz; cases hz; omega
  | succ j ih =>
    intro y z h hy hz
    by_cases e : i = j + 1
    · subst e; rw [hy] at hz; cases hz; omega
    · have hlt := (List.getElem?_eq_some_iff.1 hz).1
      obtain ⟨u, hu⟩ : ∃ u, zs[j]? = some u := ⟨zs[j], by simp⟩
      have h1 := ih y u (by omega) hy hu
      have h2 := hg.asc j u z hu hz
      omega

theorem hasL_after (x : Int) : ∀ (zs : List Int) (lo : Int), ascB lo zs = true → hasL zs x = decide (afterL zs x % 2 = 1) ∨ zs.length % 2 = 1
  | [], _, _ => .inl rfl
  | [_], _, _ => .inr rfl
  | a :: b :: r, lo, h => by
    simp only [ascB, Bool.and_eq_true, decide_eq_true_eq] at h
    obtain ⟨⟨h1, h2⟩, ⟨h3, h4⟩, h5⟩ := h
    rcases hasL_after x r b h5 with ih | ih
    · left
      rw [hasL]
      by_cases g1 : a ≤ x
      · by_cases g2 : b ≤ x
        · have e : afterL (a :: b :: r) x = afterL r x + 2 := by simp [afterL, g1, g2]
          rw [e, ih]
          simp [g1, show ¬ x < b by omega]
        · have e : afterL (a :: b :: r) x = 1 := by simp [afterL, g1, g2]
          rw [e]; simp [g1, show x < b by omega]
      · have e : afterL (a :: b :: r) x = 0 := by simp [afterL, g1]
        have e2 : afterL r x = 0 := by
          have := afterL_eq x r 0 (by omega) (fun m y hm => absurd hm (by omega)) (fun y hy => by have := (ascB_rng r b h5 0 y hy).1; omega)
          exact this
        rw [e, ih, e2]; simp [g1]
    · right; simp; omega

theorem hasL_eq {zs : List Int} (hv : validB zs = true) (x : Int) : hasL zs x = decide (afterL zs x % 2 = 1) := by
  simp only [validB, Bool.and_eq_true, decide_eq_true_eq] at hv
  rcases hasL_after x zs (-1) hv.1 with h | h
  · exact h
  · omega

end Go.Proofs.YtilcpcpmkklobaaDoor

/- Plain: sets as lists of borders: they are equal if they have the same slots; what Bits and merge make are sets. -/
namespace Go.Proofs.YtilcpcpmkklobaaDoor
set_option linter.unusedSimpArgs false
set_option linter.unusedVariables false
set_option linter.unnecessarySimpa false

theorem ascB_mono : ∀ (l : List Int) (lo lo' : Int), ascB lo l = true → lo' ≤ lo → ascB lo' l = true
  | [], _, _, _, _ => rfl
  | z :: r, lo, lo', h, hl => by
    simp only [ascB, Bool.and_eq_true, decide_eq_true_eq] at h ⊢
    exact ⟨⟨by omega, h.1.2⟩, h.2⟩

theorem hasL_below : ∀ (l : List Int) (lo x : Int), ascB lo l = true → x ≤ lo → hasL l x = false
  | [], _, _, _, _ => rfl
  | [_], _, _, _, _ => rfl
  | a :: b :: r, lo, x, h, hx => by
    simp only [ascB, Bool.and_eq_true, decide_eq_true_eq] at h
    rw [hasL, hasL_below r b x h.2.2 (by omega), show decide (a ≤ x) = false by simp; omega]; rfl

theorem set_ext : ∀ (a b : List Int) (lo : Int), ascB lo a = true → ascB lo b = true → a.length % 2 = 0 → b.length % 2 = 0 → (∀ x, hasL a x = hasL b x) → a = b
  | [], [], _, _, _, _, _, _ => rfl
  | [], [_], _, _, _, _, h, _ => by simp at h
  | [_], _, _, _, _, h, _, _ => by simp at h
  | [], b1 :: b2 :: br, lo, _, hb, _, _, h => by
    simp only [ascB, Bool.and_eq_true, decide_eq_true_eq] at hb
    have := h b1
    simp [hasL] at this
    omega
  | a1 :: a2 :: ar, [], lo, ha, _, _, _, h => by
    simp only [ascB, Bool.and_eq_true, decide_eq_true_eq] at ha
    have := h a1
    simp [hasL] at this
    omega
  | a1 :: a2 :: ar, [_], _, _, _, _, h, _ => by simp at h
  | a1 :: a2 :: ar, b1 :: b2 :: br, lo, ha, hb, la, lb, h => by
    simp only [ascB, Bool.and_eq_true, decide_eq_true_eq] at ha hb
    obtain ⟨⟨ha1, _⟩, ⟨ha2, ha3⟩, ha4⟩ := ha
    obtain ⟨⟨hb1, _⟩, ⟨hb2, hb3⟩, hb4⟩ := hb
    have e1 : a1 = b1 := by
      have h1 := h a1
      have h2 := h b1
      rw [hasL, hasL, show (decide (a1 ≤ a1) && decide (a1 < a2)) = true by simp; omega] at h1
      rw [hasL, hasL, show (decide (b1 ≤ b1) && decide (b1 < b2)) = true by simp; omega] at h2
      simp only [Bool.true_or, Bool.or_true] at h1 h2
      by_cases g : a1 < b1
      · rw [hasL_below br b2 a1 hb4 (by omega), show decide (b1 ≤ a1) = false by simp; omega] at h1
        simp at h1
      · by_cases g2 : b1 < a1
        · rw [hasL_below ar a2 b1 ha4 (by omega), show decide (a1 ≤ b1) = false by simp; omega] at h2
          simp at h2
        · omega
    subst e1
    have e2 : a2 = b2 := by
      by_cases g : a2 < b2
      · have h1 := h a2
        rw [hasL, hasL, hasL_below ar a2 a2 ha4 (by omega), show (decide (a1 ≤ a2) && decide (a2 < a2)) = false by simp, show (decide (a1 ≤ a2) && decide (a2 < b2)) = true by simp; omega] at h1
        simp at h1
      · by_cases g2 : b2 < a2
        · have h1 := h b2
          rw [hasL, hasL, hasL_below br b2 b2 hb4 (by omega), show (decide (a1 ≤ b2) && decide (b2 < b2)) = false by simp, show (decide (a1 ≤ b2) && decide (b2 < a2)) = true by simp; omega] at h1
          simp at h1
        · omega
    subst e2
    have e3 : ar = br := by
      refine set_ext ar br a2 ha4 hb4 (by simp at la; omega) (by simp at lb; omega) (fun x => ?_)
      by_cases g : x ≤ a2
      · rw [hasL_below ar a2 x ha4 g, hasL_below br a2 x hb4 g]
      · have h1 := h x
        rw [hasL, hasL, show decide (x < a2) = false by simp; omega] at h1
        simpa using h1
    rw [e3]

theorem valid_ext {a b : List Int} (ha : validB a = true) (hb : validB b = true) (h : ∀ x, hasL a x = hasL b x) : a = b := by
  simp only [validB, Bool.and_eq_true, decide_eq_true_eq] at ha hb
  exact set_ext a b (-1) ha.1 hb.1 ha.2 hb.2 h

/-- A list of bools, from the place x on. -/
def memB (l : List Bool) (x y : Int) : Bool := decide (x ≤ y) && l.getD (y - x).toNat false

theorem memB_cons (c : Bool) (r : List Bool) (x y : Int) : memB (c :: r) x y = ((decide (y = x) && c) || memB r (x + 1) y) := by
  unfold memB
  by_cases h : y = x
  · subst h; simp [show ¬ (y + 1 ≤ y) by omega]
  · by_cases g : x ≤ y
    · obtain ⟨k, hk⟩ : ∃ k : Nat, (y - x).toNat = k + 1 := ⟨(y - x).toNat - 1, by omega⟩
      rw [hk, show (y - (x + 1)).toNat = k by omega]
      simp [h, g, show x + 1 ≤ y by omega]
    · simp [h, g, show ¬ (x + 1 ≤ y) by omega]

theorem bitsGo_spec : ∀ (l : List Bool) (x : Int), 0 ≤ x → x + l.length ≤ 4096 →
    (ascB (x - 1) (bitsGo l x false) = true ∧ (bitsGo l x false).length % 2 = 0 ∧ ∀ y, hasL (bitsGo l x false) y = memB l x y) ∧
    (∀ s, s < x → ascB s (bitsGo l x true) = true ∧ (bitsGo l x true).length % 2 = 1 ∧ ∀ y, hasL (s :: bitsGo l x true) y = ((decide (s ≤ y) && decide (y < x)) || memB l x y))
  | [], x, h0, h1 => by
    refine ⟨⟨rfl, rfl, fun y => by simp [bitsGo, hasL, memB]⟩, fun s hs => ⟨by simp [bitsGo, ascB] at h1 ⊢; omega, rfl, fun y => by simp [bitsGo, hasL, memB]⟩⟩
  | c :: r, x, h0, h1 => by
    obtain ⟨⟨f1, f2, f3⟩, ft⟩ := bitsGo_spec r (x + 1) (by omega) (by simp at h1; omega)
    have hx : x ≤ 4096 := by simp at h1; omega
    refine ⟨?_, fun s hs => ?_⟩
    · cases c
      · refine ⟨?_, ?_, fun y => ?_⟩
        · rw [bitsGo, if_pos rfl]; exact ascB_mono _ _ _ f1 (by omega)
        · rw [bitsGo, if_pos rfl]; exact f2
        · rw [bitsGo, if_pos rfl, f3, memB_cons]; simp
      · obtain ⟨t1, t2, t3⟩ := ft x (by omega)
        refine ⟨?_, ?_, fun y => ?_⟩
        · rw [bitsGo, if_neg (by simp), ascB, t1]; simp; omega
        · rw [bitsGo, if_neg (by simp), List.length_cons]; omega
        · rw [bitsGo, if_neg (by simp), t3, memB_cons]
          congr 1
          rw [Bool.eq_iff_iff]; simp; omega
    · cases c
      · refine ⟨?_, ?_, fun y => ?_⟩
        · rw [bitsGo, if_neg (by simp), ascB]
          have := ascB_mono _ _ x f1 (by omega)
          rw [this]; simp; omega
        · rw [bitsGo, if_neg (by simp), List.length_cons]; omega
        · rw [bitsGo, if_neg (by simp), hasL, f3, memB_cons]; simp
      · obtain ⟨t1, t2, t3⟩ := ft s (by omega)
        refine ⟨?_, ?_, fun y => ?_⟩
        · rw [bitsGo, if_pos rfl]; exact t1
        · rw [bitsGo, if_pos rfl]; exact t2
        · rw [bitsGo, if_pos rfl, t3, memB_cons, ← Bool.or_assoc]
          congr 1
          rw [Bool.eq_iff_iff]; simp; omega

theorem bitsL_valid (f : Int → Bool) : validB (bitsL (tab f)) = true := by
  obtain ⟨⟨h1, h2, _⟩, _⟩ := bitsGo_spec (tab f) 0 (by omega) (by rw [tab_length]; omega)
  rw [validB, bitsL, h2]
  rw [show (0 : Int) - 1 = -1 by omega] at h1
  rw [h1]; rfl
theorem bitsL_has (f : Int → Bool) (y : Int) : hasL (bitsL (tab f)) y = (decide (0 ≤ y) && decide (y < 4096) && f y) := by
  obtain ⟨⟨_, _, h⟩, _⟩ := bitsGo_spec (tab f) 0 (by omega) (by rw [tab_length]; omega)
  rw [bitsL, h, memB]
  by_cases h0 : 0 ≤ y
  · by_cases h1 : y < 4096
    · rw [List.getD_eq_getElem?_getD, tab_get f _ (by omega)]
      have e : ((y - 0).toNat : Int) = y := by omega
      rw [e]; simp [h0, h1]
    · rw [List.getD_eq_getElem?_getD, List.getElem?_eq_none (by rw [tab_length]; omega)]; simp [h1]
  · simp [h0]

theorem has_rng (y : Int) : ∀ (l : List Int), (∀ z ∈ l, 0 ≤ z ∧ z ≤ 4096) → hasL l y = true → 0 ≤ y ∧ y < 4096
  | [], _, h => by simp [hasL] at h
  | [_], _, h => by simp [hasL] at h
  | a :: b :: r, hm, hh => by
    rw [hasL, Bool.or_eq_true] at hh
    rcases hh with hh | hh
    · simp at hh
      have h1 := hm a (by simp)
      have h2 := hm b (by simp)
      omega
    · exact has_rng y r (fun z hz => hm z (by simp [hz])) hh

theorem has_range {zs : List Int} (hv : validB zs = true) (y : Int) (h : hasL zs y = true) : 0 ≤ y ∧ y < 4096 := by
  have hg := good_of_valid hv
  exact has_rng y zs (fun z hz => by
    obtain ⟨k, hk⟩ := List.getElem?_of_mem hz
    exact hg.rng k z hk) h

/-- A valid set is what Bits makes of its slots. -/
theorem bits_of_has {zs : List Int} (hv : validB zs = true) (f : Int → Bool) (h : ∀ y, 0 ≤ y → y < 4096 → hasL zs y = f y) : zs = bitsL (tab f) := by
  refine valid_ext hv (bitsL_valid f) (fun y => ?_)
  rw [bitsL_has]
  by_cases h0 : 0 ≤ y
  · by_cases h1 : y < 4096
    · rw [h y h0 h1]; simp [h0, h1]
    · have : hasL zs y = false := by
        cases e : hasL zs y
        · rfl
        · have := has_range hv y e; omega
      rw [this]; simp [h1]
  · have : hasL zs y = false := by
      cases e : hasL zs y
      · rfl
      · have := has_range hv y e; omega
    rw [this]; simp [h0]

/-- Whether x is inside, if p says so before the list. -/
def inP (p : Bool) (l : List Int) (x : Int) : Bool := p != decide (afterL l x % 2 = 1)

theorem after_cons_le (a : Int) (l : List Int) (x : Int) (h : a ≤ x) : afterL (a :: l) x = afterL l x + 1 := by simp [afterL, h]
theorem after_low (l : List Int) (lo x : Int) (ha : ascB lo l = true) (h : x ≤ lo) : afterL l x = 0 :=
  afterL_eq x l 0 (by omega) (fun m y hm => absurd hm (by omega)) (fun y hy => by have := (ascB_rng l lo ha 0 y hy).1; omega)
theorem inP_cons (p : Bool) (a : Int) (l : List Int) (x : Int) (h : a ≤ x) : inP p (a :: l) x = inP (!p) l x := by
  rw [inP, inP, after_cons_le a l x h, odd_succ]
  cases p <;> cases decide (afterL l x % 2 = 1) <;> rfl
theorem inP_low (p : Bool) (l : List Int) (lo x : Int) (ha : ascB lo l = true) (h : x ≤ lo) : inP p l x = p := by
  rw [inP, after_low l lo x ha h]; cases p <;> rfl
theorem inP_low' (p : Bool) (a : Int) (l : List Int) (x : Int) (h : x < a) : inP p (a :: l) x = p := by
  have : afterL (a :: l) x = 0 := by simp [afterL, show ¬ a ≤ x by omega]
  rw [inP, this]; cases p <;> rfl

theorem merge_step (a : Int) (c po : Bool) (R' : List Int) (lo : Int) (hlo : lo < a) (h4 : a ≤ 4096) (hR : ascB a R' = true) (x : Int) (N : Bool) (hM : x < a → N = po) (hN : a ≤ x → inP (if c then !po else po) R' x = N) :
    ascB lo (if c then a :: R' else R') = true ∧ inP po (if c then a :: R' else R') x = N := by
  refine ⟨?_, ?_⟩
  · cases c
    · exact ascB_mono _ _ _ hR (by omega)
    · simp [ascB, hR]; omega
  · by_cases g : x < a
    · rw [hM g]
      cases c
      · exact inP_low _ _ a x hR (by omega)
      · exact inP_low' _ _ _ _ g
    · rw [← hN (by omega)]
      cases c
      · rfl
      · exact inP_cons _ _ _ _ (by omega)

theorem mergeF_spec (r : Bool → Bool → Bool) : ∀ (n : Nat) (az bs : List Int) (pa pb po : Bool) (lo : Int), az.length + bs.length ≤ n → ascB lo az = true → ascB lo bs = true → po = r pa pb →
    ascB lo (mergeF r n az bs pa pb po) = true ∧ ∀ x, inP po (mergeF r n az bs pa pb po) x = r (inP pa az x) (inP pb bs x)
  | 0, az, bs, pa, pb, po, lo, hl, ha, hb, hp => by
    have h1 : az = [] := List.eq_nil_of_length_eq_zero (by omega)
    have h2 : bs = [] := List.eq_nil_of_length_eq_zero (by omega)
    subst h1; subst h2
    exact ⟨rfl, fun x => by simp [mergeF, inP, afterL, hp]⟩
  | n + 1, az, bs, pa, pb, po, lo, hl, ha, hb, hp => by
    match az, bs with
    | [], [] => exact ⟨by rw [mergeF_nil]; rfl, fun x => by simp [mergeF, inP, afterL, hp]⟩
    | a :: az, [] =>
      simp only [ascB, Bool.and_eq_true, decide_eq_true_eq] at ha
      obtain ⟨⟨a1, a2⟩, a3⟩ := ha
      rw [mergeF_left]
      have ih := mergeF_spec r n az [] (!pa) pb (if (r (!pa) pb != po) then !po else po) a (by simp at hl ⊢; omega) a3 rfl (by cases h1 : r (!pa) pb <;> cases po <;> simp)
      have key : (if (r (!pa) pb != po) = true then a :: mergeF r n az [] (!pa) pb (!po) else mergeF r n az [] (!pa) pb po) = (if (r (!pa) pb != po) = true then a :: mergeF r n az [] (!pa) pb (if (r (!pa) pb != po) then !po else po) else mergeF r n az [] (!pa) pb (if (r (!pa) pb != po) then !po else po)) := by
        split <;> rfl
      rw [key]
      have st := fun x N hM hN => merge_step a (r (!pa) pb != po) po _ lo a1 a2 ih.1 x N hM hN
      refine ⟨(st lo po (fun _ => rfl) (fun h => absurd h (by omega))).1, fun x => (st x _ (fun g => ?_) (fun g => ?_)).2⟩
      · rw [inP_low' _ _ _ _ g, show inP pb [] x = pb by simp [inP, afterL], hp]
      · rw [ih.2, inP_cons _ _ _ _ g]
    | [], b :: bs =>
      simp only [ascB, Bool.and_eq_true, decide_eq_true_eq] at hb
      obtain ⟨⟨a1, a2⟩, a3⟩ := hb
      rw [mergeF_right]
      have ih := mergeF_spec r n [] bs pa (!pb) (if (r pa (!pb) != po) then !po else po) b (by simp at hl ⊢; omega) rfl a3 (by cases h1 : r pa (!pb) <;> cases po <;> simp)
      have key : (if (r pa (!pb) != po) = true then b :: mergeF r n [] bs pa (!pb) (!po) else mergeF r n [] bs pa (!pb) po) = (if (r pa (!pb) != po) = true then b :: mergeF r n [] bs pa (!pb) (if (r pa (!pb) != po) then !po else po) else mergeF r n [] bs pa (!pb) (if (r pa (!pb) != po) then !po else po)) := by
        split <;> rfl
      rw [key]
      have st := fun x N hM hN => merge_step b (r pa (!pb) != po) po _ lo a1 a2 ih.1 x N hM hN
      refine ⟨(st lo po (fun _ => rfl) (fun h => absurd h (by omega))).1, fun x => (st x _ (fun g => ?_) (fun g => ?_)).2⟩
      · rw [inP_low' _ _ _ _ g, show inP pa [] x = pa by simp [inP, afterL], hp]
      · rw [ih.2, inP_cons _ _ _ _ g]
    | a :: az, b :: bs =>
      have ha0 := ha
      have hb0 := hb
      simp only [ascB, Bool.and_eq_true, decide_eq_true_eq] at ha hb
      obtain ⟨⟨a1, a2⟩, a3⟩ := ha
      obtain ⟨⟨b1, b2⟩, b3⟩ := hb
      rw [mergeF.eq_5]
      by_cases g1 : a < b
      · rw [if_pos g1]
        have hb' : ascB a (b :: bs) = true := by simp [ascB, b3]; omega
        have ih := mergeF_spec r n az (b :: bs) (!pa) pb (if (r (!pa) pb != po) then !po else po) a (by simp at hl ⊢; omega) a3 hb' (by cases h1 : r (!pa) pb <;> cases po <;> simp)
        have key : (if (r (!pa) pb != po) = true then a :: mergeF r n az (b :: bs) (!pa) pb (!po) else mergeF r n az (b :: bs) (!pa) pb po) = (if (r (!pa) pb != po) = true then a :: mergeF r n az (b :: bs) (!pa) pb (if (r (!pa) pb != po) then !po else po) else mergeF r n az (b :: bs) (!pa) pb (if (r (!pa) pb != po) then !po else po)) := by
          split <;> rfl
        rw [key]
        have st := fun x N hM hN => merge_step a (r (!pa) pb != po) po _ lo a1 a2 ih.1 x N hM hN
        refine ⟨(st lo po (fun _ => rfl) (fun h => absurd h (by omega))).1, fun x => (st x _ (fun g => ?_) (fun g => ?_)).2⟩
        · rw [inP_low' _ _ _ _ g, inP_low' _ _ _ _ (by omega), hp]
        · rw [ih.2, inP_cons _ _ _ _ g]
      · rw [if_neg g1]
        by_cases g2 : b < a
        · rw [if_pos g2]
          have ha' : ascB b (a :: az) = true := by simp [ascB, a3]; omega
          have ih := mergeF_spec r n (a :: az) bs pa (!pb) (if (r pa (!pb) != po) then !po else po) b (by simp at hl ⊢; omega) ha' b3 (by cases h1 : r pa (!pb) <;> cases po <;> simp)
          have key : (if (r pa (!pb) != po) = true then b :: mergeF r n (a :: az) bs pa (!pb) (!po) else mergeF r n (a :: az) bs pa (!pb) po) = (if (r pa (!pb) != po) = true then b :: mergeF r n (a :: az) bs pa (!pb) (if (r pa (!pb) != po) then !po else po) else mergeF r n (a :: az) bs pa (!pb) (if (r pa (!pb) != po) then !po else po)) := by
            split <;> rfl
          rw [key]
          have st := fun x N hM hN => merge_step b (r pa (!pb) != po) po _ lo b1 b2 ih.1 x N hM hN
          refine ⟨(st lo po (fun _ => rfl) (fun h => absurd h (by omega))).1, fun x => (st x _ (fun g => ?_) (fun g => ?_)).2⟩
          · rw [inP_low' _ _ _ _ g, inP_low' _ _ _ _ (by omega), hp]
          · rw [ih.2, inP_cons pb b bs x g]
        · rw [if_neg g2]
          obtain rfl : a = b := by omega
          have ih := mergeF_spec r n az bs (!pa) (!pb) (if (r (!pa) (!pb) != po) then !po else po) a (by simp at hl ⊢; omega) a3 b3 (by cases h1 : r (!pa) (!pb) <;> cases po <;> simp)
          have key : (if (r (!pa) (!pb) != po) = true then a :: mergeF r n az bs (!pa) (!pb) (!po) else mergeF r n az bs (!pa) (!pb) po) = (if (r (!pa) (!pb) != po) = true then a :: mergeF r n az bs (!pa) (!pb) (if (r (!pa) (!pb) != po) then !po else po) else mergeF r n az bs (!pa) (!pb) (if (r (!pa) (!pb) != po) then !po else po)) := by
            split <;> rfl
          rw [key]
          have st := fun x N hM hN => merge_step a (r (!pa) (!pb) != po) po _ lo a1 a2 ih.1 x N hM hN
          refine ⟨(st lo po (fun _ => rfl) (fun h => absurd h (by omega))).1, fun x => (st x _ (fun g => ?_) (fun g => ?_)).2⟩
          · rw [inP_low' _ _ _ _ g, inP_low' _ _ _ _ g, hp]
          · rw [ih.2, inP_cons _ _ _ _ g, inP_cons _ _ _ _ g]

theorem after_all (l : List Int) (h : ∀ z ∈ l, z ≤ 4096) : afterL l 4096 = l.length := by
  exact afterL_eq 4096 l l.length (Nat.le_refl _) (fun m y _ hy => h y (List.mem_of_getElem? hy)) (fun y hy => by simp at hy)

theorem mergeL_spec (r : Bool → Bool → Bool) (hr : r false false = false) {xs ys : List Int} (hx : validB xs = true) (hy : validB ys = true) :
    validB (mergeL r xs ys) = true ∧ ∀ x, hasL (mergeL r xs ys) x = r (hasL xs x) (hasL ys x) := by
  have hx0 := hx
  have hy0 := hy
  simp only [validB, Bool.and_eq_true, decide_eq_true_eq] at hx hy
  obtain ⟨m1, m2⟩ := mergeF_spec r (xs.length + ys.length) xs ys false false false (-1) (Nat.le_refl _) hx.1 hy.1 hr.symm
  have hv : validB (mergeL r xs ys) = true := by
    have e := m2 4096
    simp only [inP] at e
    rw [after_all _ (fun z hz => (asc_le_last _ _ m1 z hz).2), after_all xs (fun z hz => (asc_le_last _ _ hx.1 z hz).2), after_all ys (fun z hz => (asc_le_last _ _ hy.1 z hz).2)] at e
    rw [show decide (xs.length % 2 = 1) = false by simp; omega, show decide (ys.length % 2 = 1) = false by simp; omega, show (false != false) = false from rfl, hr] at e
    rw [validB, mergeL, m1]
    simp at e ⊢
    exact e
  refine ⟨hv, fun x => ?_⟩
  rw [hasL_eq hv, hasL_eq hx0, hasL_eq hy0]
  have e := m2 x
  have f : ∀ b : Bool, (false != b) = b := by decide
  simp only [inP, f] at e
  exact e

theorem run_spec (p q : Int) : runL p q = bitsL (tab (fun j => decide (p ≤ j) && decide (j < q))) := by
  have hv : validB (runL p q) = true := by
    unfold runL
    split
    · simp [validB, ascB]; omega
    · rfl
  refine bits_of_has hv _ (fun y h0 h1 => ?_)
  unfold runL
  split
  · rw [Bool.eq_iff_iff]; simp [hasL]; omega
  · rw [Bool.eq_iff_iff]; simp [hasL]; omega

end Go.Proofs.YtilcpcpmkklobaaDoor

/- Plain: what is encoded is decoded, and the other way round. -/
namespace Go.Proofs.YtilcpcpmkklobaaDoor
set_option linter.unusedSimpArgs false
set_option linter.unusedVariables false
set_option linter.unnecessarySimpa false

theorem getGo_leb (rest : List Int) : ∀ (q k : Nat) (acc : Int), k ≤ 9 → (q : Int) * 2 ^ (7 * k) < 18446744073709551616 → (0 < k → q ≠ 0) →
    getGo (leb q ++ rest) k acc = (unzig (acc + q * 2 ^ (7 * k)), ((k + (leb q).length : Nat) : Int), 0) := by
  intro q
  induction q using Nat.strongRecOn with
  | _ q ih =>
    intro k acc hk hq h0
    have hp : (0 : Int) < 2 ^ (7 * k) := Int.pow_pos (by decide)
    by_cases g : q < 128
    · rw [leb_small q g]
      have h9 : k = 9 → (q : Int) ≤ 1 := by
        intro e; subst e
        have e2 : (2 : Int) ^ (7 * 9) = 9223372036854775808 := by decide
        rw [e2] at hq; omega
      rw [List.cons_append, List.nil_append, getGo, if_neg (by
        rintro (⟨h1, h2⟩ | ⟨h1, h2⟩)
        · have := h9 h1; omega
        · have := h0 h1; omega), if_pos (by omega), show (q : Int) % 128 = q by omega]
      simp
    · rw [leb_big q (by omega), List.cons_append, getGo]
      have hk8 : k ≤ 8 := by
        by_cases e : k = 9
        · subst e
          have e2 : (2 : Int) ^ (7 * 9) = 9223372036854775808 := by decide
          rw [e2] at hq; omega
        · omega
      rw [if_neg (by omega), if_neg (by omega)]
      have e1 : ((q % 128 + 128 : Nat) : Int) % 128 = ((q % 128 : Nat) : Int) := by omega
      have e7 : (2 : Int) ^ (7 * (k + 1)) = 128 * 2 ^ (7 * k) := pow7 k
      have e8 : ((q / 128 : Nat) : Int) * (128 * 2 ^ (7 * k)) = (((q / 128) * 128 : Nat) : Int) * 2 ^ (7 * k) := by
        rw [← Int.mul_assoc]; simp
      have hle : (((q / 128) * 128 : Nat) : Int) * 2 ^ (7 * k) ≤ (q : Int) * 2 ^ (7 * k) := Int.mul_le_mul_of_nonneg_right (by omega) (by omega)
      rw [e1, ih (q / 128) (by omega) (k + 1) _ (by omega) (by rw [e7, e8]; omega) (by omega)]
      have e9 : acc + ((q % 128 : Nat) : Int) * 2 ^ (7 * k) + ((q / 128 : Nat) : Int) * 2 ^ (7 * (k + 1)) = acc + (q : Int) * 2 ^ (7 * k) := by
        rw [e7, e8, Int.add_assoc, ← Int.add_mul]
        congr 2; omega
      rw [e9, List.length_cons]
      congr 2; omega

theorem getI_intB (n : Int) (rest : List Int) (h1 : -9223372036854775808 ≤ n) (h2 : n ≤ 9223372036854775807) : getI (intB n ++ rest) = (n, ((intB n).length : Int), 0) := by
  have hz := zig_lt n h1 h2
  rw [getI, intB, getGo_leb rest (zig n) 0 0 (by omega) (by simp; omega) (by omega)]
  simp [unzig_zig]

theorem getN_flat : ∀ (ds : List Int), (∀ z ∈ ds, -9223372036854775808 ≤ z ∧ z ≤ 9223372036854775807) → ∀ rest, getN ds.length ((ds.map intB).flatten ++ rest) = (ds, (((ds.map intB).flatten).length : Int), 0)
  | [], _, rest => rfl
  | d :: r, h, rest => by
    have hd := h d (by simp)
    have ih := getN_flat r (fun z hz => h z (by simp [hz])) rest
    simp only [List.map_cons, List.flatten_cons, List.length_cons, List.append_assoc]
    rw [getN, getI_intB d _ hd.1 hd.2]
    simp only [ne_eq, not_true_eq_false, if_false, Int.toNat_natCast, List.drop_left]
    rw [ih]
    simp

theorem flat_ge : ∀ (ds : List Int), ds.length ≤ ((ds.map intB).flatten).length
  | [] => by simp
  | d :: r => by
    have := flat_ge r
    have := leb_pos (zig d)
    simp only [List.map_cons, List.flatten_cons, List.length_append, List.length_cons]
    have e : (intB d).length = (leb (zig d)).length := rfl
    omega

theorem getInts_intsB (ds : List Int) (h : ∀ z ∈ ds, -9223372036854775808 ≤ z ∧ z ≤ 9223372036854775807) (hl : ds.length ≤ 1000000000000) : getInts (intsB ds) = (ds, ((intsB ds).length : Int), 0) := by
  have h0 := getI_intB ds.length ((ds.map intB).flatten) (by omega) (by omega)
  have hL : lenL (intsB ds) 1 = ((ds.length : Int), ((intB ds.length).length : Int), 0) := by
    rw [lenL, intsB, h0]
    have := flat_ge ds
    simp only [ne_eq, not_true_eq_false, if_false]
    rw [if_neg (by omega), if_neg (by rw [List.length_append, Int.ediv_one]; omega)]
  rw [getInts, hL]
  simp only [ne_eq, not_true_eq_false, if_false, Int.toNat_natCast]
  have e : (intsB ds).drop (intB ds.length).length = (ds.map intB).flatten ++ [] := by rw [intsB, List.drop_left]; simp
  rw [e, getN_flat ds h [], andThen]
  simp [intsB]

theorem unzig_nat (q : Nat) : zig (unzig q) = q := by unfold zig unzig; split <;> split <;> omega

theorem getGo_back : ∀ (l : List Int) (k : Nat) (acc : Int) (x u : Int), (∀ c ∈ l, 0 ≤ c ∧ c < 256) → getGo l k acc = (x, u, 0) →
    ∃ q m : Nat, u = ((k + m : Nat) : Int) ∧ l.take m = leb q ∧ x = unzig (acc + q * 2 ^ (7 * k)) ∧ (0 < k → q ≠ 0)
  | [], k, acc, x, u, _, h => by simp [getGo] at h
  | c :: r, k, acc, x, u, hby, h => by
    obtain ⟨c0, c1⟩ := hby c (by simp)
    rw [getGo] at h
    by_cases g : (k = 9 ∧ 1 < c) ∨ (0 < k ∧ c = 0)
    · rw [if_pos g] at h; simp at h
    · rw [if_neg g] at h
      by_cases g2 : c < 128
      · rw [if_pos g2] at h
        simp only [Prod.mk.injEq, and_true] at h
        obtain ⟨rfl, rfl⟩ := h
        refine ⟨c.toNat, 1, by simp, ?_, ?_, fun hk => by omega⟩
        · rw [leb_small _ (by omega)]; simp; omega
        · rw [show (c.toNat : Int) = c % 128 by omega]
      · rw [if_neg g2] at h
        obtain ⟨q, m, h1, h2, h3, h4⟩ := getGo_back r (k + 1) _ x u (fun d hd => hby d (by simp [hd])) h
        refine ⟨(c - 128).toNat + 128 * q, m + 1, by rw [h1]; omega, ?_, ?_, fun _ => by have := h4 (by omega); omega⟩
        · have := h4 (by omega)
          rw [leb_big _ (by omega), List.take_succ_cons, h2]
          congr 1
          · omega
          · congr 1; omega
        · rw [h3, pow7]
          congr 1
          have e1 : c % 128 = ((c - 128).toNat : Int) := by omega
          rw [e1, Int.add_assoc]
          congr 1
          rw [show (((c - 128).toNat + 128 * q : Nat) : Int) = ((c - 128).toNat : Int) + (q : Int) * 128 by omega, Int.add_mul, Int.mul_assoc]

theorem getI_back (l : List Int) (x u : Int) (hby : ∀ c ∈ l, 0 ≤ c ∧ c < 256) (h : getI l = (x, u, 0)) : l.take u.toNat = intB x := by
  obtain ⟨q, m, h1, h2, h3, _⟩ := getGo_back l 0 0 x u hby h
  rw [h1, h3]
  simp only [Nat.zero_add, Int.toNat_natCast, Nat.mul_zero, Int.pow_zero, Int.mul_one, Int.zero_add, intB, unzig_nat]
  exact h2

theorem getN_back : ∀ (n : Nat) (l ds : List Int) (u : Int), (∀ c ∈ l, 0 ≤ c ∧ c < 256) → getN n l = (ds, u, 0) → l.take u.toNat = (ds.map intB).flatten ∧ ds.length = n ∧ 0 ≤ u ∧ u ≤ l.length
  | 0, l, ds, u, _, h => by
    simp only [getN, Prod.mk.injEq, and_true] at h
    obtain ⟨rfl, rfl⟩ := h
    simp
  | n + 1, l, ds, u, hby, h => by
    rw [getN] at h
    obtain ⟨x, v, e, hr⟩ : ∃ x v e, getI l = (x, v, e) := ⟨_, _, _, rfl⟩
    have ok := getI_ok l hby
    rw [hr] at h ok
    simp only at h ok
    by_cases g : e ≠ 0
    · rw [if_pos g] at h
      simp only [Prod.mk.injEq] at h
      exact absurd h.2.2 g
    · rw [if_neg g] at h
      have g' : e = 0 := by simpa using g
      subst g'
      obtain ⟨o1, o2, _, _⟩ := ok rfl
      obtain ⟨d2, u2, e2, hr2⟩ : ∃ p s t, getN n (l.drop v.toNat) = (p, s, t) := ⟨_, _, _, rfl⟩
      rw [hr2] at h
      simp only at h
      by_cases g2 : e2 ≠ 0
      · rw [if_pos g2] at h
        simp only [Prod.mk.injEq] at h
        exact absurd h.2.2 g2
      · rw [if_neg g2] at h
        have g2' : e2 = 0 := by simpa using g2
        subst g2'
        simp only [Prod.mk.injEq, and_true] at h
        obtain ⟨rfl, rfl⟩ := h
        obtain ⟨i1, i2, i3, i4⟩ := getN_back n (l.drop v.toNat) d2 u2 (fun c hc => hby c (List.mem_of_mem_drop hc)) hr2
        have hb := getI_back l x v hby hr
        rw [List.length_drop] at i4
        refine ⟨?_, by simp [i2], by omega, by omega⟩
        rw [show (v + u2).toNat = v.toNat + u2.toNat by omega, List.take_add, hb, i1]
        simp

theorem getInts_back (bs ds : List Int) (hby : ∀ c ∈ bs, 0 ≤ c ∧ c < 256) (h : getInts bs = (ds, (bs.length : Int), 0)) : intsB ds = bs := by
  rw [getInts] at h
  obtain ⟨n, v, e, hr⟩ : ∃ x v e, lenL bs 1 = (x, v, e) := ⟨_, _, _, rfl⟩
  have ok := lenL_ok bs 1 hby
  rw [hr] at h ok
  simp only at h ok
  by_cases g : e ≠ 0
  · rw [if_pos g] at h
    simp only [Prod.mk.injEq] at h
    exact absurd h.2.2 g
  · rw [if_neg g] at h
    have g' : e = 0 := by simpa using g
    subst g'
    obtain ⟨o1, o2, o3, o4⟩ := ok rfl
    obtain ⟨d2, u2, e2, hr2⟩ : ∃ p s t, getN n.toNat (bs.drop v.toNat) = (p, s, t) := ⟨_, _, _, rfl⟩
    rw [hr2, andThen] at h
    simp only at h
    by_cases g2 : e2 ≠ 0
    · rw [if_pos g2] at h
      simp only [Prod.mk.injEq] at h
      exact absurd h.2.2 g2
    · rw [if_neg g2] at h
      have g2' : e2 = 0 := by simpa using g2
      subst g2'
      simp only [Prod.mk.injEq, and_true, List.nil_append] at h
      obtain ⟨rfl, hu⟩ := h
      obtain ⟨i1, i2, i3, i4⟩ := getN_back n.toNat (bs.drop v.toNat) d2 u2 (fun c hc => hby c (List.mem_of_mem_drop hc)) hr2
      rw [List.length_drop] at i4
      -- the length itself
      have hI : getI bs = (n, v, 0) := by
        have hr' := hr
        rw [lenL] at hr'
        by_cases k1 : (getI bs).2.2 ≠ 0
        · rw [if_pos k1] at hr'
          simp only [Prod.mk.injEq] at hr'
          exact absurd hr'.2.2 k1
        · rw [if_neg k1] at hr'
          by_cases k2 : (getI bs).1 < 0
          · rw [if_pos k2] at hr'; simp at hr'
          · rw [if_neg k2] at hr'
            by_cases k3 : (bs.length - (getI bs).2.1) / 1 < (getI bs).1
            · rw [if_pos k3] at hr'; simp at hr'
            · rw [if_neg k3] at hr'
              simp only [Prod.mk.injEq, and_true] at hr'
              have k1' : (getI bs).2.2 = 0 := by simpa using k1
              rw [← hr'.1, ← hr'.2, ← k1']
      have hb := getI_back bs n v hby hI
      rw [intsB, i2, show ((n.toNat : Nat) : Int) = n by omega, ← hb, ← i1, show u2.toNat = bs.length - v.toNat by omega, List.take_of_length_le (i := bs.length - v.toNat) (by simp), List.take_append_drop]

theorem stepB_diff : ∀ (zs : List Int) (l : Int), ascB l zs = true → -1 ≤ l → ∀ d ∈ diffL zs (if l = -1 then 0 else l), stepB d = true
  | [], l, _, _, d, h => by simp [diffL] at h
  | z :: r, l, h, h0, d, hd => by
    simp only [ascB, Bool.and_eq_true, decide_eq_true_eq] at h
    rw [diffL] at hd
    rcases List.mem_cons.1 hd with rfl | hd
    · simp [stepB]; split <;> omega
    · have := stepB_diff r z h.2 (by omega) d
      rw [if_neg (by omega)] at this
      exact this hd

theorem dec_enc {zs : List Int} (hv : validB zs = true) : decL (intsB (diffL zs 0)) = (zs, 0) := by
  have hg := good_of_valid hv
  have hm : ∀ z ∈ zs, 0 ≤ z ∧ z ≤ 4096 := fun z hz => by
    obtain ⟨k, hk⟩ := List.getElem?_of_mem hz
    exact hg.rng k z hk
  have hf := diffL_fit zs 0 hm (by omega) (by omega)
  have h := getInts_intsB (diffL zs 0) (fun z hz => by have := hf z hz; omega) (by rw [diffL_length]; have := hg.len; omega)
  rw [decL, h]
  simp only [ne_eq, not_true_eq_false, or_self, if_false]
  have hok : decOk (diffL zs 0) = true := by
    rw [decOk, sum_diff, hv, Bool.and_true, List.all_eq_true]
    intro d hd
    have hv' := hv
    simp only [validB, Bool.and_eq_true] at hv'
    have := stepB_diff zs (-1) hv'.1 (by omega) d
    rw [if_pos rfl] at this
    exact this hd
  rw [if_pos hok, sum_diff]

theorem enc_dec {bs ys : List Int} (hby : ∀ c ∈ bs, 0 ≤ c ∧ c < 256) (h : decL bs = (ys, 0)) : intsB (diffL ys 0) = bs ∧ validB ys = true := by
  rw [decL] at h
  by_cases g : (getInts bs).2.2 ≠ 0 ∨ (getInts bs).2.1 ≠ bs.length
  · rw [if_pos g] at h; simp at h
  · rw [if_neg g] at h
    by_cases g2 : decOk (getInts bs).1 = true
    · rw [if_pos g2] at h
      simp only [Prod.mk.injEq, and_true] at h
      subst h
      rw [diff_sum]
      refine ⟨getInts_back bs _ hby ?_, ?_⟩
      · have h1 : (getInts bs).2.2 = 0 := by omega
        have h2 : (getInts bs).2.1 = bs.length := by omega
        rw [← h1, ← h2]
      · rw [decOk, Bool.and_eq_true] at g2; exact g2.2
    · rw [if_neg g2] at h; simp at h

end Go.Proofs.YtilcpcpmkklobaaDoor

/- Plain: byte strings, encoded and decoded. -/
namespace Go.Proofs.YtilcpcpmkklobaaDoor
set_option linter.unusedSimpArgs false
set_option linter.unusedVariables false
set_option linter.unnecessarySimpa false

/-- The bytes of a string. -/
def bytesL (s : ByteArray) : List Int := s.data.toList.map fun b => (b.toNat : Int)
/-- The string of a row of bytes. -/
def strOf (bs : List Int) : ByteArray := bs.foldl (fun r n => r.push (UInt8.ofNat n.toNat)) ByteArray.empty

theorem bytesL_len (s : ByteArray) : (bytesL s).length = s.size := by simp [bytesL]
theorem bytesL_byte (s : ByteArray) : ∀ c ∈ bytesL s, 0 ≤ c ∧ c < 256 := by
  intro c hc
  obtain ⟨b, _, rfl⟩ := List.mem_map.1 hc
  have := b.toNat_lt
  omega

theorem foldl_push : ∀ (bs : List Int) (r : ByteArray), (bs.foldl (fun r n => r.push (UInt8.ofNat n.toNat)) r).data.toList = r.data.toList ++ bs.map (fun n => UInt8.ofNat n.toNat)
  | [], r => by simp
  | b :: bs, r => by
    rw [List.foldl_cons, foldl_push bs]
    simp [ByteArray.push]
theorem strOf_data (bs : List Int) : (strOf bs).data.toList = bs.map (fun n => UInt8.ofNat n.toNat) := by
  rw [strOf, foldl_push]; rfl
theorem strOf_size (bs : List Int) : (strOf bs).size = bs.length := by
  have := congrArg List.length (strOf_data bs)
  simpa using this
theorem bytesL_strOf (bs : List Int) (h : ∀ c ∈ bs, 0 ≤ c ∧ c < 256) : bytesL (strOf bs) = bs := by
  rw [bytesL, strOf_data, List.map_map]
  have : ∀ c ∈ bs, ((fun b : UInt8 => (b.toNat : Int)) ∘ fun n : Int => UInt8.ofNat n.toNat) c = c := by
    intro c hc
    have := h c hc
    simp only [Function.comp, UInt8.toNat_ofNat']
    omega
  rw [List.map_congr_left this, List.map_id']
theorem ba_ext {a b : ByteArray} (h : a.data.toList = b.data.toList) : a = b := by
  cases a with | mk x => cases b with | mk y => cases x; cases y; simp at h; subst h; rfl
theorem strOf_bytesL (s : ByteArray) : strOf (bytesL s) = s := by
  apply ba_ext
  rw [strOf_data, bytesL, List.map_map]
  have : ∀ b ∈ s.data.toList, ((fun n : Int => UInt8.ofNat n.toNat) ∘ fun b : UInt8 => (b.toNat : Int)) b = b := by
    intro b _
    simp
  rw [List.map_congr_left this, List.map_id']
theorem strOf_inj {a b : List Int} (ha : ∀ c ∈ a, 0 ≤ c ∧ c < 256) (hb : ∀ c ∈ b, 0 ≤ c ∧ c < 256) (h : strOf a = strOf b) : a = b := by
  rw [← bytesL_strOf a ha, ← bytesL_strOf b hb, h]

/-- The encoding of a string, of strings. -/
def strB (s : ByteArray) : List Int := intB s.size ++ bytesL s
def strsB (l : List ByteArray) : List Int := intB l.length ++ (l.map strB).flatten

/-- Sizes of strings that the walks meet. -/
def SmallStrs (l : List ByteArray) : Prop := ∀ s ∈ l, s.size ≤ 1000000

theorem strB_len (s : ByteArray) (h : s.size ≤ 1000000) : 1 ≤ (strB s).length ∧ (strB s).length ≤ 1000010 := by
  have := intB_len s.size (by omega) (by omega)
  rw [strB, List.length_append, bytesL_len]; omega
theorem strs_len (l : List ByteArray) (h : SmallStrs l) : ((l.map strB).flatten).length ≤ 1000010 * l.length := by
  induction l with
  | nil => simp
  | cons a r ih =>
    have h1 := strB_len a (h a (by simp))
    have h2 := ih (fun z hz => h z (by simp [hz]))
    simp only [List.map_cons, List.flatten_cons, List.length_append, List.length_cons]
    omega
theorem strs_take (l : List ByteArray) (k : Nat) (a : ByteArray) (h : l[k]? = some a) : ((l.take (k+1)).map strB).flatten = ((l.take k).map strB).flatten ++ strB a := by
  rw [List.take_add_one, h]; simp

/-- A string at the beginning of bytes: it, its bytes, the error. -/
def getS (bs : List Int) : ByteArray × Int × Int :=
  if (lenL bs 1).2.2 ≠ 0 then (ByteArray.empty, 0, (lenL bs 1).2.2)
  else (strOf ((bs.drop (lenL bs 1).2.1.toNat).take (lenL bs 1).1.toNat), (lenL bs 1).2.1 + (lenL bs 1).1, 0)

theorem getS_ok (bs : List Int) (hby : ∀ c ∈ bs, 0 ≤ c ∧ c < 256) (h : (getS bs).2.2 = 0) : 1 ≤ (getS bs).2.1 ∧ (getS bs).2.1 ≤ bs.length := by
  unfold getS at *
  have ok := lenL_ok bs 1 hby
  split at h
  · rename_i g; exact absurd h g
  · rename_i g
    rw [if_neg g]
    have := ok (by simpa using g)
    rw [Int.ediv_one] at this
    simp only
    omega

/-- n strings, from the beginning of bytes on. -/
def getNS : Nat → List Int → List ByteArray × Int × Int
  | 0, _ => ([], 0, 0)
  | n + 1, bs =>
    if (getS bs).2.2 ≠ 0 then ([], 0, (getS bs).2.2)
    else if (getNS n (bs.drop (getS bs).2.1.toNat)).2.2 ≠ 0 then ([], 0, (getNS n (bs.drop (getS bs).2.1.toNat)).2.2)
    else ((getS bs).1 :: (getNS n (bs.drop (getS bs).2.1.toNat)).1, (getS bs).2.1 + (getNS n (bs.drop (getS bs).2.1.toNat)).2.1, 0)

def andThenS (out : List ByteArray) (at_ : Int) (s : List ByteArray × Int × Int) : List ByteArray × Int × Int :=
  if s.2.2 ≠ 0 then ([], 0, s.2.2) else (out ++ s.1, at_ + s.2.1, 0)

def getStrs (bs : List Int) : List ByteArray × Int × Int :=
  if (lenL bs 1).2.2 ≠ 0 then ([], 0, (lenL bs 1).2.2) else andThenS [] (lenL bs 1).2.1 (getNS (lenL bs 1).1.toNat (bs.drop (lenL bs 1).2.1.toNat))

theorem andThenS_err (out : List ByteArray) (at_ : Int) (n : Nat) (bs : List Int) (r : ByteArray × Int × Int) (hr : getS bs = r) (h : r.2.2 ≠ 0) : andThenS out at_ (getNS (n + 1) bs) = ([], 0, r.2.2) := by
  subst hr
  simp [andThenS, getNS, h]
theorem andThenS_step (out : List ByteArray) (at_ : Int) (n : Nat) (bs : List Int) (r : ByteArray × Int × Int) (hr : getS bs = r) (h : r.2.2 = 0) :
    andThenS out at_ (getNS (n + 1) bs) = andThenS (out ++ [r.1]) (at_ + r.2.1) (getNS n (bs.drop r.2.1.toNat)) := by
  subst hr
  by_cases g : (getNS n (bs.drop (getS bs).2.1.toNat)).2.2 = 0
  · simp [andThenS, getNS, h, g]; omega
  · simp [andThenS, getNS, h, g]
theorem andThenS_done (out : List ByteArray) (at_ : Int) (bs : List Int) : andThenS out at_ (getNS 0 bs) = (out, at_, 0) := by simp [andThenS, getNS]

/- What is encoded is decoded. -/
theorem lenL_at (n : Nat) (rest : List Int) (hn : n ≤ 1000000000000) (h : n ≤ rest.length) : lenL (intB n ++ rest) 1 = ((n : Int), ((intB n).length : Int), 0) := by
  have h0 := getI_intB n rest (by omega) (by omega)
  rw [lenL, h0]
  simp only [ne_eq, not_true_eq_false, if_false]
  rw [if_neg (by omega), if_neg (by rw [List.length_append, Int.ediv_one]; omega)]

theorem getInts_rest (ds rest : List Int) (h : ∀ z ∈ ds, -9223372036854775808 ≤ z ∧ z ≤ 9223372036854775807) (hl : ds.length ≤ 1000000000000) : getInts (intsB ds ++ rest) = (ds, ((intsB ds).length : Int), 0) := by
  have hg := flat_ge ds
  have hL : lenL (intsB ds ++ rest) 1 = ((ds.length : Int), ((intB ds.length).length : Int), 0) := by
    rw [intsB, List.append_assoc]; exact lenL_at _ _ hl (by rw [List.length_append]; omega)
  rw [getInts, hL]
  simp only [ne_eq, not_true_eq_false, if_false, Int.toNat_natCast]
  have e : (intsB ds ++ rest).drop (intB ds.length).length = (ds.map intB).flatten ++ rest := by rw [intsB, List.append_assoc, List.drop_left]
  rw [e, getN_flat ds h rest, andThen]
  simp [intsB]

theorem getS_strB (s : ByteArray) (rest : List Int) (h : s.size ≤ 1000000) : getS (strB s ++ rest) = (s, ((strB s).length : Int), 0) := by
  have hL : lenL (strB s ++ rest) 1 = ((s.size : Int), ((intB s.size).length : Int), 0) := by
    rw [strB, List.append_assoc]; exact lenL_at _ _ (by omega) (by rw [List.length_append, bytesL_len]; omega)
  rw [getS, hL]
  simp only [ne_eq, not_true_eq_false, if_false, Int.toNat_natCast]
  have e : ((strB s ++ rest).drop (intB s.size).length).take s.size = bytesL s := by
    rw [strB, List.append_assoc, List.drop_left, List.take_left' (bytesL_len s)]
  rw [e, strOf_bytesL]
  simp [strB, bytesL_len]

theorem getNS_flat : ∀ (l : List ByteArray), SmallStrs l → ∀ rest, getNS l.length ((l.map strB).flatten ++ rest) = (l, (((l.map strB).flatten).length : Int), 0)
  | [], _, rest => rfl
  | d :: r, h, rest => by
    have hd := h d (by simp)
    have ih := getNS_flat r (fun z hz => h z (by simp [hz])) rest
    simp only [List.map_cons, List.flatten_cons, List.length_cons, List.append_assoc]
    rw [getNS, getS_strB d _ hd]
    simp only [ne_eq, not_true_eq_false, if_false, Int.toNat_natCast, List.drop_left]
    rw [ih]
    simp

theorem strs_ge (l : List ByteArray) (h : SmallStrs l) : l.length ≤ ((l.map strB).flatten).length := by
  induction l with
  | nil => simp
  | cons a r ih =>
    have h1 := strB_len a (h a (by simp))
    have h2 := ih (fun z hz => h z (by simp [hz]))
    simp only [List.map_cons, List.flatten_cons, List.length_append, List.length_cons]
    omega

theorem getStrs_rest (l : List ByteArray) (rest : List Int) (h : SmallStrs l) (hl : l.length ≤ 1000000000000) : getStrs (strsB l ++ rest) = (l, ((strsB l).length : Int), 0) := by
  have hg := strs_ge l h
  have hL : lenL (strsB l ++ rest) 1 = ((l.length : Int), ((intB l.length).length : Int), 0) := by
    rw [strsB, List.append_assoc]; exact lenL_at _ _ hl (by rw [List.length_append]; omega)
  rw [getStrs, hL]
  simp only [ne_eq, not_true_eq_false, if_false, Int.toNat_natCast]
  have e : (strsB l ++ rest).drop (intB l.length).length = (l.map strB).flatten ++ rest := by rw [strsB, List.append_assoc, List.drop_left]
  rw [e, getNS_flat l h rest, andThenS]
  simp [strsB]

/- What is decoded is encoded. -/
theorem lenL_back (bs : List Int) (n v : Int) (hby : ∀ c ∈ bs, 0 ≤ c ∧ c < 256) (h : lenL bs 1 = (n, v, 0)) : bs.take v.toNat = intB n ∧ 0 ≤ n ∧ 1 ≤ v ∧ v ≤ bs.length ∧ n ≤ bs.length - v := by
  have ok := lenL_ok bs 1 hby
  rw [h] at ok
  obtain ⟨o1, o2, o3, o4⟩ := ok rfl
  rw [Int.ediv_one] at o4
  have hI : getI bs = (n, v, 0) := by
    rw [lenL] at h
    by_cases k1 : (getI bs).2.2 ≠ 0
    · rw [if_pos k1] at h
      simp only [Prod.mk.injEq] at h
      exact absurd h.2.2 k1
    · rw [if_neg k1] at h
      by_cases k2 : (getI bs).1 < 0
      · rw [if_pos k2] at h; simp at h
      · rw [if_neg k2] at h
        by_cases k3 : (bs.length - (getI bs).2.1) / 1 < (getI bs).1
        · rw [if_pos k3] at h; simp at h
        · rw [if_neg k3] at h
          simp only [Prod.mk.injEq, and_true] at h
          have k1' : (getI bs).2.2 = 0 := by simpa using k1
          rw [← h.1, ← h.2, ← k1']
  exact ⟨getI_back bs n v hby hI, o1, o2, o3, o4⟩

theorem getInts_take (bs ds : List Int) (u : Int) (hby : ∀ c ∈ bs, 0 ≤ c ∧ c < 256) (h : getInts bs = (ds, u, 0)) : bs.take u.toNat = intsB ds ∧ 0 ≤ u ∧ u ≤ bs.length := by
  rw [getInts] at h
  obtain ⟨n, v, e, hr⟩ : ∃ x v e, lenL bs 1 = (x, v, e) := ⟨_, _, _, rfl⟩
  rw [hr] at h
  simp only at h
  by_cases g : e ≠ 0
  · rw [if_pos g] at h
    simp only [Prod.mk.injEq] at h
    exact absurd h.2.2 g
  · rw [if_neg g] at h
    have g' : e = 0 := by simpa using g
    subst g'
    obtain ⟨hb, o1, o2, o3, o4⟩ := lenL_back bs n v hby hr
    obtain ⟨d2, u2, e2, hr2⟩ : ∃ p s t, getN n.toNat (bs.drop v.toNat) = (p, s, t) := ⟨_, _, _, rfl⟩
    rw [hr2, andThen] at h
    simp only at h
    by_cases g2 : e2 ≠ 0
    · rw [if_pos g2] at h
      simp only [Prod.mk.injEq] at h
      exact absurd h.2.2 g2
    · rw [if_neg g2] at h
      have g2' : e2 = 0 := by simpa using g2
      subst g2'
      simp only [Prod.mk.injEq, and_true, List.nil_append] at h
      obtain ⟨rfl, rfl⟩ := h
      obtain ⟨i1, i2, i3, i4⟩ := getN_back n.toNat (bs.drop v.toNat) d2 u2 (fun c hc => hby c (List.mem_of_mem_drop hc)) hr2
      rw [List.length_drop] at i4
      refine ⟨?_, by omega, by omega⟩
      rw [intsB, i2, show ((n.toNat : Nat) : Int) = n by omega, ← hb, ← i1, show (v + u2).toNat = v.toNat + u2.toNat by omega, List.take_add]

theorem getS_back (bs : List Int) (s : ByteArray) (u : Int) (hby : ∀ c ∈ bs, 0 ≤ c ∧ c < 256) (h : getS bs = (s, u, 0)) : bs.take u.toNat = strB s ∧ 0 ≤ u ∧ u ≤ bs.length := by
  rw [getS] at h
  obtain ⟨n, v, e, hr⟩ : ∃ x v e, lenL bs 1 = (x, v, e) := ⟨_, _, _, rfl⟩
  rw [hr] at h
  simp only at h
  by_cases g : e ≠ 0
  · rw [if_pos g] at h
    simp only [Prod.mk.injEq] at h
    exact absurd h.2.2 g
  · rw [if_neg g] at h
    have g' : e = 0 := by simpa using g
    subst g'
    obtain ⟨hb, o1, o2, o3, o4⟩ := lenL_back bs n v hby hr
    simp only [Prod.mk.injEq, and_true] at h
    obtain ⟨rfl, rfl⟩ := h
    refine ⟨?_, by omega, by omega⟩
    have hl : ((bs.drop v.toNat).take n.toNat).length = n.toNat := by rw [List.length_take, List.length_drop]; omega
    rw [strB, strOf_size, hl, show ((n.toNat : Nat) : Int) = n by omega, ← hb, bytesL_strOf _ (fun c hc => hby c (List.mem_of_mem_drop (List.mem_of_mem_take hc))), show (v + n).toNat = v.toNat + n.toNat by omega, List.take_add]

theorem getNS_back : ∀ (n : Nat) (l : List Int) (ds : List ByteArray) (u : Int), (∀ c ∈ l, 0 ≤ c ∧ c < 256) → getNS n l = (ds, u, 0) → l.take u.toNat = (ds.map strB).flatten ∧ ds.length = n ∧ 0 ≤ u ∧ u ≤ l.length
  | 0, l, ds, u, _, h => by
    simp only [getNS, Prod.mk.injEq, and_true] at h
    obtain ⟨rfl, rfl⟩ := h
    simp
  | n + 1, l, ds, u, hby, h => by
    rw [getNS] at h
    obtain ⟨x, v, e, hr⟩ : ∃ x v e, getS l = (x, v, e) := ⟨_, _, _, rfl⟩
    rw [hr] at h
    simp only at h
    by_cases g : e ≠ 0
    · rw [if_pos g] at h
      simp only [Prod.mk.injEq] at h
      exact absurd h.2.2 g
    · rw [if_neg g] at h
      have g' : e = 0 := by simpa using g
      subst g'
      obtain ⟨hb, o1, o2⟩ := getS_back l x v hby hr
      obtain ⟨d2, u2, e2, hr2⟩ : ∃ p s t, getNS n (l.drop v.toNat) = (p, s, t) := ⟨_, _, _, rfl⟩
      rw [hr2] at h
      simp only at h
      by_cases g2 : e2 ≠ 0
      · rw [if_pos g2] at h
        simp only [Prod.mk.injEq] at h
        exact absurd h.2.2 g2
      · rw [if_neg g2] at h
        have g2' : e2 = 0 := by simpa using g2
        subst g2'
        simp only [Prod.mk.injEq, and_true] at h
        obtain ⟨rfl, rfl⟩ := h
        obtain ⟨i1, i2, i3, i4⟩ := getNS_back n (l.drop v.toNat) d2 u2 (fun c hc => hby c (List.mem_of_mem_drop hc)) hr2
        rw [List.length_drop] at i4
        refine ⟨?_, by simp [i2], by omega, by omega⟩
        rw [show (v + u2).toNat = v.toNat + u2.toNat by omega, List.take_add, hb, i1]
        simp

theorem getStrs_take (bs : List Int) (ds : List ByteArray) (u : Int) (hby : ∀ c ∈ bs, 0 ≤ c ∧ c < 256) (h : getStrs bs = (ds, u, 0)) : bs.take u.toNat = strsB ds ∧ 0 ≤ u ∧ u ≤ bs.length := by
  rw [getStrs] at h
  obtain ⟨n, v, e, hr⟩ : ∃ x v e, lenL bs 1 = (x, v, e) := ⟨_, _, _, rfl⟩
  rw [hr] at h
  simp only at h
  by_cases g : e ≠ 0
  · rw [if_pos g] at h
    simp only [Prod.mk.injEq] at h
    exact absurd h.2.2 g
  · rw [if_neg g] at h
    have g' : e = 0 := by simpa using g
    subst g'
    obtain ⟨hb, o1, o2, o3, o4⟩ := lenL_back bs n v hby hr
    obtain ⟨d2, u2, e2, hr2⟩ : ∃ p s t, getNS n.toNat (bs.drop v.toNat) = (p, s, t) := ⟨_, _, _, rfl⟩
    rw [hr2, andThenS] at h
    simp only at h
    by_cases g2 : e2 ≠ 0
    · rw [if_pos g2] at h
      simp only [Prod.mk.injEq] at h
      exact absurd h.2.2 g2
    · rw [if_neg g2] at h
      have g2' : e2 = 0 := by simpa using g2
      subst g2'
      simp only [Prod.mk.injEq, and_true, List.nil_append] at h
      obtain ⟨rfl, rfl⟩ := h
      obtain ⟨i1, i2, i3, i4⟩ := getNS_back n.toNat (bs.drop v.toNat) d2 u2 (fun c hc => hby c (List.mem_of_mem_drop hc)) hr2
      rw [List.length_drop] at i4
      refine ⟨?_, by omega, by omega⟩
      rw [strsB, i2, show ((n.toNat : Nat) : Int) = n by omega, ← hb, ← i1, show (v + u2).toNat = v.toNat + u2.toNat by omega, List.take_add]

/-- The numbers and strings that are decoded are not longer than the bytes. -/
theorem getInts_short (bs ds : List Int) (u : Int) (hby : ∀ c ∈ bs, 0 ≤ c ∧ c < 256) (h : getInts bs = (ds, u, 0)) : ds.length ≤ bs.length := by
  obtain ⟨h1, h2, h3⟩ := getInts_take bs ds u hby h
  have := congrArg List.length h1
  rw [intsB, List.length_append, List.length_take] at this
  have := flat_ge ds
  omega
theorem strB_pos (s : ByteArray) : 1 ≤ (strB s).length := by
  have : 1 ≤ (intB s.size).length := leb_pos _
  rw [strB, List.length_append]; omega
theorem strs_all (l : List ByteArray) : l.length ≤ ((l.map strB).flatten).length ∧ ∀ s ∈ l, s.size ≤ ((l.map strB).flatten).length := by
  induction l with
  | nil => simp
  | cons a r ih =>
    have h1 := strB_pos a
    have h2 : (strB a).length = (intB a.size).length + a.size := by rw [strB, List.length_append, bytesL_len]
    simp only [List.map_cons, List.flatten_cons, List.length_append, List.length_cons, List.mem_cons]
    refine ⟨by omega, fun s hs => ?_⟩
    rcases hs with rfl | hs
    · omega
    · have := ih.2 s hs; omega
theorem getStrs_len (bs : List Int) (ds : List ByteArray) (u : Int) (hby : ∀ c ∈ bs, 0 ≤ c ∧ c < 256) (h : getStrs bs = (ds, u, 0)) : ds.length ≤ bs.length ∧ ∀ s ∈ ds, s.size ≤ bs.length := by
  obtain ⟨h1, h2, h3⟩ := getStrs_take bs ds u hby h
  have := congrArg List.length h1
  rw [strsB, List.length_append, List.length_take] at this
  obtain ⟨a, b⟩ := strs_all ds
  exact ⟨by omega, fun s hs => by have := b s hs; omega⟩

end Go.Proofs.YtilcpcpmkklobaaDoor

/- The hash: a message that grows. -/
namespace Go.Proofs.YtilcpcpmkklobaaDoor
set_option linter.unusedSimpArgs false
set_option linter.unusedVariables false
set_option linter.unnecessarySimpa false
open Go.RowKit

structure Strm where
  st : H8
  blk : List Int
  n : Nat
def pS (s : Strm) : List PV := pH s.st ++ (s.blk.map pbyte ++ [pu64 s.n])
theorem low_pS (s : Strm) : ∀ c ∈ pS s, Low c := by
  intro c hc
  rcases List.mem_append.1 hc with h | h
  · exact low_pH _ c h
  · rcases List.mem_append.1 h with h | h
    · exact low_map (fun _ => Low.val _) _ c h
    · simp at h; subst h; exact .val _
theorem bare_pS (s : Strm) : (pS s).map PV.bare = pS s := by
  have : (s.blk.map pbyte).map PV.bare = s.blk.map pbyte := bare_map (fun _ => rfl) _
  rw [pS, List.map_append, List.map_append, this]; rfl
theorem one_pS (s : Strm) : (pS s).all PV.one = true := by
  have : (s.blk.map pbyte).all PV.one = true := one_map (fun _ => rfl) _
  rw [pS, List.all_append, List.all_append, this]; rfl
theorem len_pS {s : Strm} (h : s.blk.length = 64) : (pS s).length = 73 := by simp [pS, pH, h]
def splI (l : List Int) (at_ : Nat) (x : List Int) : List Int := l.take at_ ++ x ++ l.drop (at_ + x.length)
/-- A round. -/
def Strm.put (s : Strm) (x : List Int) : Strm := ⟨s.st, splI s.blk (s.n % 64) x, s.n + x.length⟩
def Strm.full (s : Strm) (ks : List Int) : Strm := ⟨cmpH ks s.st s.blk, s.blk, s.n⟩
def Strm.turn (ks : List Int) (s : Strm) (x : List Int) : Strm := if s.n % 64 + x.length = 64 then (s.put x).full ks else s.put x
def addS (ks : List Int) (s : Strm) (bs : List Int) : Strm :=
  if h : bs = [] then s else addS ks (s.turn ks (bs.take (64 - s.n % 64))) (bs.drop (64 - s.n % 64))
termination_by bs.length
decreasing_by
  rw [List.length_drop]
  have : bs.length ≠ 0 := fun e => h (List.eq_nil_of_length_eq_zero e)
  have := Nat.mod_lt s.n (show 0 < 64 by omega)
  omega
theorem addS_nil (ks : List Int) (s : Strm) : addS ks s [] = s := by rw [addS]; simp
theorem addS_cons (ks : List Int) (s : Strm) {bs : List Int} (h : bs ≠ []) : addS ks s bs = addS ks (s.turn ks (bs.take (64 - s.n % 64))) (bs.drop (64 - s.n % 64)) := by rw [addS, dif_neg h]
theorem splI_len {l x : List Int} {a : Nat} (h : a + x.length ≤ l.length) : (splI l a x).length = l.length := by
  simp only [splI, List.length_append, List.length_take, List.length_drop]; omega
theorem turn_blk (ks : List Int) (s : Strm) (x : List Int) : (s.turn ks x).blk = splI s.blk (s.n % 64) x := by
  unfold Strm.turn; split <;> rfl
theorem turn_n (ks : List Int) (s : Strm) (x : List Int) : (s.turn ks x).n = s.n + x.length := by
  unfold Strm.turn; split <;> rfl

theorem flat_pH (s : H8) : ∀ c ∈ pH s, Flat c := by intro c hc; simp [pH] at hc; rcases hc with rfl | rfl | rfl | rfl | rfl | rfl | rfl | rfl <;> exact .val _
theorem pS_n {s : Strm} (h : s.blk.length = 64) : (pS s)[72]? = some (pu64 s.n) := by
  rw [pS, List.getElem?_append_right (by simp [pH]), List.getElem?_append_right (by simp [pH, h])]
  simp [pH, h]
theorem pS_setN {s : Strm} (h : s.blk.length = 64) (m : Nat) : splice (pS s) (0 + 72) [pu64 m] = pS ⟨s.st, s.blk, m⟩ := by
  have h1 : (pS s).take 72 = pH s.st ++ s.blk.map pbyte := by
    rw [pS, ← List.append_assoc, List.take_left' (by simp [pH, h])]
  have h2 : (pS s).drop 73 = [] := List.drop_eq_nil_of_le (by rw [len_pS h]; omega)
  show (pS s).take 72 ++ [pu64 m] ++ (pS s).drop 73 = _
  rw [h1, h2, List.append_nil, pS, List.append_assoc]
theorem pS_setH {s : Strm} (v : H8) : splice (pS s) 0 (pH v) = pS ⟨v, s.blk, s.n⟩ := by
  show (pS s).take 0 ++ pH v ++ (pS s).drop 8 = _
  rfl
theorem pS_setB {s : Strm} (h : s.blk.length = 64) {a : Nat} {X : List Int} (hx : a + X.length ≤ 64) : splice (pS s) (8 + a) (X.map pbyte) = pS ⟨s.st, splI s.blk a X, s.n⟩ := by
  have hp : (pH s.st).length = 8 := rfl
  unfold splice
  have h1 : (pS s).take (8 + a) = pH s.st ++ (s.blk.take a).map pbyte := by
    rw [pS, ← hp, List.take_append, List.take_append_of_le_length (by simp; omega), List.take_of_length_le (by omega), Nat.add_sub_cancel_left, List.map_take]
  have h2 : (pS s).drop (8 + a + (X.map pbyte).length) = (s.blk.drop (a + X.length)).map pbyte ++ [pu64 s.n] := by
    rw [pS, List.length_map, Nat.add_assoc, ← hp, List.drop_append, List.drop_append_of_le_length (by simp; omega), List.drop_eq_nil_of_le (by omega), Nat.add_sub_cancel_left, List.nil_append, List.map_drop]
  rw [h1, h2, pS, splI]
  simp
theorem strOf_cells {M : List Int} (h : ∀ c ∈ M, 0 ≤ c ∧ c < 256) : (strOf M).data.toList.map (fun x => PV.val (.int .u8 (x.toNat : Int))) = M.map pbyte := by
  have h1 := bytesL_strOf M h
  conv => rhs; rw [← h1]
  rw [bytesL, List.map_map]; rfl
theorem heqB_iff {a b : ByteArray} : (a.toList == b.toList) = true ↔ a = b := by
  rw [ByteArray.toList_eq, ByteArray.toList_eq, beq_iff_eq]
  exact ⟨fun h => ba_ext h, fun h => h ▸ rfl⟩
theorem htoList_ne {a b : ByteArray} (h : a ≠ b) : (a.toList == b.toList) = false := by
  cases hh : (a.toList == b.toList) with
  | false => rfl
  | true => exact absurd (heqB_iff.1 hh) h
def zeroS : Strm := ⟨⟨0, 0, 0, 0, 0, 0, 0, 0⟩, List.replicate 64 0, 0⟩
theorem strOf_drop {bs : List Int} (h : ∀ c ∈ bs, 0 ≤ c ∧ c < 256) (k : Nat) : (strOf bs).extract k (strOf bs).size = strOf (bs.drop k) := by
  apply ByteArray.ext
  apply Array.ext'
  rw [strOf_data, ByteArray.data_extract, Array.toList_extract, strOf_data, strOf_size, List.extract_eq_take_drop, List.map_drop, List.take_of_length_le (by simp)]

set_option maxRecDepth 10000 in
set_option maxHeartbeats 2000000 in
theorem pw_add (s : Strm) (bs : List Int) (hs : s.blk.length = 64) (hb : ∀ c ∈ bs, 0 ≤ c ∧ c < 256) (hn : s.n + bs.length ≤ 1000000000000000) : PCalls Tryd.prog 48 [.agg (pS s), pstr (strOf bs)] (· = .agg (pS (addS glob0 s bs))) := by
  refine pcalls_of_pw typeTab_ok Tryd.func48 rfl (by kernel_rfl) (by intro p hp; simp at hp; rcases hp with rfl | rfl; exact .agg _ (low_pS s); exact lw) (by simp [pstr, PV.ownB]) (Nat.le_of_ble_eq_true rfl) ?_
  refine wk ?_
  refine PWops.boxA rfl rfl rfl rfl rfl (one_pS s) (bare_pS s) ?_
  refine wk ?_
  refine PW.loop (fun x : Strm × List Int => ((((bot.setb 0 (pS x.1)).put 2 (.ptr 0 0)).setb 1 (pS zeroS)).put 4 (.ptr 1 0)).put 1 (pstr (strOf x.2))) (fun x => x.1.blk.length = 64 ∧ (∀ c ∈ x.2, 0 ≤ c ∧ c < 256) ∧ x.1.n + x.2.length ≤ 1000000000000000 ∧ addS glob0 x.1 x.2 = addS glob0 s bs) (fun x => x.2.length) (s, bs) ⟨hs, hb, hn, rfl⟩ ?_ ?_
  · dsimp only
    have l1 := low_pS s
    have l2 := low_pS zeroS
    exact sb
  · rintro ⟨u, M⟩ ⟨hu, hM, hun, he⟩
    simp only at hu hM hun he
    simp only
    have hlt := Nat.mod_lt u.n (show 0 < 64 by omega)
    by_cases h0 : M = []
    · have hne : (!((strOf M).toList == ByteArray.empty.toList)) = false := by subst h0; rw [show strOf [] = ByteArray.empty from rfl]; simp
      refine wk ?_
      refine PWops.ldAll rfl rfl rfl rfl rfl rfl rfl (len_pS hu) (bare_pS u) ?_
      refine PWops.stAll rfl rfl rfl rfl rfl rfl rfl rfl rfl (len_pS hu) (len_pS (s := zeroS) rfl) (one_pS u) (bare_pS u) ?_
      refine wk ?_
      refine ⟨_, presult1 (pres_cell rfl rfl rfl (len_pS hu) (bare_pS u)), .agg _ (low_pS u), ?_⟩
      rw [← he, h0, addS_nil]
    · have hne : (!((strOf M).toList == ByteArray.empty.toList)) = true := by
        have h1 : strOf M ≠ ByteArray.empty := by
          intro h; apply h0
          have h2 : (strOf M).size = 0 := by rw [h]; rfl
          rw [strOf_size] at h2; exact List.eq_nil_of_length_eq_zero h2
        rw [htoList_ne h1]; rfl
      have hnn : (pS u)[72]? = some (pu64 u.n) := by
        rw [pS, List.getElem?_append_right (by simp [pH]), List.getElem?_append_right (by simp [pH, hu])]
        simp [pH, hu]
      refine wk ?_
      refine PWops.ldB rfl rfl rfl rfl rfl rfl rfl rfl hnn rfl ?_
      refine PWops.remU (b := 64) rfl rfl rfl rfl rfl rfl rfl rfl (by decide) ?_
      refine PWops.valE (q := pint ((u.n % 64 : Nat) : Int)) rfl rfl rfl (by show PV.val (.int .i64 (IntKind.i64.wrap _)) = PV.val _; rw [wrap64_id (by omega) (by omega)]) rfl ?_
      refine wk ?_
      refine PWops.slcP (h := 64) (l := u.n % 64) rfl rfl rfl rfl rfl rfl rfl rfl (by simp [pbound, pev, PS.put, upd, PV.bare]; omega) (by decide) ?_
      refine wk ?_
      have hX : (M.take (64 - u.n % 64)).length = min M.length (64 - u.n % 64) := by rw [List.length_take]; omega
      have hbl : (splI u.blk (u.n % 64) (M.take (64 - u.n % 64))).length = 64 := by rw [splI_len (by rw [hX, hu]; omega), hu]
      have hM0 : M.length ≠ 0 := fun e => h0 (List.eq_nil_of_length_eq_zero e)
      refine PWops.copy (out := pS ⟨u.st, splI u.blk (u.n % 64) (M.take (64 - u.n % 64)), u.n⟩) (n2 := M.length) (cs := M.map pbyte) rfl rfl rfl rfl rfl (by show (some ((strOf M).size, (strOf M).data.toList.map (fun x => PV.val (.int .u8 (x.toNat : Int)))) : Option _) = _; rw [strOf_cells hM, strOf_size]) rfl rfl rfl ?_ ?_ ?_ ?_
      · rw [len_pS hu]; omega
      · rw [List.length_map]; omega
      · rw [← pS_setB hu (by rw [hX]; omega), Nat.zero_add, Nat.mul_one, Nat.mul_one, ← List.map_take]
        congr 2
        exact List.take_eq_take_iff.2 (by omega)
      refine wk ?_
      refine PWops.slcS (k := min M.length (64 - u.n % 64)) (q := strOf (M.drop (64 - u.n % 64))) rfl rfl rfl rfl rfl rfl rfl rfl rfl (by rw [strOf_size]; omega) ?_ ?_
      · rw [strOf_drop hM]
        congr 1
        by_cases hh : M.length ≤ 64 - u.n % 64
        · rw [Nat.min_eq_left hh, List.drop_eq_nil_of_le (Nat.le_refl _), List.drop_eq_nil_of_le hh]
        · rw [Nat.min_eq_right (by omega)]
      refine wk ?_
      refine PWops.ldB rfl rfl rfl rfl rfl rfl rfl rfl (pS_n hbl) rfl ?_
      refine PWops.idd ?_
      first | refine PWops.stepA rfl ?_ | refine PWops.doneI rfl ?_ | refine PWops.boolK true rfl rfl rfl rfl (by (first | rfl | assumption | (simp only [decide_eq_true_eq, decide_eq_false_iff_not, bne_iff_ne, beq_iff_eq, beq_eq_false_iff_ne, bne_eq_false_iff_eq, ne_eq] ; omega))) rfl ?_ | refine PWops.boolK false rfl rfl rfl rfl (by (first | rfl | assumption | (simp only [decide_eq_true_eq, decide_eq_false_iff_not, bne_iff_ne, beq_iff_eq, beq_eq_false_iff_ne, bne_eq_false_iff_eq, ne_eq] ; omega))) rfl ?_ | refine PWops.fitsK rfl rfl rfl rfl (by (first | omega | (dsimp only ; omega))) (by (first | omega | (dsimp only ; omega))) rfl ?_ | refine PWops.remK rfl rfl rfl rfl (by (first | omega | (dsimp only ; omega))) rfl ?_ | refine PWops.quoK rfl rfl rfl rfl (by (first | omega | (dsimp only ; omega))) rfl ?_ | refine PWops.app rfl rfl rfl rfl rfl rfl rfl rfl (by (first | omega | (dsimp only ; omega))) (by (first | omega | (dsimp only ; omega))) (by first | rfl | exact secL_one _ | exact putL_one _ | exact one_pint _ | exact one_pstr _ | exact one_pbyte _ | exact one_pattrs _) ?_ | refine PWops.app0 rfl rfl rfl rfl rfl rfl rfl rfl (by (first | omega | (dsimp only ; omega))) (by (first | omega | (dsimp only ; omega))) (by first | rfl | exact secL_one _ | exact putL_one _ | exact one_pint _ | exact one_pstr _ | exact one_pbyte _ | exact one_pattrs _) ?_ | refine PWops.idx1 rfl rfl rfl rfl rfl rfl rfl rfl (by (first | omega | (dsimp only ; omega))) ?_ | refine PWops.idx rfl rfl rfl rfl rfl rfl rfl rfl (by (first | omega | (dsimp only ; omega))) ?_ | refine PWops.ld rfl rfl rfl rfl rfl rfl rfl (by assumption) rfl ?_ | refine PWops.ldA rfl rfl rfl rfl rfl rfl (by (first | omega | (dsimp only ; omega))) (by assumption) ?_ | refine PWops.str rfl rfl rfl rfl rfl rfl rfl rfl rfl rfl rfl ?_
      first | refine PWops.stepA rfl ?_ | refine PWops.doneI rfl ?_ | refine PWops.boolK true rfl rfl rfl rfl (by (first | rfl | assumption | (simp only [decide_eq_true_eq, decide_eq_false_iff_not, bne_iff_ne, beq_iff_eq, beq_eq_false_iff_ne, bne_eq_false_iff_eq, ne_eq] ; omega))) rfl ?_ | refine PWops.boolK false rfl rfl rfl rfl (by (first | rfl | assumption | (simp only [decide_eq_true_eq, decide_eq_false_iff_not, bne_iff_ne, beq_iff_eq, beq_eq_false_iff_ne, bne_eq_false_iff_eq, ne_eq] ; omega))) rfl ?_ | refine PWops.fitsK rfl rfl rfl rfl (by (first | omega | (dsimp only ; omega))) (by (first | omega | (dsimp only ; omega))) rfl ?_ | refine PWops.remK rfl rfl rfl rfl (by (first | omega | (dsimp only ; omega))) rfl ?_ | refine PWops.quoK rfl rfl rfl rfl (by (first | omega | (dsimp only ; omega))) rfl ?_ | refine PWops.app rfl rfl rfl rfl rfl rfl rfl rfl (by (first | omega | (dsimp only ; omega))) (by (first | omega | (dsimp only ; omega))) (by first | rfl | exact secL_one _ | exact putL_one _ | exact one_pint _ | exact one_pstr _ | exact one_pbyte _ | exact one_pattrs _) ?_ | refine PWops.app0 rfl rfl rfl rfl rfl rfl rfl rfl (by (first | omega | (dsimp only ; omega))) (by (first | omega | (dsimp only ; omega))) (by first | rfl | exact secL_one _ | exact putL_one _ | exact one_pint _ | exact one_pstr _ | exact one_pbyte _ | exact one_pattrs _) ?_ | refine PWops.idx1 rfl rfl rfl rfl rfl rfl rfl rfl (by (first | omega | (dsimp only ; omega))) ?_ | refine PWops.idx rfl rfl rfl rfl rfl rfl rfl rfl (by (first | omega | (dsimp only ; omega))) ?_ | refine PWops.ld rfl rfl rfl rfl rfl rfl rfl (by assumption) rfl ?_ | refine PWops.ldA rfl rfl rfl rfl rfl rfl (by (first | omega | (dsimp only ; omega))) (by assumption) ?_ | refine PWops.str rfl rfl rfl rfl rfl rfl rfl rfl rfl rfl rfl ?_
      refine PWops.valE (q := pu64 ((u.n + min M.length (64 - u.n % 64) : Nat) : Int)) rfl rfl rfl (by show PV.val (.int .u64 (IntKind.u64.wrap ((u.n : Int) + IntKind.u64.wrap _))) = PV.val _; rw [IntWalk.u64_in ((min M.length (64 - u.n % 64) : Nat) : Int) (by omega), IntWalk.u64_in _ (by omega)]; congr 2) rfl ?_
      refine wk ?_
      refine PWops.stB (new := [pu64 ((u.n + min M.length (64 - u.n % 64) : Nat) : Int)]) rfl rfl rfl rfl rfl rfl rfl rfl rfl ⟨rfl, by rw [len_pS hbl]; show 0 + 72 + 1 ≤ 73; omega⟩ (pS_setN hbl _) ?_
      have hdl : (M.drop (64 - u.n % 64)).length = M.length - (64 - u.n % 64) := List.length_drop
      have l2 := low_pS zeroS
      by_cases hful : u.n % 64 + min M.length (64 - u.n % 64) = 64
      · have hc := HCalls.ofP (gm := []) (given := [(0, pS ⟨u.st, splI u.blk (u.n % 64) (M.take (64 - u.n % 64)), u.n + min M.length (64 - u.n % 64)⟩)]) (args' := [.agg (pH u.st), .msl 0 (0 + 8 + 0 * 1) (64 - 0) 1]) (pw_compress u.st (splI u.blk (u.n % 64) (M.take (64 - u.n % 64))) hbl)
          (.cons (.same _) (by
            have e : pbytes (splI u.blk (u.n % 64) (M.take (64 - u.n % 64))) = .sl (64 - 0) 1 (((pS ⟨u.st, splI u.blk (u.n % 64) (M.take (64 - u.n % 64)), u.n + min M.length (64 - u.n % 64)⟩).drop (0 + 8 + 0 * 1)).take ((64 - 0) * 1)) none := by
              rw [pbytes]
              refine sl_eq (by rw [hbl]) ?_
              show _ = (((splI u.blk (u.n % 64) (M.take (64 - u.n % 64))).map pbyte ++ [_])).take 64
              rw [List.take_left' (by rw [List.length_map, hbl])]
            rw [e]
            exact .cons (.msl _ _ _ _ _ (by simp) (by rw [len_pS hbl]; decide)) .nil))
          (fun x hx c hcx => by simp at hx; subst hx; exact (low_pS _ c hcx).lowI) (by simp) (.agg _ (flat_pH _)) rfl
        refine wk ?_
        refine PWops.stB (new := pH (cmpH glob0 u.st (splI u.blk (u.n % 64) (M.take (64 - u.n % 64))))) rfl rfl rfl rfl rfl rfl rfl rfl rfl ⟨rfl, by rw [len_pS hbl]; show 0 + 8 ≤ 73; omega⟩ (pS_setH _) ?_
        refine wk ?_
        have ht : u.turn glob0 (M.take (64 - u.n % 64)) = ⟨cmpH glob0 u.st (splI u.blk (u.n % 64) (M.take (64 - u.n % 64))), splI u.blk (u.n % 64) (M.take (64 - u.n % 64)), u.n + min M.length (64 - u.n % 64)⟩ := by rw [Strm.turn, if_pos (by rw [hX]; exact hful), Strm.put, Strm.full, hX]
        have l1 := low_pS ⟨cmpH glob0 u.st (splI u.blk (u.n % 64) (M.take (64 - u.n % 64))), splI u.blk (u.n % 64) (M.take (64 - u.n % 64)), u.n + min M.length (64 - u.n % 64)⟩
        refine loopP (⟨cmpH glob0 u.st (splI u.blk (u.n % 64) (M.take (64 - u.n % 64))), splI u.blk (u.n % 64) (M.take (64 - u.n % 64)), u.n + min M.length (64 - u.n % 64)⟩, M.drop (64 - u.n % 64)) ⟨hbl, fun c hcx => hM c (List.mem_of_mem_drop hcx), by simp only [hdl]; omega, ?_⟩ (by simp only [hdl]; omega) ?_
        · rw [← he, addS_cons glob0 u h0, ht]
        · dsimp only
          exact sb
      · refine wk ?_
        have ht : u.turn glob0 (M.take (64 - u.n % 64)) = ⟨u.st, splI u.blk (u.n % 64) (M.take (64 - u.n % 64)), u.n + min M.length (64 - u.n % 64)⟩ := by rw [Strm.turn, if_neg (by rw [hX]; exact hful), Strm.put, hX]
        have l1 := low_pS ⟨u.st, splI u.blk (u.n % 64) (M.take (64 - u.n % 64)), u.n + min M.length (64 - u.n % 64)⟩
        refine loopP (⟨u.st, splI u.blk (u.n % 64) (M.take (64 - u.n % 64)), u.n + min M.length (64 - u.n % 64)⟩, M.drop (64 - u.n % 64)) ⟨hbl, fun c hcx => hM c (List.mem_of_mem_drop hcx), by simp only [hdl]; omega, ?_⟩ (by simp only [hdl]; omega) ?_
        · rw [← he, addS_cons glob0 u h0, ht]
        · dsimp only
          exact sb
end Go.Proofs.YtilcpcpmkklobaaDoor

/- The hash: the end of a message. -/
namespace Go.Proofs.YtilcpcpmkklobaaDoor
set_option linter.unusedSimpArgs false
set_option linter.unusedVariables false
set_option linter.unnecessarySimpa false
open Go.RowKit

def h8L (s : H8) : List Int := [s.a, s.b, s.c, s.d, s.e, s.f, s.g, s.h]
/-- How many zeros the padding has. -/
def zc (n : Nat) : Nat := (119 - n % 64) % 64
def hByteAt (m : Int) (i : Nat) : Int := IntKind.u8.wrap (m.fdiv (2 ^ (min (56 - 8 * (i : Int)).toNat IntKind.u64.bits)))
def be8 (m : Int) (k : Nat) : List Int := (List.range k).map (hByteAt m)
def padI (n : Nat) : List Int := 128 :: List.replicate (zc n) 0 ++ be8 (IntKind.u64.wrap (8 * (n : Int))) 8
def outV (s : H8) (i : Nat) : Int := IntKind.u8.wrap (((h8L s).getD (i / 4) default).fdiv (2 ^ (min (24 - 8 * ((i : Int) % 4)).toNat IntKind.u32.bits)))
def outW (s : H8) : Nat → List Int
  | 0 => List.replicate 32 0
  | i + 1 => (outW s i).set i (outV s i)
theorem outW_len (s : H8) : ∀ i, (outW s i).length = 32
  | 0 => by simp [outW]
  | i + 1 => by rw [outW, List.length_set, outW_len s i]
def sumS (ks : List Int) (s : Strm) : List Int := outW (addS ks s (padI s.n)).st 32
theorem pS_h {s : Strm} {j : Nat} (h : j < 8) : (pS s)[j]? = some (pu32 ((h8L s.st).getD j default)) := by
  match j, h with
  | 0, _ => rfl
  | 1, _ => rfl
  | 2, _ => rfl
  | 3, _ => rfl
  | 4, _ => rfl
  | 5, _ => rfl
  | 6, _ => rfl
  | 7, _ => rfl
theorem hByteAt_ok (m : Int) (i : Nat) : 0 ≤ hByteAt m i ∧ hByteAt m i < 256 := by
  unfold hByteAt
  rw [IntKind.wrap_u8]; omega
theorem padI_byte (n : Nat) : ∀ c ∈ padI n, 0 ≤ c ∧ c < 256 := by
  intro c hc
  rcases List.mem_append.1 hc with h | h
  · rcases List.mem_cons.1 h with rfl | h
    · decide
    · obtain ⟨-, rfl⟩ := List.mem_replicate.1 h; decide
  · obtain ⟨i, -, rfl⟩ := List.mem_map.1 h; exact hByteAt_ok _ _
theorem padI_len (n : Nat) : (padI n).length = zc n + 9 := by simp [padI, be8]
theorem turn_len {ks : List Int} {s : Strm} {x : List Int} (h : s.blk.length = 64) (hx : s.n % 64 + x.length ≤ 64) : (s.turn ks x).blk.length = 64 := by
  rw [turn_blk, splI_len (by omega), h]

theorem addS_len (ks : List Int) : ∀ (n : Nat) (s : Strm) (bs : List Int), bs.length = n → s.blk.length = 64 → (addS ks s bs).blk.length = 64 := by
  intro n
  induction n using Nat.strongRecOn with
  | _ n ih =>
    intro s bs hl h
    by_cases h0 : bs = []
    · subst h0; rw [addS_nil]; exact h
    · have h1 : bs.length ≠ 0 := fun e => h0 (List.eq_nil_of_length_eq_zero e)
      have h2 := Nat.mod_lt s.n (show 0 < 64 by omega)
      rw [addS_cons ks s h0]
      exact ih _ (by rw [← hl, List.length_drop]; omega) _ _ rfl (turn_len h (by rw [List.length_take]; omega))

set_option maxRecDepth 10000 in
set_option maxHeartbeats 2000000 in
theorem pw_sum (s : Strm) (hs : s.blk.length = 64) (hn : s.n ≤ 100000000000000) : PCalls Tryd.prog 50 [.agg (pS s)] (· = .agg ((sumS glob0 s).map pbyte)) := by
  refine pcalls_of_pw typeTab_ok Tryd.func50 rfl (by kernel_rfl) (by intro p hp; simp at hp; subst hp; exact .agg _ (low_pS s)) (by simp [PV.ownB]) (Nat.le_of_ble_eq_true rfl) ?_
  have hlt := Nat.mod_lt s.n (show 0 < 64 by omega)
  have l1 := low_pS s
  refine wk ?_
  refine PWops.boxA rfl rfl rfl rfl rfl (one_pS s) (bare_pS s) ?_
  refine wk ?_
  refine PWops.ldB rfl rfl rfl rfl rfl rfl rfl rfl (pS_n hs) rfl ?_
  refine wk ?_
  refine PW.loop (fun k : Nat => ((((((bot.setb 0 (pS s)).put 1 (.ptr 0 0)).setb 1 (List.replicate 32 (pbyte 0))).put 2 (.ptr 1 0)).put 3 (pu64 (IntKind.u64.wrap (8 * (s.n : Int))))).put 4 (.sl (k + 1) 1 ((128 :: List.replicate k 0).map pbyte) (some 5)))) (fun k => k ≤ zc s.n) (fun k => zc s.n - k) 0 (by omega) ?_ ?_
  · exact sb
  · intro k hk
    have hz : zc s.n = (119 - s.n % 64) % 64 := rfl
    refine wk ?_
    refine PWops.ldB rfl rfl rfl rfl rfl rfl rfl rfl (pS_n hs) rfl ?_
    refine PWops.valE (q := pint (s.n : Int)) rfl rfl rfl (by show PV.val (.int .i64 (IntKind.i64.wrap _)) = PV.val _; rw [wrap64_id (by omega) (by omega)]) rfl ?_
    by_cases hkz : k < zc s.n
    · refine wk ?_
      refine loopP (k + 1) (by omega) (by omega) ?_
      have e : (128 :: List.replicate (k + 1) (0 : Int)).map pbyte = (128 :: List.replicate k 0).map pbyte ++ [pbyte 0] := by
        rw [List.replicate_succ']; simp
      have ll : Low (.sl (k + 1 + 1) 1 ((128 :: List.replicate (k + 1) (0 : Int)).map pbyte) (some 5)) := low_mapB
      rw [e] at ll ⊢
      exact sb
    · have e : k = zc s.n := by omega
      subst e
      refine wk ?_
      have hp0 : (128 :: List.replicate (zc s.n) (0 : Int)) ++ be8 (IntKind.u64.wrap (8 * (s.n : Int))) 0 = 128 :: List.replicate (zc s.n) 0 := by simp [be8]
      have hpl : ∀ i, ((128 :: List.replicate (zc s.n) (0 : Int)) ++ be8 (IntKind.u64.wrap (8 * (s.n : Int))) i).length = zc s.n + 1 + i := by intro i; simp [be8]; omega
      refine PW.loop (fun i : Nat => ((((((bot.setb 0 (pS s)).put 1 (.ptr 0 0)).setb 1 (List.replicate 32 (pbyte 0))).put 2 (.ptr 1 0)).put 3 (pu64 (IntKind.u64.wrap (8 * (s.n : Int))))).put 4 (.sl (zc s.n + 1 + i) 1 (((128 :: List.replicate (zc s.n) 0) ++ be8 (IntKind.u64.wrap (8 * (s.n : Int))) i).map pbyte) (some 5))).put 23 (pint i)) (fun i => i ≤ 8) (fun i => 8 - i) 0 (by omega) ?_ ?_
      · rw [hp0]
        exact sb
      · intro i hi
        by_cases h8 : i < 8
        · refine wk ?_
          refine loopP (i + 1) (by omega) (by omega) ?_
          have e2 : ((128 :: List.replicate (zc s.n) (0 : Int)) ++ be8 (IntKind.u64.wrap (8 * (s.n : Int))) (i + 1)).map pbyte = ((128 :: List.replicate (zc s.n) (0 : Int)) ++ be8 (IntKind.u64.wrap (8 * (s.n : Int))) i).map pbyte ++ [pbyte (hByteAt (IntKind.u64.wrap (8 * (s.n : Int))) i)] := by
            rw [be8, be8, List.range_succ]; simp
          have ll : Low (.sl (zc s.n + 1 + (i + 1)) 1 (((128 :: List.replicate (zc s.n) (0 : Int)) ++ be8 (IntKind.u64.wrap (8 * (s.n : Int))) (i + 1)).map pbyte) (some 5)) := low_mapB
          rw [e2] at ll ⊢
          exact sb
        · have e : i = 8 := by omega
          subst e
          have ha := pw_add s (padI s.n) hs (padI_byte _) (by rw [padI_len]; omega)
          have hul := addS_len glob0 _ s (padI s.n) rfl hs
          obtain ⟨u, hu⟩ : ∃ u, u = addS glob0 s (padI s.n) := ⟨_, rfl⟩
          rw [← hu] at ha hul
          rw [show sumS glob0 s = outW u.st 32 by rw [sumS, hu]]
          have l2 := low_pS u
          refine wk ?_
          refine PWops.ldAll rfl rfl rfl rfl rfl rfl rfl (len_pS hs) (bare_pS s) ?_
          refine wk ?_
          refine PWops.stAll rfl rfl rfl rfl rfl rfl rfl rfl rfl (len_pS hul) (len_pS hs) (one_pS u) (bare_pS u) ?_
          refine wk ?_
          refine PW.loop (fun i : Nat => ((((((bot.setb 0 (pS u)).put 1 (.ptr 0 0)).setb 1 (List.replicate 32 (pbyte 0))).put 2 (.ptr 1 0)).setb 11000 ((outW u.st i).map pbyte)).put 6 (.ptr 11000 0)).put 40 (pint i)) (fun i => i ≤ 32) (fun i => 32 - i) 0 (by omega) ?_ ?_
          · exact sb
          · intro i hi
            have hol := outW_len u.st i
            by_cases h32 : i < 32
            · have hc : (pS u)[((i : Int) / 4).toNat]? = some (pu32 ((h8L u.st).getD (i / 4) default)) := by
                rw [show ((i : Int) / 4).toNat = i / 4 by omega]; exact pS_h (by omega)
              have hS : (outW u.st (i + 1)).map pbyte = ((outW u.st i).set (i : Int).toNat (outV u.st i)).map pbyte := rfl
              refine wk ?_
              refine PWops.ldB rfl rfl rfl rfl rfl rfl rfl rfl hc rfl ?_
              refine wk ?_
              refine loopP (i + 1) (by omega) (by omega) ?_
              exact sb
            · have e : i = 32 := by omega
              subst e
              generalize outW u.st 32 = O at *
              refine wk ?_
              exact ⟨_, presult1 (pres_cell rfl rfl rfl (len_map hol) (bare_map (fun _ => rfl) _)), by exact lw, rfl⟩
end Go.Proofs.YtilcpcpmkklobaaDoor

/- Pure states: a new slice as a pure value, contracts of one argument. -/
namespace Go.Proofs.YtilcpcpmkklobaaDoor
set_option linter.unusedSimpArgs false
set_option linter.unusedVariables false
set_option linter.unnecessarySimpa false
open Go.RowKit

/-- A new slice of bytes: what it reads as. -/
def pbytesO (zs : List Int) : PV := .sl zs.length 1 (zs.map pbyte) (some 5)

section
variable {Φ : Imm} {μ : Nat → Option Nat} {w : World} (himm : ∀ b o u, Φ b o = some u → w.cell? ⟨b, o, none⟩ = some u)
include himm

theorem post_flat {w' : World} {post : PV → Prop} {r : PV} {v : Value} (hr : Rep Φ mu0 r v) (hf : r.ownB = false) (hp : post r) (hb : Below w.heap.size w w') : CallPost Φ w post (.returned v) w' := by
  refine ⟨r, v, Φ, rfl, hp, hr, fun b o u e => below_cell hb (himm b o u e), fun _ _ _ => rfl, hb, fun n k cs E e => ?_⟩
  rw [e] at hf; simp [PV.ownB] at hf

/-- A new slice as a pure value. -/
theorem own_rep {w' : World} {E : TypeId} {v : Value} {α : Type} {f : α → Value} {l : List α} (hplain : ∀ x, plainV (f x) = true) (ho : Own w.heap.size E w' v (l.map f)) (hb : Below w.heap.size w w') (hE : E < 1000000 := by decide) :
    ∃ Φ' : Imm, (∀ b o u, Φ' b o = some u → w'.cell? ⟨b, o, none⟩ = some u) ∧ (∀ b o, b < w.heap.size → Φ' b o = Φ b o) ∧ Rep Φ' mu0 (.sl l.length 1 (l.map fun x => .val (f x)) (some E)) v ∧ OwnAt (fun g => w.heap.size ≤ g) Φ' (fun _ => some (.tmp 0)) w' (.tmp 0) l.length 1 E v := by
  have himm' : ∀ b o u, Φ b o = some u → w'.cell? ⟨b, o, none⟩ = some u := fun b o u e => below_cell hb (himm b o u e)
  have hfr : ∀ b o u, Φ b o = some u → b < w.heap.size := fun b o u e => World.block_lt_of_cell? _ _ (himm b o u e)
  rcases ho.2 with ⟨rfl, hn⟩ | ⟨g, cap, cur, rfl, hBg, hgg, hc, hm, hs, ht⟩
  · have hl : l = [] := List.eq_nil_of_length_eq_zero (by simpa using hn)
    subst hl
    exact ⟨Φ, himm', fun _ _ _ => rfl, .sl0 _ _ _ _ (by unfold maxLen; omega), .inl ⟨rfl, rfl⟩⟩
  · simp only [List.length_map, Nat.mul_one] at hc ht hs
    refine ⟨fun b o => if b = g then (l.map f)[o]? else Φ b o, ?_, ?_, ?_, ?_⟩
    · intro b o u e
      by_cases hbg : b = g
      · subst hbg
        simp only [if_true] at e
        rw [← ht, List.getElem?_take] at e
        split at e
        · simp only [World.cell?, hgg]; simpa using e
        · cases e
      · simp only [if_neg hbg] at e; exact himm' b o u e
    · intro b o hbo; simp only; rw [if_neg (by omega)]
    · have hlen : (Value.slice (some ⟨g, 0, none⟩) (l.map f).length cap) = .slice (some ⟨g, 0, none⟩) l.length cap := by simp
      rw [hlen]
      refine .sl _ _ _ _ g 0 cap (fun j => ((l.map f)[j]?).getD undef) (by simp) hc hm (fun j hj => ?_) (fun j c hcj => ?_)
      · have hj' : j < l.length := by simpa using hj
        simp [hj']
      · rw [List.getElem?_map] at hcj
        obtain ⟨x, hx, rfl⟩ := Option.map_eq_some_iff.1 hcj
        simp only [List.getElem?_map, hx, Option.map_some, Option.getD_some]
        exact .val _ (hplain x)
    · refine .inr (.inl ⟨g, cap, cur, by simp, hBg, hgg, hc, hm, by simpa using hs, rfl, hE, fun j hj => ?_⟩)
      simp only [if_true]
      rw [List.getElem?_eq_none (by simp; omega)]

theorem post_own {w' : World} {E : TypeId} {v : Value} {α : Type} {f : α → Value} {l : List α} (hplain : ∀ x, plainV (f x) = true) (ho : Own w.heap.size E w' v (l.map f)) (hb : Below w.heap.size w w') (hE : E < 1000000 := by decide) : CallPost Φ w (· = .sl l.length 1 (l.map fun x => .val (f x)) (some E)) (.returned v) w' := by
  obtain ⟨Φ', h1, h2, h3, h4⟩ := own_rep himm hplain ho hb hE
  refine ⟨_, v, Φ', rfl, rfl, h3, h1, h2, hb, fun n k cs E' e => ?_⟩
  cases e
  exact h4

end

/-- A contract over memory as one over pure values: one argument. -/
theorem pcalls1 {P : Program} {f : FuncId} {p : PV} {post : PV → Prop} (hc : callB P f = true) (h : ∀ (Φ : Imm) (μ : Nat → Option Nat) (w : World) (v : Value), (∀ b o u, Φ b o = some u → w.cell? ⟨b, o, none⟩ = some u) → Rep Φ μ p v → Calls P f #[v] w (CallPost Φ w post)) : PCalls P f [p] post := by
  refine ⟨hc, fun Φ μ w vs himm hgl hr => ?_⟩
  match vs, hr with
  | [v], hr => exact h Φ μ w v himm (hr.2 0 _ _ rfl rfl)
  | [], hr => exact absurd hr.1 (by simp)
  | _ :: _ :: _, hr => exact absurd hr.1 (by simp)
end Go.Proofs.YtilcpcpmkklobaaDoor

/- What the operators on bits give, where wire uses them. -/
namespace Go.Proofs.YtilcpcpmkklobaaDoor
set_option linter.unusedSimpArgs false
set_option linter.unusedVariables false
set_option linter.unnecessarySimpa false

theorem wraps_u64 (n : Int) (h₀ : 0 ≤ n) (h₁ : n < 2 ^ 64) : IntKind.u64.wrap n = n := by rw [IntKind.wrap_u64]; omega

theorem xor_u64_0 (x : Int) (h0 : 0 ≤ x) (h1 : x < 18446744073709551616) : bits .xor .u64 x 0 = x := by
  obtain ⟨a, rfl⟩ : ∃ a : Nat, x = a := ⟨x.toNat, by omega⟩
  have := bits_xor_u64_nat a 0 (by omega) (by omega)
  simpa using this

theorem xor_u64_ones (x : Int) (h0 : 0 ≤ x) (h1 : x < 18446744073709551616) : bits .xor .u64 x 18446744073709551615 = 18446744073709551615 - x := by
  obtain ⟨a, rfl⟩ : ∃ a : Nat, x = a := ⟨x.toNat, by omega⟩
  have e : (BitVec.ofInt IntKind.u64.bits 18446744073709551615 : BitVec IntKind.u64.bits) = BitVec.allOnes 64 := rfl
  have e2 : ((BitVec.ofInt IntKind.u64.bits (a : Int) : BitVec IntKind.u64.bits) ^^^ BitVec.ofInt IntKind.u64.bits 18446744073709551615).toNat = 18446744073709551615 - a := by
    rw [e]
    show ((BitVec.ofInt 64 (a : Int)) ^^^ BitVec.allOnes 64).toNat = _
    rw [BitVec.xor_allOnes, BitVec.toNat_not, BitVec.toNat_ofInt]
    omega
  show IntKind.u64.wrap _ = _
  simp only []
  rw [e2, IntKind.wrap_u64]
  omega

theorem xor_i64_0 (x : Int) (h0 : -9223372036854775808 ≤ x) (h1 : x < 9223372036854775808) : bits .xor .i64 x 0 = x := by
  have e2 : ((BitVec.ofInt IntKind.i64.bits x : BitVec IntKind.i64.bits) ^^^ BitVec.ofInt IntKind.i64.bits 0).toNat = (x % 18446744073709551616).toNat := by
    show ((BitVec.ofInt 64 x) ^^^ BitVec.ofInt 64 0).toNat = _
    rw [show BitVec.ofInt 64 0 = 0#64 from rfl, BitVec.xor_zero, BitVec.toNat_ofInt]
    rfl
  show IntKind.i64.wrap _ = _
  simp only []
  rw [e2, IntKind.wrap_i64]
  omega

theorem xor_i64_ones (x : Int) (h0 : -9223372036854775808 ≤ x) (h1 : x < 9223372036854775808) : bits .xor .i64 x (-1) = -1 - x := by
  have e2 : ((BitVec.ofInt IntKind.i64.bits x : BitVec IntKind.i64.bits) ^^^ BitVec.ofInt IntKind.i64.bits (-1)).toNat = 18446744073709551615 - (x % 18446744073709551616).toNat := by
    show ((BitVec.ofInt 64 x) ^^^ BitVec.ofInt 64 (-1)).toNat = _
    rw [show BitVec.ofInt 64 (-1) = BitVec.allOnes 64 from rfl, BitVec.xor_allOnes, BitVec.toNat_not, BitVec.toNat_ofInt]
    rfl
  show IntKind.i64.wrap _ = _
  simp only []
  rw [e2, IntKind.wrap_i64]
  omega

theorem u8_and127 (x : Int) (h₀ : 0 ≤ x) (h₁ : x < 256) : bits .and .u8 x 127 = x % 128 := bits_mask .u8 8 (by decide) wraps_u8 7 (by decide) x h₀ h₁
theorem u64_and1 (x : Int) (h₀ : 0 ≤ x) (h₁ : x < 18446744073709551616) : bits .and .u64 x 1 = x % 2 := bits_mask .u64 64 (by decide) wraps_u64 1 (by decide) x h₀ h₁

theorem bits_or_comm (k : IntKind) (x y : Int) : bits .or k x y = bits .or k y x := by
  simp only [bits, BitVec.or_comm]

theorem u8_or128' (q : Int) (h0 : 0 ≤ q) : bits .or .u8 (q % 256) 128 = q % 128 + 128 := by
  obtain ⟨a, rfl⟩ : ∃ a : Nat, q = a := ⟨q.toNat, by omega⟩
  have h := (bits_nat .u8 8 (by decide) wraps_u8 (a % 256) 128 (by omega) (by omega)).2
  have e : (a % 256 ||| 128 : Nat) = a % 128 + 128 := by
    have key : ∀ x : Fin 256, (x.val ||| 128 : Nat) = x.val % 128 + 128 := by decide +kernel
    have := key ⟨a % 256, by omega⟩
    simp only at this
    rw [this]; omega
  rw [e] at h
  have c1 : ((a % 256 : Nat) : Int) = (a : Int) % 256 := by omega
  have c2 : ((128 : Nat) : Int) = 128 := rfl
  rw [c1, c2] at h
  rw [h]; omega

/-- z |= d << (7k), where z has only lower bits. -/
theorem u64_or_shift (z d : Int) (k : Nat) (hk : k ≤ 9) (hz0 : 0 ≤ z) (hz : z < 2 ^ (7 * k)) (hd0 : 0 ≤ d) (hd9 : d * 2 ^ (7 * k) < 18446744073709551616) :
    bits .or .u64 z (d * 2 ^ (7 * k)) = z + d * 2 ^ (7 * k) := by
  have hp : (0 : Int) < 2 ^ (7 * k) := Int.pow_pos (by decide)
  have hle : (2 : Int) ^ (7 * k) ≤ 9223372036854775808 := by
    have : (2 : Int) ^ (7 * k) ≤ 2 ^ 63 := by
      have h := Nat.pow_le_pow_right (n := 2) (by decide) (show 7 * k ≤ 63 by omega)
      exact_mod_cast h
    simpa using this
  rw [bits_or_comm, bits_join .u64 64 (by decide) wraps_u64 (7 * k) _ _ (Int.mul_nonneg hd0 (by omega)) (by simp) (by simpa using hd9) hz0 hz (by
    have : (2 : Int) ^ 64 = 18446744073709551616 := by decide
    omega)]
  omega

end Go.Proofs.YtilcpcpmkklobaaDoor

/- The walks of wire and antiquaryref01: Int and GetInt. -/
namespace Go.Proofs.YtilcpcpmkklobaaDoor
set_option linter.unusedSimpArgs false
set_option linter.unusedVariables false
set_option linter.unnecessarySimpa false
open Go.RowKit
theorem elemByte : Elem1 Tryd.prog 5 (.int .u8 0) 1 := ⟨by kernel_rfl, rfl⟩

/-- The call returns a new slice of bytes. -/
def MadeBytes (w : World) (bs : List Int) (e : Ending) (w' : World) : Prop :=
  ∃ v, e = .returned v ∧ Own w.heap.size 5 w' v (bs.map (Value.int .u8)) ∧ Below w.heap.size w w'

/-- A slice of bytes. -/
def Bytes (w : World) (v : Value) (bs : List Int) : Prop := Rd w v (bs.map (Value.int .u8))

theorem Bytes.open {w : World} {v : Value} {zs : List Int} (h : Bytes w v zs) : ∃ a cap b off, v = .slice a zs.length cap ∧ zs.length ≤ cap ∧ cap ≤ maxLen ∧
    (0 < zs.length → a = some ⟨b, off, none⟩) ∧ Hid (∀ (j : Nat) (x : Int), zs[j]? = some x → w.cell? ⟨b, off + j, none⟩ = some (.int .u8 x)) := by
  obtain ⟨a, cap, b, off, h1, h2, h3, h4, h5⟩ := h
  simp only [List.length_map] at h1 h2 h4
  exact ⟨a, cap, b, off, h1, h2, h3, h4, fun j x hx => h5 j _ (by simp [hx])⟩

def Byte (bs : List Int) : Prop := ∀ (k : Nat) (c : Int), bs[k]? = some c → 0 ≤ c ∧ c < 256

theorem zig_walk (n : Int) (h1 : -9223372036854775808 ≤ n) (h2 : n ≤ 9223372036854775807) :
    bits BinOp.xor IntKind.u64 (IntKind.u64.wrap (IntKind.u64.wrap n * 2)) (IntKind.u64.wrap (n / 9223372036854775808)) = zig n := by
  simp only [IntKind.wrap_u64]
  by_cases h : 0 ≤ n
  · have e : n / 9223372036854775808 % 18446744073709551616 = 0 := by omega
    rw [e, xor_u64_0 _ (by omega) (by omega)]; unfold zig; rw [if_pos h]; omega
  · have e : n / 9223372036854775808 % 18446744073709551616 = 18446744073709551615 := by omega
    rw [e, xor_u64_ones _ (by omega) (by omega)]; unfold zig; rw [if_neg h]; omega

set_option maxRecDepth 100000 in
set_option maxHeartbeats 400000 in
theorem wireInt (n : Int) (w : World) (h1 : -9223372036854775808 ≤ n) (h2 : n ≤ 9223372036854775807) : Calls Tryd.prog 54 #[.int .i64 n] w (MadeBytes w (intB n)) := by
  have hz := zig_lt n h1 h2
  have hlen := leb64 _ hz
  go_enter Tryd.func54, Tryd.ntmps54
  go_wp2
  go_loopw [3, 4] (fun z o wr => ∃ (q : Nat) (out : List Int), q < 18446744073709551616 ∧ z = .int .u64 q ∧ out.length ≤ 9 ∧ Own w.heap.size 5 wr o (out.map (Value.int .u8)) ∧ Below w.heap.size w wr ∧ Hid (intB n = out ++ leb q)) (fun z _ _ => (intOf z).toNat)
  case atStart => exact ⟨zig n, [], hz, by rw [zig_walk n h1 h2], by simp, Own.nil _ _ _, Below.refl _ _, rfl⟩
  case round =>
    obtain ⟨q, out, hq, rfl, ho, hown, hb, hh⟩ := hrel
    have HB := Hid.mk hb
    clear hb
    have hb2 := HB.out.size
    by_cases g : 127 < q
    · have H := Hid.mk (leb_big q (by omega))
      have hl : out.length + 1 ≤ 9 := by
        have e := congrArg List.length hh.out
        rw [H.out] at e
        have := leb_pos (q / 128)
        simp at e
        unfold intB at e
        omega
      have eor := u8_or128' q (by omega)
      go_wp2_with (at_builtin; refine wp_push (.tmp 16) (.tmp 20) 37 _ 5 1 _ elemByte rfl rfl Tryd.underlying37 w.heap.size _ _ _ rfl hown rfl rfl (by simp [maxLen]; omega) (by simp; omega) hb2 ?_; intro v' w' hown' hb')
      go_roundw
      case rel => exact ⟨q / 128, out ++ [((q % 128 + 128 : Nat) : Int)], by omega, by go_num, by simpa using hl, by simpa using hown', HB.out.trans hb', by rw [Hid, hh.out, H.out]; simp⟩
      case measure => simp [intOf]; omega
    · have H := Hid.mk (leb_small q (by omega))
      go_wp2_with (at_builtin; refine wp_push (.tmp 22) (.tmp 25) 37 _ 5 1 _ elemByte rfl rfl Tryd.underlying37 w.heap.size _ _ _ rfl hown rfl rfl (by simp [maxLen]; omega) (by simp; omega) hb2 ?_; intro v' w' hown' hb')
      go_ret
      exact ⟨_, rfl, by rw [hh.out, H.out]; simpa using hown', HB.out.trans hb'⟩

end Go.Proofs.YtilcpcpmkklobaaDoor

/- The walks of wire: the bytes of a string. -/
namespace Go.Proofs.YtilcpcpmkklobaaDoor
set_option linter.unusedSimpArgs false
set_option linter.unusedVariables false
set_option linter.unnecessarySimpa false
open Go.RowKit

theorem strCells_eq (s : ByteArray) : Lib.strCells s = (bytesL s).map (Value.int .u8) := by
  simp [Lib.strCells, bytesL]

set_option maxRecDepth 100000 in
theorem wireBytes (s : ByteArray) (w : World) (hs : s.size ≤ 1000000000) : Calls Tryd.prog 49 #[.string s] w (MadeBytes w (strB s)) := by
  have hl0 := intB_len s.size (by omega) (by omega)
  go_enter Tryd.func49, Tryd.ntmps49
  go_wp2_with (first | (at_builtin; refine wp_appendStr (.tmp 5) (.tmp 6) 37 9 5 elemByte rfl rfl Tryd.underlying37 Tryd.underlying9 w.heap.size _ _ s rfl ho1 rfl (by rw [List.length_map]; omega) hb1.size ?_; intro v' w' hown' hb') | (go_at_call 54; refine (wireInt _ _ (by omega) (by omega)).mono ?_; rintro e w1 ⟨v1, rfl, ho1, hb1⟩))
  go_ret
  exact ⟨_, rfl, by rw [strB, List.map_append, ← strCells_eq]; exact hown', hb1.trans hb'⟩
end Go.Proofs.YtilcpcpmkklobaaDoor

/- The hash: digests of parts. -/
namespace Go.Proofs.YtilcpcpmkklobaaDoor
set_option linter.unusedSimpArgs false
set_option linter.unusedVariables false
set_option linter.unnecessarySimpa false
open Go.RowKit

def beginS : Strm := ⟨⟨1779033703, 3144134277, 1013904242, 2773480762, 1359893119, 2600822924, 528734635, 1541459225⟩, List.replicate 64 0, 0⟩
set_option maxRecDepth 10000 in
set_option maxHeartbeats 2000000 in
theorem pw_begin : PCalls Tryd.prog 47 [] (· = .agg (pS beginS)) := by
  refine pcalls_of_pw typeTab_ok Tryd.func47 rfl (by kernel_rfl) (by simp) (by simp) (Nat.le_of_ble_eq_true rfl) ?_
  refine wk ?_
  exact ⟨_, presult1 (pres_cell rfl rfl rfl rfl rfl), .agg _ (low_pS beginS), rfl⟩

theorem pcWBytes (s : ByteArray) (hl : s.size ≤ 1000000000) : PCalls Tryd.prog 49 [pstr s] (· = pbytesO (strB s)) :=
  pcalls1 (by kernel_rfl) fun Φ μ w v himm hr => by
    obtain ⟨rfl, -⟩ := hr.val_inv
    exact (wireBytes s w hl).mono (by
    rintro e w' ⟨u, rfl, ho, hb⟩
    exact post_own himm (fun _ => rfl) ho hb)

def partsS (ks : List Int) : Strm → List ByteArray → Strm
  | s, [] => s
  | s, p :: l => partsS ks (addS ks s (strB p)) l
def ofS (ks : List Int) (tag : Int) (l : List ByteArray) : List Int := (sumS ks (partsS ks (addS ks beginS [IntKind.u8.wrap tag]) l)).take 16
theorem addS_n (ks : List Int) : ∀ (n : Nat) (s : Strm) (bs : List Int), bs.length = n → (addS ks s bs).n = s.n + bs.length := by
  intro n
  induction n using Nat.strongRecOn with
  | _ n ih =>
    intro s bs hl
    by_cases h0 : bs = []
    · subst h0; rw [addS_nil]; rfl
    · have h1 : bs.length ≠ 0 := fun e => h0 (List.eq_nil_of_length_eq_zero e)
      have h2 := Nat.mod_lt s.n (show 0 < 64 by omega)
      rw [addS_cons ks s h0, ih _ (by rw [← hl, List.length_drop]; omega) _ _ rfl, turn_n, List.length_take, List.length_drop]
      omega
theorem partsS_snoc (ks : List Int) : ∀ (l : List ByteArray) (s : Strm) (p : ByteArray), partsS ks s (l ++ [p]) = addS ks (partsS ks s l) (strB p)
  | [], s, p => rfl
  | q :: l, s, p => by rw [List.cons_append, partsS, partsS, partsS_snoc ks l]
theorem partsS_ok (ks : List Int) (s : Strm) (hs : s.blk.length = 64) (l : List ByteArray) (hl : SmallStrs l) : (partsS ks s l).blk.length = 64 ∧ (partsS ks s l).n ≤ s.n + l.length * 1000010 := by
  induction l generalizing s with
  | nil => exact ⟨hs, by simp [partsS]⟩
  | cons p l ih =>
    have h1 := ih (addS ks s (strB p)) (addS_len ks _ s (strB p) rfl hs) (fun x hx => hl x (List.mem_cons_of_mem _ hx))
    have h2 := (strB_len p (hl p (List.mem_cons_self ..))).2
    have h3 := addS_n ks _ s (strB p) rfl
    refine ⟨h1.1, ?_⟩
    have h4 := h1.2
    rw [partsS, List.length_cons]
    omega
theorem leb_byte (n : Nat) : ∀ z, z < n → ∀ c ∈ leb z, 0 ≤ c ∧ c < 256 := by
  induction n with
  | zero => intro z h; omega
  | succ n ih =>
    intro z hz c hc
    by_cases h : z < 128
    · rw [leb_small z h] at hc; simp at hc; subst hc; omega
    · rw [leb_big z (by omega)] at hc
      rcases List.mem_cons.1 hc with rfl | hc
      · omega
      · exact ih (z / 128) (by omega) c hc
theorem intB_byte (n : Int) : ∀ c ∈ intB n, 0 ≤ c ∧ c < 256 := leb_byte _ _ (Nat.lt_succ_self _)
theorem strB_byte (p : ByteArray) (h : p.size ≤ 1000000) : ∀ c ∈ strB p, 0 ≤ c ∧ c < 256 := by
  intro c hc
  rcases List.mem_append.1 hc with h | h
  · exact intB_byte _ c h
  · exact bytesL_byte p c h

set_option maxRecDepth 10000 in
set_option maxHeartbeats 2000000 in
theorem pw_of (tag : Int) (l : List ByteArray) (hl : l.length ≤ 1000000) (hs : SmallStrs l) : PCalls Tryd.prog 44 [pint tag, pstrs l] (· = .agg ((ofS glob0 tag l).map pbyte)) := by
  refine pcalls_of_pw typeTab_ok Tryd.func44 rfl (by kernel_rfl) (by exact lw) (by simp [pint, pstrs, PV.ownB]) (Nat.le_of_ble_eq_true rfl) ?_
  have hb := pw_begin
  have ha := pw_add beginS [IntKind.u8.wrap tag] rfl (by intro c hc; simp at hc; subst hc; rw [IntKind.wrap_u8]; omega) (by simp [beginS])
  have h0l := addS_len glob0 _ beginS [IntKind.u8.wrap tag] rfl rfl
  have h0n := addS_n glob0 _ beginS [IntKind.u8.wrap tag] rfl
  rw [show ofS glob0 tag l = (sumS glob0 (partsS glob0 (addS glob0 beginS [IntKind.u8.wrap tag]) l)).take 16 from rfl]
  obtain ⟨s0, hs0⟩ : ∃ s0, s0 = addS glob0 beginS [IntKind.u8.wrap tag] := ⟨_, rfl⟩
  rw [← hs0] at ha h0l h0n ⊢
  have h0n' : s0.n = 1 := h0n
  have l0 := low_pS s0
  have hok := fun i => partsS_ok glob0 s0 h0l (l.take i) (fun x hx => hs x (List.mem_of_mem_take hx))
  refine wk ?_
  refine PWops.stAll rfl rfl rfl rfl rfl rfl rfl rfl rfl (len_pS h0l) rfl (one_pS s0) (bare_pS s0) ?_
  refine wk ?_
  refine PW.loop (fun i : Nat => (((((((bot.setb 0 (List.replicate 16 (pbyte 0))).put 4 (.ptr 0 0)).setb 1006 (pS (partsS glob0 s0 (l.take i)))).put 5 (.ptr 1006 0)).put 15 (pstrs l)).put 16 (pint l.length)).put 17 (pint i))) (fun i => i ≤ l.length) (fun i => l.length - i) 0 (by omega) ?_ ?_
  · exact sb
  · intro i hi
    have hoi := hok i
    have hti : (l.take i).length = i := by rw [List.length_take]; omega
    rw [hti] at hoi
    have li := low_pS (partsS glob0 s0 (l.take i))
    by_cases hlt : i < l.length
    · have hsm : (l.getD i default).size ≤ 1000000 := hs _ (by rw [List.getD_eq_getElem?_getD, List.getElem?_eq_getElem hlt]; exact List.getElem_mem hlt)
      have hpl := (strB_len (l.getD i default) hsm).2
      have hw := pcWBytes (l.getD i default) (by omega)
      have hadd := pw_add (partsS glob0 s0 (l.take i)) (strB (l.getD i default)) hoi.1 (strB_byte _ hsm) (by have := hoi.2; omega)
      have hnx : partsS glob0 s0 (l.take (i + 1)) = addS glob0 (partsS glob0 s0 (l.take i)) (strB (l.getD i default)) := by rw [take_getD default hlt, partsS_snoc]
      have hal := addS_len glob0 _ _ (strB (l.getD i default)) rfl hoi.1
      rw [← hnx] at hadd hal
      have li2 := low_pS (partsS glob0 s0 (l.take (i + 1)))
      refine wk ?_
      refine PWops.ldAll rfl rfl rfl rfl rfl rfl rfl (len_pS hoi.1) (bare_pS _) ?_
      refine wk ?_
      refine PWops.stAll rfl rfl rfl rfl rfl rfl rfl rfl rfl (len_pS hal) (len_pS hoi.1) (one_pS _) (bare_pS _) ?_
      refine wk ?_
      refine loopP (i + 1) (by omega) (by omega) ?_
      exact sb
    · have e : i = l.length := by omega
      subst e
      rw [List.take_length] at hoi li ⊢
      have hsum := pw_sum (partsS glob0 s0 l) hoi.1 (by have := hoi.2; omega)
      have hsl : (sumS glob0 (partsS glob0 s0 l)).length = 32 := outW_len _ _
      clear hok ha hs0 hb h0n hi
      generalize partsS glob0 s0 l = u at *
      generalize sumS glob0 u = D at *
      refine wk ?_
      refine PWops.ldAll rfl rfl rfl rfl rfl rfl rfl (len_pS hoi.1) (bare_pS _) ?_
      refine wk ?_
      refine PWops.ldBA (row := (D.take 16).map pbyte) rfl rfl rfl rfl rfl rfl rfl (by rw [List.length_map, hsl]; decide) (by show List.map PV.bare (List.take 16 (List.drop 0 (List.map pbyte D))) = _; rw [List.drop_zero, ← List.map_take, bare_map (fun _ => rfl)]) ?_
      have htl : (D.take 16).length = 16 := by rw [List.length_take, hsl]; rfl
      refine PWops.stAll rfl rfl rfl rfl rfl rfl rfl rfl rfl (len_map htl) rfl (one_map (fun _ => rfl) _) (bare_map (fun _ => rfl) _) ?_
      refine wk ?_
      exact ⟨_, presult1 (pres_cell rfl rfl rfl (len_map htl) (bare_map (fun _ => rfl) _)), .agg _ (low_map (fun _ => Low.val _) _), rfl⟩
end Go.Proofs.YtilcpcpmkklobaaDoor

/- The journal: the digest. -/
namespace Go.Proofs.YtilcpcpmkklobaaDoor
set_option linter.unusedSimpArgs false
set_option linter.unusedVariables false
set_option linter.unnecessarySimpa false
open Go.RowKit

/-- The bytes of a number of a sector. -/
def numL (z : Int) : List Int := [IntKind.u8.wrap z, IntKind.u8.wrap (z.fdiv (2 ^ min (Int.toNat 8) IntKind.i64.bits)), IntKind.u8.wrap (z.fdiv (2 ^ min (Int.toNat 16) IntKind.i64.bits)), IntKind.u8.wrap (z.fdiv (2 ^ min (Int.toNat 24) IntKind.i64.bits))]
def dPart (p : PPut) : List ByteArray := [strOf (numL p.sec), strOf p.dat.1]
def dParts (l : List PPut) : List ByteArray := l.flatMap dPart
theorem dParts_len : ∀ (l : List PPut), (dParts l).length = l.length * 2
  | [] => rfl
  | p :: l => by
    show (dPart p ++ dParts l).length = _
    rw [List.length_append, dParts_len l, List.length_cons]
    show 2 + _ = _
    omega
theorem dParts_snoc (l : List PPut) (p : PPut) : dParts (l ++ [p]) = dParts l ++ dPart p := by
  rw [dParts, List.flatMap_append]
  show _ ++ (dPart p ++ []) = _
  rw [List.append_nil]; rfl
theorem dParts_small (l : List PPut) : SmallStrs (dParts l) := by
  intro s hs
  obtain ⟨p, -, hp⟩ := List.mem_flatMap.1 hs
  simp only [dPart, List.mem_cons, List.not_mem_nil, or_false] at hp
  rcases hp with rfl | rfl
  · rw [strOf_size]; simp [numL]
  · rw [strOf_size, p.dat.2.1]; omega
/-- The parts so far. -/
def outD (l : List PPut) : Nat → PV
  | 0 => .nilsl
  | k + 1 => .sl (k * 2 + 2) 1 ((dParts (l.take (k + 1))).map pstr) (some 9)
theorem low_outD (l : List PPut) : ∀ k, Low (outD l k)
  | 0 => .nilsl
  | k + 1 => low_mapS
theorem outD_full (l : List PPut) (h : 0 < l.length) : outD l l.length = .sl (l.length * 2) 1 ((dParts l).map pstr) (some 9) := by
  cases l with
  | nil => simp at h
  | cons p l =>
    show outD (p :: l) (l.length + 1) = _
    rw [outD, List.take_of_length_le (by simp), List.length_cons, Nat.add_mul]
theorem put_dat (p : PPut) : (((putL p).drop 1).take 64).map PV.bare = p.dat.1.map pbyte := by
  show List.map PV.bare (List.take 64 (secL p.dat)) = _
  rw [List.take_of_length_le (by rw [secL_len]; exact Nat.le_refl _), secL_bare]; rfl

set_option maxRecDepth 10000 in
set_option maxHeartbeats 2000000 in
theorem pw_digest (l : List PPut) (hl : l.length ≤ 100000) (hl0 : 0 < l.length) : PCalls Tryd.prog 33 [pputs l] (· = .agg ((ofS glob0 240 (dParts l)).map pbyte)) := by
  refine pcalls_of_pw typeTab_ok Tryd.func33 rfl (by kernel_rfl) (by simp [low_pputs]) (by simp [pputs, PV.ownB]) (Nat.le_of_ble_eq_true rfl) ?_
  have hlw := low_outD l
  have hll := low_pputs l
  have hof := pw_of 240 (dParts l) (by rw [dParts_len]; omega) (dParts_small l)
  rw [show pstrs (dParts l) = .sl (l.length * 2) 1 ((dParts l).map pstr) none by rw [pstrs, dParts_len]] at hof
  have hlo : (ofS glob0 240 (dParts l)).length = 16 := by rw [ofS, List.length_take, sumS, outW_len]; rfl
  obtain ⟨O, hO⟩ : ∃ O, O = ofS glob0 240 (dParts l) := ⟨_, rfl⟩
  rw [← hO] at hof hlo ⊢
  clear hO
  refine wk ?_
  refine PW.loop (fun k : Nat => ((((bot.put 2 (.ptr 0 0)).setb 0 (List.replicate 16 (pbyte 0))).put 3 (outD l k)).put 7 (pputs l)).put 8 (pint l.length) |>.put 9 (pint k)) (fun k => k ≤ l.length) (fun k => l.length - k) 0 (by omega) ?_ ?_
  · have h1 := hlw 0
    exact sb
  · intro k hk
    by_cases hlt : k < l.length
    · have hnx : dParts (l.take (k + 1)) = dParts (l.take k) ++ dPart (l.getD k default) := by rw [take_getD default hlt, dParts_snoc]
      have h1 := hlw (k + 1)
      have ho : outD l (k + 1) = .sl (k * 2 + 2) 1 ((dParts (l.take k)).map pstr ++ [pstr (strOf (numL (l.getD k default).sec)), pstr (strOf (l.getD k default).dat.1)]) (some 9) := by rw [outD, hnx, List.map_append]; rfl
      rw [ho] at h1
      have hplen := putL_len (l.getD k default)
      have hpdat := put_dat (l.getD k default)
      clear hlw hnx hof
      cases k with
      | zero =>
        refine wk ?_
        refine PWops.strM (l := numL (l.getD 0 default).sec) (s := strOf (numL (l.getD 0 default).sec)) rfl rfl rfl rfl rfl rfl rfl rfl rfl rfl rfl rfl rfl (Nat.le_of_ble_eq_true rfl) rfl rfl ?_
        refine wk ?_
        refine PWops.strM (l := (l.getD 0 default).dat.1) (s := strOf (l.getD 0 default).dat.1) rfl rfl rfl rfl rfl rfl rfl rfl rfl rfl rfl rfl rfl (by rw [hplen]; decide) hpdat rfl ?_
        refine wk ?_
        refine loopP (0 + 1) (by omega) (by omega) ?_
        try dsimp only
        rw [ho]
        exact sb
      | succ k =>
        refine wk ?_
        refine PWops.strM (l := numL (l.getD (k + 1) default).sec) (s := strOf (numL (l.getD (k + 1) default).sec)) rfl rfl rfl rfl rfl rfl rfl rfl rfl rfl rfl rfl rfl (Nat.le_of_ble_eq_true rfl) rfl rfl ?_
        refine wk ?_
        refine PWops.strM (l := (l.getD (k + 1) default).dat.1) (s := strOf (l.getD (k + 1) default).dat.1) rfl rfl rfl rfl rfl rfl rfl rfl rfl rfl rfl rfl rfl (by rw [hplen]; decide) hpdat rfl ?_
        refine wk ?_
        refine loopP (k + 1 + 1) (by omega) (by omega) ?_
        try dsimp only
        have e2 : (k + 1) * 2 + 2 = k * 2 + 2 + 2 := by omega
        rw [ho, e2]
        rw [e2] at h1
        exact sb
    · have e : k = l.length := by omega
      subst e
      rw [outD_full l hl0]
      refine wk ?_
      exact ⟨_, presult1 (pres_cell rfl rfl rfl (len_map hlo) (bare_map (f := pbyte) (fun _ => rfl) _)), .agg _ (low_map (fun _ => Low.val _) _), rfl⟩
end Go.Proofs.YtilcpcpmkklobaaDoor

/- The journal: Apply. -/
namespace Go.Proofs.YtilcpcpmkklobaaDoor
set_option linter.unusedSimpArgs false
set_option linter.unusedVariables false
set_option linter.unnecessarySimpa false
open Go.RowKit

theorem outW_byte (s : H8) : ∀ i, ∀ c ∈ outW s i, 0 ≤ c ∧ c < 256
  | 0, c, h => by rw [outW] at h; rw [(List.mem_replicate.1 h).2]; omega
  | i + 1, c, h => by
    rw [outW] at h
    rcases List.mem_or_eq_of_mem_set h with h | rfl
    · exact outW_byte s i c h
    · unfold outV; rw [IntKind.wrap_u8]; omega
def digG (l : List PPut) : List Int := ofS glob0 240 (dParts l)
theorem digG_len (l : List PPut) : (digG l).length = 16 := by rw [digG, ofS, List.length_take, sumS, outW_len]; rfl
theorem digG_ok (l : List PPut) : ∀ x ∈ digG l, 0 ≤ x ∧ x < 256 := fun x hx => outW_byte _ _ x (List.mem_of_mem_take hx)
def fullHead (l : List PPut) : Sec := headSec l.length (digG l) (digG_len l) (digG_ok l)

/-- The disk after four steps. -/
theorem OkD.four {N k : Nat} {D : DM} (h : OkD N k D) {at_ : Int} (h0 : 0 ≤ at_) (h1 : at_ < N) (l : List PPut) (hi : InD N l) (hk : k + l.length + 3 ≤ 100000000) (g : Sec) : OkD N (k + l.length + 3) (D.four at_ l g) ∧ (D.four at_ l g).steps = D.steps + l.length + 3 ∧ (D.four at_ l g).op = [] ∧
    ∀ q : Int, 0 ≤ q → q < N → (D.four at_ l g).read q = if q = at_ then (g, 0) else match lastP q l with | some s => (s, 0) | none => D.read q := by
  have hN : 0 < N := by omega
  obtain ⟨p1, p2⟩ := OkD.puts l h hi (by omega)
  obtain ⟨s1, s2, s3, s4⟩ := p1.sync_ok hN
  obtain ⟨w1, w2, w3⟩ := s2.write h0 h1 (by omega) g
  obtain ⟨t1, t2, t3, t4⟩ := w2.sync_ok hN
  refine ⟨t2, ?_, t4, fun q q0 q1 => ?_⟩
  · rw [DM.four, t3, w3, s3, p2]; omega
  · rw [DM.four, w2.read_sync hN q0 q1, s2.read_write h0 h1 (by omega) g q0 q1, p1.read_sync hN q0 q1, OkD.read_puts l h hi (by omega) q0 q1]
    split
    · rfl
    · cases lastP q l <;> rfl

/-- What the area has lies on the disk. -/
theorem area_in {N : Nat} {at_ most : Int} (l : List PPut) (h0 : 0 ≤ at_) (m0 : 1 ≤ most) (m1 : most ≤ 1024) (hN : at_ + roomI most ≤ N) (hl : (l.length : Int) ≤ most) : (areaJ at_ most l).length = l.length + (numbersI l.length).toNat ∧ ∀ p ∈ areaJ at_ most l, at_ < p.sec ∧ p.sec < at_ + roomI most := by
  have hr : roomI most = 1 + numbersI most + most := by unfold roomI; rw [if_neg (by omega)]
  have hnn : numbersI l.length ≤ numbersI most ∧ 0 ≤ numbersI l.length := by unfold numbersI; omega
  refine ⟨?_, fun p hp => ?_⟩
  · rw [areaJ, List.length_append, areaP_len]; simp only [areaN, List.length_map, List.length_range, rowsT_len]
  · rcases List.mem_append.1 hp with h | h
    · obtain ⟨i, hi, rfl⟩ := List.mem_map.1 h
      have := List.mem_range.1 hi
      simp only
      omega
    · obtain ⟨i, hi, rfl⟩ := List.mem_map.1 h
      have := List.mem_range.1 hi
      rw [rowsT_len] at this
      simp only
      omega

/-- The error of an Apply. -/
def badP (N at_ most : Int) (p : PPut) : Bool := decide (p.sec < 0 ∨ N ≤ p.sec ∨ (at_ ≤ p.sec ∧ p.sec < at_ + roomI most))
def jApE (N at_ most : Int) (l : List PPut) : Int := if most < l.length then 2 else if l.any (badP N at_ most) = true then 1 else if (l.map PPut.sec).Nodup then 0 else 6
def DM.applied (D : DM) (at_ most : Int) (l : List PPut) : DM := (D.four at_ (areaJ at_ most l) (fullHead l)).four at_ l emptyHead
def DM.apply (D : DM) (N at_ most : Int) (l : List PPut) : DM := if jApE N at_ most l = 0 ∧ 0 < l.length then D.applied at_ most l else D
theorem jApE_bad {N at_ most : Int} {l : List PPut} (h : ¬ most < l.length) {i : Nat} (hi : i < l.length) (hb : badP N at_ most (l.getD i default) = true) : jApE N at_ most l = 1 := by
  rw [jApE, if_neg h, if_pos]
  rw [List.any_eq_true]
  refine ⟨l.getD i default, ?_, hb⟩
  rw [List.getD_eq_getElem?_getD, List.getElem?_eq_getElem hi]; exact List.getElem_mem hi
theorem jApE_good {N at_ most : Int} {l : List PPut} (h : ¬ most < l.length) (hb : ∀ i, i < l.length → badP N at_ most (l.getD i default) = false) : jApE N at_ most l = if (l.map PPut.sec).Nodup then 0 else 6 := by
  rw [jApE, if_neg h, if_neg]
  intro e
  obtain ⟨p, hp, h2⟩ := List.any_eq_true.1 e
  obtain ⟨j, hj, rfl⟩ := List.getElem_of_mem hp
  have := hb j hj
  rw [List.getD_eq_getElem?_getD, List.getElem?_eq_getElem hj] at this
  rw [Option.getD_some, h2] at this; cases this
theorem badP_in {N : Nat} {at_ most : Int} {l : List PPut} (hb : ∀ i, i < l.length → badP N at_ most (l.getD i default) = false) : InD N l := by
  intro p hp
  obtain ⟨j, hj, rfl⟩ := List.getElem_of_mem hp
  have := hb j hj
  rw [List.getD_eq_getElem?_getD, List.getElem?_eq_getElem hj, Option.getD_some] at this
  simp only [badP, decide_eq_false_iff_not, not_or] at this
  omega

/-- The sectors that were met. -/
def mE (x : Nat × Int) : Nat × PV × PV := (x.1, pint x.2, pbool true)
def metL (l : List PPut) (i : Nat) : List (Nat × Int) := (List.range i).map fun j => (j, (l.getD j default).sec)
theorem metL_succ (l : List PPut) (i : Nat) : metL l (i + 1) = metL l i ++ [(i, (l.getD i default).sec)] := by simp [metL, List.range_succ]
theorem metL_secs (l : List PPut) : ∀ i, i ≤ l.length → (metL l i).map (·.2) = (l.take i).map PPut.sec
  | 0, _ => rfl
  | i + 1, h => by rw [metL_succ, take_getD default (by omega), List.map_append, List.map_append, metL_secs l i (by omega)]; rfl
theorem met_find (z : Int) : ∀ (L : List (Nat × Int)) (n : Nat), (z ∉ L.map (·.2) ∧ mfind .int (.int .i64 z) (L.map mE) n = some none) ∨ (z ∈ L.map (·.2) ∧ ∃ j s, mfind .int (.int .i64 z) (L.map mE) n = some (some (n + j)) ∧ (L.map mE)[j]? = some (s, pint z, pbool true))
  | [], n => .inl ⟨by simp, rfl⟩
  | (s, k) :: L, n => by
    by_cases h : z = k
    · subst h
      refine .inr ⟨by simp, 0, s, ?_, rfl⟩
      simp [mE, pint, mfind, veq]
    · have e : (z == k) = false := by simpa using h
      have h1 : mfind .int (.int .i64 z) (((s, k) :: L).map mE) n = mfind .int (.int .i64 z) (L.map mE) (n + 1) := by simp [mE, pint, mfind, veq, e]
      rw [h1]
      rcases met_find z L (n + 1) with ⟨a, b⟩ | ⟨a, j, s', b, c⟩
      · exact .inl ⟨by simp only [List.map_cons, List.mem_cons, not_or]; exact ⟨h, a⟩, b⟩
      · exact .inr ⟨by simp only [List.map_cons, List.mem_cons]; exact .inr a, j + 1, s', by rw [b]; congr 2; omega, c⟩
theorem met_get (z : Int) (L : List (Nat × Int)) {ki ei : TyI} (hk : ki.kind = .int .i64) (he : zeroPV ei = some (pbool false)) : mget ki ei (L.map mE) (.int .i64 z) = some (pbool (decide (z ∈ L.map (·.2))), decide (z ∈ L.map (·.2))) := by
  unfold mget
  simp only [hk, keyOK, skT, decide_true, if_true]
  rcases met_find z L 0 with ⟨a, b⟩ | ⟨a, j, s, b, c⟩
  · rw [b, decide_eq_false a]; simp [he]; rfl
  · rw [Nat.zero_add] at b
    rw [b, decide_eq_true a]; simp only [c]; rfl
theorem met_put (z : Int) (L : List (Nat × Int)) {ki : TyI} (hk : ki.kind = .int .i64) (hz : z ∉ L.map (·.2)) (cl : Nat) : mput ki (L.map mE) cl (.int .i64 z) (pbool true) = some (.map ((L ++ [(cl, z)]).map mE) (cl + 1)) := by
  unfold mput
  simp only [hk, keyOK, skT, decide_true, if_true]
  rcases met_find z L 0 with ⟨a, b⟩ | ⟨a, j, s, b, c⟩
  · rw [b, List.map_append]; rfl
  · exact absurd a hz
theorem met_low (L : List (Nat × Int)) : ∀ e ∈ L.map mE, Low e.2.1 ∧ Low e.2.2 := by
  intro e he
  obtain ⟨x, -, rfl⟩ := List.mem_map.1 he
  exact ⟨.val _, .val _⟩

set_option maxRecDepth 10000 in
set_option maxHeartbeats 4000000 in
theorem jc_apply1 (at_ most : Int) {N k : Nat} {D : DM} (h : OkD N k D) (h0 : 0 ≤ at_) (m0 : 1 ≤ most) (m1 : most ≤ 1024) (hN : at_ + roomI most ≤ N) (hNN : N ≤ 100000000) (l : List PPut) (hl : l.length ≤ 100000000) (hk : k + 10000 ≤ 100000000) : HCalls Tryd.prog 13 [.ptr 1000004 0, pputs l] (jG 1000001 1000002 1000003 1000004 at_ most D) (dMs 1000003 D) (pint (jApE N at_ most l)) (jG 1000001 1000002 1000003 1000004 at_ most (D.apply N at_ most l)) (dMs 1000003 (D.apply N at_ most l)) := by
  have hll := low_pputs l
  have c1 := dC_low D
  have c2 := dM_low D
  refine hcalls_of_pw typeTab_ok Tryd.func13 rfl rfl (by simp [PV.ownB, pputs]) (Nat.le_of_ble_eq_true rfl) (by simp [ResIds, jG, dG, dMs]) (by simp [ResIds, jG, dG, dMs]) (by (refine ⟨by (repeat (first | exact li_nil | exact lb_nil | refine lb_cons ?_ ?_ | refine li_cons ?_ ?_ | exact dB_lowI (by simp [ResIds, dG, dMs, jG]) (by simp [ResIds, dG, dMs, jG]) _ | exact li_low (dC_low _) | exact LowI.ptr _ _ (by simp [ResIds, dG, dMs, jG]) | exact LowI.mref _ (by simp [ResIds, dG, dMs, jG]) | exact LowI.msl _ _ _ _ (by simp [ResIds, dG, dMs, jG]) | exact LowI.val _ | exact LowI.nilsl | exact Low.lowI (low_pputs _) | exact Low.lowI (psec_low _) | exact li_low (secL_low _) | exact li_low (by assumption) | refine LowI.agg _ ?_ | refine LowI.fn _ _ ?_ | refine LowI.tup _ ?_ | refine LowI.sl _ _ _ _ ?_)), by (repeat (first | exact li_nil | exact lb_nil | refine lb_cons ?_ ?_ | refine li_cons ?_ ?_ | exact dB_lowI (by simp [ResIds, dG, dMs, jG]) (by simp [ResIds, dG, dMs, jG]) _ | exact li_low (dC_low _) | exact LowI.ptr _ _ (by simp [ResIds, dG, dMs, jG]) | exact LowI.mref _ (by simp [ResIds, dG, dMs, jG]) | exact LowI.msl _ _ _ _ (by simp [ResIds, dG, dMs, jG]) | exact LowI.val _ | exact LowI.nilsl | exact Low.lowI (low_pputs _) | exact Low.lowI (psec_low _) | exact li_low (secL_low _) | exact li_low (by assumption) | refine LowI.agg _ ?_ | refine LowI.fn _ _ ?_ | refine LowI.tup _ ?_ | refine LowI.sl _ _ _ _ ?_)), by first | exact lm_nil | exact lm_cons (dM_low _) lm_nil, ?_, by (repeat (first | exact li_nil | exact lb_nil | refine lb_cons ?_ ?_ | refine li_cons ?_ ?_ | exact dB_lowI (by simp [ResIds, dG, dMs, jG]) (by simp [ResIds, dG, dMs, jG]) _ | exact li_low (dC_low _) | exact LowI.ptr _ _ (by simp [ResIds, dG, dMs, jG]) | exact LowI.mref _ (by simp [ResIds, dG, dMs, jG]) | exact LowI.msl _ _ _ _ (by simp [ResIds, dG, dMs, jG]) | exact LowI.val _ | exact LowI.nilsl | exact Low.lowI (low_pputs _) | exact Low.lowI (psec_low _) | exact li_low (secL_low _) | exact li_low (by assumption) | refine LowI.agg _ ?_ | refine LowI.fn _ _ ?_ | refine LowI.tup _ ?_ | refine LowI.sl _ _ _ _ ?_)), by first | exact lm_nil | exact lm_cons (dM_low _) lm_nil, by simp [jG, dG], by simp [dMs]⟩ ; (repeat (first | exact li_nil | exact lb_nil | refine lb_cons ?_ ?_ | refine li_cons ?_ ?_ | exact dB_lowI (by simp [ResIds, dG, dMs, jG]) (by simp [ResIds, dG, dMs, jG]) _ | exact li_low (dC_low _) | exact LowI.ptr _ _ (by simp [ResIds, dG, dMs, jG]) | exact LowI.mref _ (by simp [ResIds, dG, dMs, jG]) | exact LowI.msl _ _ _ _ (by simp [ResIds, dG, dMs, jG]) | exact LowI.val _ | exact LowI.nilsl | exact Low.lowI (low_pputs _) | exact Low.lowI (psec_low _) | exact li_low (secL_low _) | exact li_low (by assumption) | refine LowI.agg _ ?_ | refine LowI.fn _ _ ?_ | refine LowI.tup _ ?_ | refine LowI.sl _ _ _ _ ?_)))) ?_
  have hap : ∀ e, jApE N at_ most l = e → e ≠ 0 → D.apply N at_ most l = D := fun e h1 h2 => by rw [DM.apply, if_neg]; rw [h1]; exact fun h => h2 h.1
  have hrm := pw_room most
  have hsz := dc_Size D 1000001 1000002 1000003 (by decide)
  have hdl := h.len
  rw [hdl] at hsz
  have hrr : 0 ≤ roomI most ∧ roomI most ≤ 2000 := by unfold roomI numbersI; rw [if_neg (by omega)]; omega
  by_cases hmost : most < l.length
  · have ea : jApE N at_ most l = 2 := by rw [jApE, if_pos hmost]
    rw [ea, hap 2 ea (by decide)]
    refine wk ?_
    exact RetH.mk rfl (Weak.refl _) ⟨⟨_, rfl, WeakL.refl _⟩, ⟨_, rfl, WeakL.refl _⟩, ⟨_, rfl, WeakL.refl _⟩, trivial⟩ ⟨⟨rfl, rfl⟩, trivial⟩
  · refine wk ?_
    refine PW.loop (fun i : Nat => (((((((((bot.setb 1000004 (jB 1000001 at_ most)).setb 1000001 (dB 1000002 1000003 D)).setb 1000002 (dC D)).setm 1000003 (dM D)).put 0 (.ptr 1000004 0)).put 1 (pputs l)).put 4 (pint 0)).put 18 (pputs l)).put 19 (pint l.length)).put 20 (pint i)) (fun i => i ≤ l.length ∧ ∀ j, j < i → badP N at_ most (l.getD j default) = false) (fun i => l.length - i) 0 ⟨by omega, fun j hj => by omega⟩ ?_ ?_
    · exact sb
    · intro i ⟨hi, hgood⟩
      by_cases hlt : i < l.length
      · by_cases hb : badP N at_ most (l.getD i default) = true
        · have ea := jApE_bad hmost hlt hb
          rw [ea, hap 1 ea (by decide)]
          simp only [badP, decide_eq_true_eq] at hb
          generalize roomI most = R at *
          by_cases b1 : (l.getD i default).sec < 0
          · refine wk ?_
            exact RetH.mk rfl (Weak.refl _) ⟨⟨_, rfl, WeakL.refl _⟩, ⟨_, rfl, WeakL.refl _⟩, ⟨_, rfl, WeakL.refl _⟩, trivial⟩ ⟨⟨rfl, rfl⟩, trivial⟩
          · by_cases b2 : (N : Int) ≤ (l.getD i default).sec
            · refine wk ?_
              exact RetH.mk rfl (Weak.refl _) ⟨⟨_, rfl, WeakL.refl _⟩, ⟨_, rfl, WeakL.refl _⟩, ⟨_, rfl, WeakL.refl _⟩, trivial⟩ ⟨⟨rfl, rfl⟩, trivial⟩
            · have b3 : at_ ≤ (l.getD i default).sec := by omega
              have b4 : (l.getD i default).sec < at_ + R := by omega
              refine wk ?_
              exact RetH.mk rfl (Weak.refl _) ⟨⟨_, rfl, WeakL.refl _⟩, ⟨_, rfl, WeakL.refl _⟩, ⟨_, rfl, WeakL.refl _⟩, trivial⟩ ⟨⟨rfl, rfl⟩, trivial⟩
        · have hb' : badP N at_ most (l.getD i default) = false := by simpa using hb
          have hg2 : ∀ j, j < i + 1 → badP N at_ most (l.getD j default) = false := by
            intro j hj
            by_cases e : j = i
            · subst e; exact hb'
            · exact hgood j (by omega)
          simp only [badP, decide_eq_false_iff_not, not_or] at hb'
          obtain ⟨b1, b2, b3⟩ := hb'
          clear hgood hap hb
          by_cases b4 : at_ ≤ (l.getD i default).sec
          · have b5 : ¬ (l.getD i default).sec < at_ + roomI most := fun e => b3 ⟨b4, e⟩
            clear b3
            generalize roomI most = R at *
            refine wk ?_
            refine loopP (i + 1) ⟨by omega, hg2⟩ (by omega) ?_
            exact sb
          · clear b3
            generalize roomI most = R at *
            refine wk ?_
            refine loopP (i + 1) ⟨by omega, hg2⟩ (by omega) ?_
            exact sb
      · have e : i = l.length := by omega
        subst e
        have eg := jApE_good hmost hgood
        have hin := badP_in hgood
        clear hgood
        refine wk ?_
        refine PWops.mkM rfl rfl rfl rfl ?_
        refine wk ?_
        have hmd : ∀ i, i ≤ l.length → (metL l i).length = i := fun i _ => by simp [metL]
        refine PW.loop (fun i : Nat => (((((((((((bot.setb 1000004 (jB 1000001 at_ most)).setb 1000001 (dB 1000002 1000003 D)).setb 1000002 (dC D)).setm 1000003 (dM D)).setm 9000 (.map ((metL l i).map mE) i)).put 0 (.ptr 1000004 0)).put 1 (pputs l)).put 4 (pint 0)).put 7 (.mref 9000)).put 63 (pputs l)).put 64 (pint l.length)).put 65 (pint i)) (fun i => i ≤ l.length ∧ ((l.take i).map PPut.sec).Nodup) (fun i => l.length - i) 0 ⟨by omega, by simp⟩ ?_ ?_
        · have m1 := met_low (metL l 0)
          exact sb
        · intro i ⟨hi, hnd⟩
          by_cases hlt : i < l.length
          · have hms := metL_secs l i hi
            by_cases hin2 : (l.getD i default).sec ∈ (metL l i).map (·.2)
            · have ea : jApE N at_ most l = 6 := by
                rw [eg, if_neg]
                intro hn
                have h2 : l.take (i + 1) = l.take i ++ [l.getD i default] := take_getD default hlt
                have h3 : ((l.take (i + 1)).map PPut.sec).Nodup := by
                  rw [List.map_take]; exact hn.sublist (List.take_sublist _ _)
                rw [h2, List.map_append, List.nodup_append] at h3
                rw [hms] at hin2
                exact h3.2.2 _ hin2 _ (by simp) rfl
              rw [ea, hap 6 ea (by decide)]
              refine wk ?_
              refine PWops.lkp rfl rfl rfl rfl rfl rfl rfl rfl rfl rfl rfl (met_get _ _ rfl rfl) ?_
              rw [decide_eq_true hin2]
              refine wk ?_
              exact RetH.mk rfl (Weak.refl _) ⟨⟨_, rfl, WeakL.refl _⟩, ⟨_, rfl, WeakL.refl _⟩, ⟨_, rfl, WeakL.refl _⟩, trivial⟩ ⟨⟨rfl, rfl⟩, trivial⟩
            · have hms2 := metL_succ l i
              have m1 := met_low (metL l (i + 1))
              have hnd2 : ((l.take (i + 1)).map PPut.sec).Nodup := by
                rw [take_getD default hlt, List.map_append, List.nodup_append]
                refine ⟨hnd, by simp, fun a ha b hb => ?_⟩
                simp at hb
                subst hb
                rintro rfl
                rw [hms] at hin2
                exact hin2 (by simpa using ha)
              have hput := met_put (l.getD i default).sec (metL l i) (ki := ⟨1, false, .int .i64, [.val (.int .i64 0)], []⟩) rfl hin2 i
              rw [← hms2] at hput
              refine wk ?_
              refine PWops.lkp rfl rfl rfl rfl rfl rfl rfl rfl rfl rfl rfl (met_get _ _ rfl rfl) ?_
              rw [decide_eq_false hin2]
              refine wk ?_
              refine PWops.mput rfl rfl rfl rfl rfl rfl rfl rfl rfl rfl rfl rfl hput ?_
              refine wk ?_
              refine loopP (i + 1) ⟨by omega, hnd2⟩ (by omega) ?_
              exact sb
          · have e : i = l.length := by omega
            subst e
            rw [List.take_length] at hnd
            have ea : jApE N at_ most l = 0 := by rw [eg, if_pos hnd]
            rw [ea]
            have mq := met_low (metL l l.length)
            by_cases hl0 : l.length = 0
            · have hdd : D.apply N at_ most l = D := by rw [DM.apply, if_neg]; omega
              rw [hdd]
              refine wk ?_
              exact RetH.mk rfl (Weak.refl _) ⟨⟨_, rfl, WeakL.refl _⟩, ⟨_, rfl, WeakL.refl _⟩, ⟨_, rfl, WeakL.refl _⟩, trivial⟩ ⟨⟨rfl, rfl⟩, trivial⟩
            · have hdd : D.apply N at_ most l = D.applied at_ most l := by rw [DM.apply, if_pos ⟨ea, by omega⟩]
              rw [hdd]
              have hle : (l.length : Int) ≤ most := by omega
              have hrn : roomI most = 1 + numbersI most + most := by unfold roomI; rw [if_neg (by omega)]
              have hnb : numbersI l.length ≤ 64 ∧ 0 ≤ numbersI l.length ∧ 0 ≤ numbersI most := by unfold numbersI; omega
              obtain ⟨al, ai⟩ := area_in l h0 m0 m1 hN hle
              have hai : InD N (areaJ at_ most l) := fun p hp => by have := ai p hp; omega
              obtain ⟨f1, -, -, -⟩ := h.four h0 (by omega) (areaJ at_ most l) hai (by omega) (fullHead l)
              have harea := jc_area at_ most D l h0 (by omega) m0 m1 (by omega) (by omega) 1000001 1000002 1000003 1000004 (by decide)
              have hput := jc_put at_ most D (areaJ at_ most l) 1000001 1000002 1000003 1000004 900005 900006 (by decide)
              have hsync := jc_sync at_ most D 1000001 1000002 1000003 1000004 (by decide)
              have hdig := pw_digest l (by omega) (by omega)
              have hhead := jc_head at_ most D l.length (digG l) (digG_len l) 1000001 1000002 1000003 1000004 900007 900008 900009 (by decide)
              have hall := jc_all most h at_ l.length h0 (by omega) (by omega) (by omega) (digG l) (digG_len l) (digG_ok l) (areaJ at_ most l) hai (by omega) (by omega) 1000001 1000002 1000003 1000004 900005 900006 900007 900008 900009 (by decide)
              have hfin := jc_finish most f1 at_ h0 (by omega) l hin (by omega) (by omega) 1000001 1000002 1000003 1000004 (by decide)
              have dl := digG_len l
              rw [show headSec l.length (digG l) (digG_len l) (digG_ok l) = fullHead l from rfl] at hall
              rw [show ofS glob0 240 (dParts l) = digG l from rfl] at hdig
              have c3 := dC_low (D.four at_ (areaJ at_ most l) (fullHead l))
              have c4 := dM_low (D.four at_ (areaJ at_ most l) (fullHead l))
              rw [DM.applied]
              generalize digG l = G at *
              generalize areaJ at_ most l = A at *
              generalize hD1 : D.four at_ A (fullHead l) = D1 at *
              generalize D1.four at_ l emptyHead = D2 at *
              clear hD1 f1 hai ai al hin hsz hrm eg hap mq hll
              refine wk ?_
              exact RetH.mk rfl (Weak.refl _) ⟨⟨_, rfl, WeakL.refl _⟩, ⟨_, rfl, WeakL.refl _⟩, ⟨_, rfl, WeakL.refl _⟩, trivial⟩ ⟨⟨rfl, rfl⟩, trivial⟩
theorem jc_apply (at_ most : Int) {N k : Nat} {D : DM} (h : OkD N k D) (h0 : 0 ≤ at_) (m0 : 1 ≤ most) (m1 : most ≤ 1024) (hN : at_ + roomI most ≤ N) (hNN : N ≤ 100000000) (l : List PPut) (hl : l.length ≤ 100000000) (hk : k + 10000 ≤ 100000000) (d c m j : Nat) (hd : ([d, c, m, j] : List Nat).Nodup) : HCalls Tryd.prog 13 [.ptr j 0, pputs l] (jG d c m j at_ most D) (dMs m D) (pint (jApE N at_ most l)) (jG d c m j at_ most (D.apply N at_ most l)) (dMs m (D.apply N at_ most l)) := by
  refine (jc_apply1 at_ most h h0 m0 m1 hN hNN l hl hk).at (ids4 d c m j) hd (by simp [ResIds, jG, dG, dMs, ids4]) (by simp [jG, dG]) (by simp [dMs]) ?_ ?_ ?_ ?_ ?_ ?_ <;> (repeat (first | exact RenL.nil | exact RenB.nil | exact RenMs.nil | exact RenMs.cons _ _ _ _ _ (RenM.low (dM_low _)) RenMs.nil | refine RenB.cons _ _ _ _ _ ?_ ?_ | exact RenL.low (dC_low _) | refine RenL.cons ?_ ?_ | exact Ren.ptr _ _ (by simp [ResIds, dG, dMs, jG]) | exact Ren.mref _ (by simp [ResIds, dG, dMs, jG]) | exact Ren.msl _ _ _ _ (by simp [ResIds, dG, dMs, jG]) | exact Ren.low _ (Low.val _) | exact Ren.low _ (low_pputs _) | exact Ren.low _ (psec_low _) | exact RenL.low (by assumption) | refine ren_agg ?_ | refine ren_fn ?_ | refine ren_sl ?_))
end Go.Proofs.YtilcpcpmkklobaaDoor

/- The journal: it is opened. -/
namespace Go.Proofs.YtilcpcpmkklobaaDoor
set_option linter.unusedSimpArgs false
set_option linter.unusedVariables false
set_option linter.unnecessarySimpa false
open Go.RowKit

theorem ren_tup {ρ : Nat → Nat} {S : Nat → Prop} {ps qs : List PV} (h : RenL ρ S ps qs) : Ren ρ S (.tup ps) (.tup qs) := .tup _ _ h.1 h.2
/-- Two steps: the head, and all is made durable. -/
def steps2 (c d e f : Nat) : PV := .sl 2 1 [headF c d e, syncF f] none
theorem steps2_ren {ρ : Nat → Nat} {S : Nat → Prop} {c d e f : Nat} (h3 : S c) (h4 : S d) (h5 : S e) (h6 : S f) : Ren ρ S (steps2 c d e f) (steps2 (ρ c) (ρ d) (ρ e) (ρ f)) := by
  have k2 : RenL ρ S [.ptr f 0] [.ptr (ρ f) 0] := .cons (.ptr _ _ h6) .nil
  have k3 : RenL ρ S [.ptr d 0, .ptr e 0, .ptr c 0] [.ptr (ρ d) 0, .ptr (ρ e) 0, .ptr (ρ c) 0] := .cons (.ptr _ _ h4) (.cons (.ptr _ _ h5) (.cons (.ptr _ _ h3) .nil))
  have k : RenL ρ S [headF c d e, syncF f] [headF (ρ c) (ρ d) (ρ e), syncF (ρ f)] := .cons (.fn _ _ _ k3.1 k3.2) (.cons (.fn _ _ _ k2.1 k2.2) .nil)
  exact .sl _ _ _ _ k.1 k.2
def DM.two (D : DM) (at_ : Int) (g : Sec) : DM := (D.write at_ g).2.sync.2
def DM.twoI (D : DM) (at_ : Int) (g : Sec) : Nat → DM
  | 0 => D
  | 1 => (D.write at_ g).2
  | _ => D.two at_ g
theorem OkD.two {N k : Nat} {D : DM} (h : OkD N k D) {at_ : Int} (h0 : 0 ≤ at_) (h1 : at_ < N) (hk : k + 3 ≤ 100000000) (g : Sec) : OkD N (k + 3) (D.two at_ g) ∧ (D.two at_ g).op = [] ∧ ∀ q : Int, 0 ≤ q → q < N → (D.two at_ g).read q = if q = at_ then (g, 0) else D.read q := by
  have hN : 0 < N := by omega
  obtain ⟨w1, w2, w3⟩ := h.write h0 h1 (by omega) g
  obtain ⟨t1, t2, t3, t4⟩ := w2.sync_ok hN
  exact ⟨t2.mono (by omega), t4, fun q q0 q1 => by rw [DM.two, w2.read_sync hN q0 q1, h.read_write h0 h1 (by omega) g q0 q1]⟩

set_option maxRecDepth 10000 in
set_option maxHeartbeats 2000000 in
theorem jc_all21 (most : Int) {N k : Nat} {D : DM} (h : OkD N k D) (at_ n : Int) (h0 : 0 ≤ at_) (h1 : at_ < N) (n0 : 0 ≤ n) (n1 : n < 65536) (G : List Int) (hG : G.length = 16) (hr : ∀ x ∈ G, 0 ≤ x ∧ x < 256) (hk : k + 3 ≤ 100000000) (hNN : N ≤ 1000000000) : HCalls Tryd.prog 28 [steps2 1000005 1000006 1000007 1000001]
    ((1000005, [.ptr 1000004 0]) :: (1000006, [pint n]) :: (1000007, G.map pbyte) :: jG 1000001 1000002 1000003 1000004 at_ most D) (dMs 1000003 D) (pint 0)
    ((1000005, [.ptr 1000004 0]) :: (1000006, [pint n]) :: (1000007, G.map pbyte) :: jG 1000001 1000002 1000003 1000004 at_ most (D.two at_ (headSec n G hG hr))) (dMs 1000003 (D.two at_ (headSec n G hG hr))) := by
  have hN : 0 < N := by omega
  obtain ⟨w1, w2, -⟩ := h.write h0 h1 (by omega) (headSec n G hG hr)
  obtain ⟨t1, t2, -, -⟩ := w2.sync_ok hN
  have hhead := jc_headS h at_ most n h0 h1 (by omega) n0 n1 G hG hr 1000001 1000002 1000003 1000004 1000005 1000006 1000007 (by decide)
  have hlG : ∀ c ∈ G.map pbyte, Low c := low_map (fun _ => Low.val _) _
  have c1 := dC_low D
  have c2 := dM_low D
  have c3 := dC_low (D.two at_ (headSec n G hG hr))
  have c4 := dM_low (D.two at_ (headSec n G hG hr))
  refine hcalls_of_pw typeTab_ok Tryd.func28 rfl rfl (by simp [PV.ownB, steps2]) (Nat.le_of_ble_eq_true rfl) (by simp [ResIds, jG, dG, dMs]) (by simp [ResIds, jG, dG, dMs]) (by (refine ⟨by (repeat (first | exact li_nil | exact lb_nil | refine lb_cons ?_ ?_ | refine li_cons ?_ ?_ | exact dB_lowI (by simp [ResIds, dG, dMs, jG]) (by simp [ResIds, dG, dMs, jG]) _ | exact li_low (dC_low _) | exact LowI.ptr _ _ (by simp [ResIds, dG, dMs, jG]) | exact LowI.mref _ (by simp [ResIds, dG, dMs, jG]) | exact LowI.msl _ _ _ _ (by simp [ResIds, dG, dMs, jG]) | exact LowI.val _ | exact LowI.nilsl | exact Low.lowI (low_pputs _) | exact Low.lowI (psec_low _) | exact li_low (secL_low _) | exact li_low (by assumption) | refine LowI.agg _ ?_ | refine LowI.fn _ _ ?_ | refine LowI.tup _ ?_ | refine LowI.sl _ _ _ _ ?_)), by (repeat (first | exact li_nil | exact lb_nil | refine lb_cons ?_ ?_ | refine li_cons ?_ ?_ | exact dB_lowI (by simp [ResIds, dG, dMs, jG]) (by simp [ResIds, dG, dMs, jG]) _ | exact li_low (dC_low _) | exact LowI.ptr _ _ (by simp [ResIds, dG, dMs, jG]) | exact LowI.mref _ (by simp [ResIds, dG, dMs, jG]) | exact LowI.msl _ _ _ _ (by simp [ResIds, dG, dMs, jG]) | exact LowI.val _ | exact LowI.nilsl | exact Low.lowI (low_pputs _) | exact Low.lowI (psec_low _) | exact li_low (secL_low _) | exact li_low (by assumption) | refine LowI.agg _ ?_ | refine LowI.fn _ _ ?_ | refine LowI.tup _ ?_ | refine LowI.sl _ _ _ _ ?_)), by first | exact lm_nil | exact lm_cons (dM_low _) lm_nil, ?_, by (repeat (first | exact li_nil | exact lb_nil | refine lb_cons ?_ ?_ | refine li_cons ?_ ?_ | exact dB_lowI (by simp [ResIds, dG, dMs, jG]) (by simp [ResIds, dG, dMs, jG]) _ | exact li_low (dC_low _) | exact LowI.ptr _ _ (by simp [ResIds, dG, dMs, jG]) | exact LowI.mref _ (by simp [ResIds, dG, dMs, jG]) | exact LowI.msl _ _ _ _ (by simp [ResIds, dG, dMs, jG]) | exact LowI.val _ | exact LowI.nilsl | exact Low.lowI (low_pputs _) | exact Low.lowI (psec_low _) | exact li_low (secL_low _) | exact li_low (by assumption) | refine LowI.agg _ ?_ | refine LowI.fn _ _ ?_ | refine LowI.tup _ ?_ | refine LowI.sl _ _ _ _ ?_)), by first | exact lm_nil | exact lm_cons (dM_low _) lm_nil, by simp [jG, dG], by simp [dMs]⟩ ; (repeat (first | exact li_nil | exact lb_nil | refine lb_cons ?_ ?_ | refine li_cons ?_ ?_ | exact dB_lowI (by simp [ResIds, dG, dMs, jG]) (by simp [ResIds, dG, dMs, jG]) _ | exact li_low (dC_low _) | exact LowI.ptr _ _ (by simp [ResIds, dG, dMs, jG]) | exact LowI.mref _ (by simp [ResIds, dG, dMs, jG]) | exact LowI.msl _ _ _ _ (by simp [ResIds, dG, dMs, jG]) | exact LowI.val _ | exact LowI.nilsl | exact Low.lowI (low_pputs _) | exact Low.lowI (psec_low _) | exact li_low (secL_low _) | exact li_low (by assumption) | refine LowI.agg _ ?_ | refine LowI.fn _ _ ?_ | refine LowI.tup _ ?_ | refine LowI.sl _ _ _ _ ?_)))) ?_
  have hy2 := dc_Sync _ ⟨w2.steps.1, by have := w2.steps; omega, by rw [w2.after]; omega⟩ (by rw [w2.after]; omega) (by rw [w2.len]; omega) (by rw [w2.len]; exact w2.op) 1000001 1000002 1000003 (by decide)
  rw [t1] at hy2
  have f1 := fun i => dC_low (D.twoI at_ (headSec n G hG hr) i)
  have f2 := fun i => dM_low (D.twoI at_ (headSec n G hG hr) i)
  refine wk ?_
  refine PW.loop (fun i : Nat => (((((((((bot.setb 1000005 [.ptr 1000004 0]).setb 1000006 [pint n]).setb 1000007 (G.map pbyte)).setb 1000004 (jB 1000001 at_ most)).setb 1000001 (dB 1000002 1000003 (D.twoI at_ (headSec n G hG hr) i))).setb 1000002 (dC (D.twoI at_ (headSec n G hG hr) i))).setm 1000003 (dM (D.twoI at_ (headSec n G hG hr) i))).put 6 (steps2 1000005 1000006 1000007 1000001)).put 7 (pint 2)).put 8 (pint i)) (fun i => i ≤ 2) (fun i => 2 - i) 0 (by omega) ?_ ?_
  · have g1 := f1 0
    have g2 := f2 0
    (refine Sub.same ?_ ; (repeat (first | exact SubR.bot | ((with_reducible refine SubR.isp ?_) ; refine SubR.put ?_ (.inl (steps2_ren (ρ := fun i => i) rfl rfl rfl rfl))) | ((with_reducible refine SubR.isp ?_) ; refine SubR.put ?_ (by (first | exact .inl (.ptr _ _ rfl) | exact .inl (.msl _ _ _ _ rfl) | exact .inl (.mref _ rfl) | exact .inl (.low _ (by (first | exact low_mapI | exact low_mapS | exact low_mapB | assumption | exact hlow _ | exact hlow _ _ | exact Low.agg _ (low_map (fun _ => Low.val _) _) | (simp [low_pu32, low_pu64, low_val, low_nilsl, low_sl, low_ep, low_agg, low_tup, low_fn, low_pint, low_pstr, low_pbool, low_pints, low_pstrs, low_pbyte, low_pbytes, hlow] ; done) | (simp [low_pu32, low_pu64, low_val, low_nilsl, low_sl, low_ep, low_agg, low_tup, low_fn, low_pint, low_pstr, low_pbool, low_pints, low_pstrs, low_pbyte, low_pbytes] ; done) | simp [low_pu32, low_pu64, low_val, low_nilsl, low_sl, low_ep, low_agg, low_tup, low_fn, low_pint, low_pstr, low_pbool, low_pints, low_pstrs, low_pbyte, low_pbytes, low_pattrs, low_pdefs, low_pschema, low_pentry]))) | exact .inr (.inl (.low _ (by (first | exact low_mapI | exact low_mapS | exact low_mapB | assumption | exact hlow _ | exact hlow _ _ | exact Low.agg _ (low_map (fun _ => Low.val _) _) | (simp [low_pu32, low_pu64, low_val, low_nilsl, low_sl, low_ep, low_agg, low_tup, low_fn, low_pint, low_pstr, low_pbool, low_pints, low_pstrs, low_pbyte, low_pbytes, hlow] ; done) | (simp [low_pu32, low_pu64, low_val, low_nilsl, low_sl, low_ep, low_agg, low_tup, low_fn, low_pint, low_pstr, low_pbool, low_pints, low_pstrs, low_pbyte, low_pbytes] ; done) | simp [low_pu32, low_pu64, low_val, low_nilsl, low_sl, low_ep, low_agg, low_tup, low_fn, low_pint, low_pstr, low_pbool, low_pints, low_pstrs, low_pbyte, low_pbytes, low_pattrs, low_pdefs, low_pschema, low_pentry])))) | exact .inr (.inr ⟨_, _, rfl, rfl⟩)))) | ((with_reducible refine SubR.isb ?_) ; refine SubR.setb ?_ rfl rfl (by (first | exact RenQL.low (by first | assumption | exact hlow _ | exact hlow _ _ | exact low_map (fun _ => Low.val _) _) | exact RenQL.lowE (by assumption) (low_map (fun _ => Low.val _) _) | ((repeat (refine RenQL.cons (by (first | exact .inl (.ptr _ _ rfl) | exact .inl (.msl _ _ _ _ rfl) | exact .inl (.mref _ rfl) | exact .inl (.low _ (by (first | exact low_mapI | exact low_mapS | exact low_mapB | assumption | exact hlow _ | exact hlow _ _ | exact Low.agg _ (low_map (fun _ => Low.val _) _) | (simp [low_pu32, low_pu64, low_val, low_nilsl, low_sl, low_ep, low_agg, low_tup, low_fn, low_pint, low_pstr, low_pbool, low_pints, low_pstrs, low_pbyte, low_pbytes, hlow] ; done) | (simp [low_pu32, low_pu64, low_val, low_nilsl, low_sl, low_ep, low_agg, low_tup, low_fn, low_pint, low_pstr, low_pbool, low_pints, low_pstrs, low_pbyte, low_pbytes] ; done) | simp [low_pu32, low_pu64, low_val, low_nilsl, low_sl, low_ep, low_agg, low_tup, low_fn, low_pint, low_pstr, low_pbool, low_pints, low_pstrs, low_pbyte, low_pbytes, low_pattrs, low_pdefs, low_pschema, low_pentry]))) | exact .inr (.inl (.low _ (by (first | exact low_mapI | exact low_mapS | exact low_mapB | assumption | exact hlow _ | exact hlow _ _ | exact Low.agg _ (low_map (fun _ => Low.val _) _) | (simp [low_pu32, low_pu64, low_val, low_nilsl, low_sl, low_ep, low_agg, low_tup, low_fn, low_pint, low_pstr, low_pbool, low_pints, low_pstrs, low_pbyte, low_pbytes, hlow] ; done) | (simp [low_pu32, low_pu64, low_val, low_nilsl, low_sl, low_ep, low_agg, low_tup, low_fn, low_pint, low_pstr, low_pbool, low_pints, low_pstrs, low_pbyte, low_pbytes] ; done) | simp [low_pu32, low_pu64, low_val, low_nilsl, low_sl, low_ep, low_agg, low_tup, low_fn, low_pint, low_pstr, low_pbool, low_pints, low_pstrs, low_pbyte, low_pbytes, low_pattrs, low_pdefs, low_pschema, low_pentry])))) | exact .inr (.inr ⟨_, _, rfl, rfl⟩))) ?_)) ; exact RenQL.nil)))) | ((with_reducible refine SubR.ism ?_) ; refine SubR.setm ?_ rfl rfl (by (first | exact ⟨rfl, rfl, rfl, rfl, rfl⟩ | exact RenM.low (by first | assumption | exact hlowm _ | exact hlowm _ _)))))))
  · intro i hi
    have hq : i = 0 ∨ i = 1 ∨ i = 2 := by omega
    rcases hq with rfl | rfl | rfl
    · have g1 := f1 1
      have g2 := f2 1
      rw [show D.twoI at_ (headSec n G hG hr) 0 = D from rfl]
      refine wk ?_
      refine loopP 1 (by omega) (by omega) ?_
      rw [show D.twoI at_ (headSec n G hG hr) 1 = (D.write at_ (headSec n G hG hr)).2 from rfl] at g1 g2 ⊢
      (refine Sub.same ?_ ; (repeat (first | exact SubR.bot | ((with_reducible refine SubR.isp ?_) ; refine SubR.put ?_ (.inl (steps2_ren (ρ := fun i => i) rfl rfl rfl rfl))) | ((with_reducible refine SubR.isp ?_) ; refine SubR.put ?_ (by (first | exact .inl (.ptr _ _ rfl) | exact .inl (.msl _ _ _ _ rfl) | exact .inl (.mref _ rfl) | exact .inl (.low _ (by (first | exact low_mapI | exact low_mapS | exact low_mapB | assumption | exact hlow _ | exact hlow _ _ | exact Low.agg _ (low_map (fun _ => Low.val _) _) | (simp [low_pu32, low_pu64, low_val, low_nilsl, low_sl, low_ep, low_agg, low_tup, low_fn, low_pint, low_pstr, low_pbool, low_pints, low_pstrs, low_pbyte, low_pbytes, hlow] ; done) | (simp [low_pu32, low_pu64, low_val, low_nilsl, low_sl, low_ep, low_agg, low_tup, low_fn, low_pint, low_pstr, low_pbool, low_pints, low_pstrs, low_pbyte, low_pbytes] ; done) | simp [low_pu32, low_pu64, low_val, low_nilsl, low_sl, low_ep, low_agg, low_tup, low_fn, low_pint, low_pstr, low_pbool, low_pints, low_pstrs, low_pbyte, low_pbytes, low_pattrs, low_pdefs, low_pschema, low_pentry]))) | exact .inr (.inl (.low _ (by (first | exact low_mapI | exact low_mapS | exact low_mapB | assumption | exact hlow _ | exact hlow _ _ | exact Low.agg _ (low_map (fun _ => Low.val _) _) | (simp [low_pu32, low_pu64, low_val, low_nilsl, low_sl, low_ep, low_agg, low_tup, low_fn, low_pint, low_pstr, low_pbool, low_pints, low_pstrs, low_pbyte, low_pbytes, hlow] ; done) | (simp [low_pu32, low_pu64, low_val, low_nilsl, low_sl, low_ep, low_agg, low_tup, low_fn, low_pint, low_pstr, low_pbool, low_pints, low_pstrs, low_pbyte, low_pbytes] ; done) | simp [low_pu32, low_pu64, low_val, low_nilsl, low_sl, low_ep, low_agg, low_tup, low_fn, low_pint, low_pstr, low_pbool, low_pints, low_pstrs, low_pbyte, low_pbytes, low_pattrs, low_pdefs, low_pschema, low_pentry])))) | exact .inr (.inr ⟨_, _, rfl, rfl⟩)))) | ((with_reducible refine SubR.isb ?_) ; refine SubR.setb ?_ rfl rfl (by (first | exact RenQL.low (by first | assumption | exact hlow _ | exact hlow _ _ | exact low_map (fun _ => Low.val _) _) | exact RenQL.lowE (by assumption) (low_map (fun _ => Low.val _) _) | ((repeat (refine RenQL.cons (by (first | exact .inl (.ptr _ _ rfl) | exact .inl (.msl _ _ _ _ rfl) | exact .inl (.mref _ rfl) | exact .inl (.low _ (by (first | exact low_mapI | exact low_mapS | exact low_mapB | assumption | exact hlow _ | exact hlow _ _ | exact Low.agg _ (low_map (fun _ => Low.val _) _) | (simp [low_pu32, low_pu64, low_val, low_nilsl, low_sl, low_ep, low_agg, low_tup, low_fn, low_pint, low_pstr, low_pbool, low_pints, low_pstrs, low_pbyte, low_pbytes, hlow] ; done) | (simp [low_pu32, low_pu64, low_val, low_nilsl, low_sl, low_ep, low_agg, low_tup, low_fn, low_pint, low_pstr, low_pbool, low_pints, low_pstrs, low_pbyte, low_pbytes] ; done) | simp [low_pu32, low_pu64, low_val, low_nilsl, low_sl, low_ep, low_agg, low_tup, low_fn, low_pint, low_pstr, low_pbool, low_pints, low_pstrs, low_pbyte, low_pbytes, low_pattrs, low_pdefs, low_pschema, low_pentry]))) | exact .inr (.inl (.low _ (by (first | exact low_mapI | exact low_mapS | exact low_mapB | assumption | exact hlow _ | exact hlow _ _ | exact Low.agg _ (low_map (fun _ => Low.val _) _) | (simp [low_pu32, low_pu64, low_val, low_nilsl, low_sl, low_ep, low_agg, low_tup, low_fn, low_pint, low_pstr, low_pbool, low_pints, low_pstrs, low_pbyte, low_pbytes, hlow] ; done) | (simp [low_pu32, low_pu64, low_val, low_nilsl, low_sl, low_ep, low_agg, low_tup, low_fn, low_pint, low_pstr, low_pbool, low_pints, low_pstrs, low_pbyte, low_pbytes] ; done) | simp [low_pu32, low_pu64, low_val, low_nilsl, low_sl, low_ep, low_agg, low_tup, low_fn, low_pint, low_pstr, low_pbool, low_pints, low_pstrs, low_pbyte, low_pbytes, low_pattrs, low_pdefs, low_pschema, low_pentry])))) | exact .inr (.inr ⟨_, _, rfl, rfl⟩))) ?_)) ; exact RenQL.nil)))) | ((with_reducible refine SubR.ism ?_) ; refine SubR.setm ?_ rfl rfl (by (first | exact ⟨rfl, rfl, rfl, rfl, rfl⟩ | exact RenM.low (by first | assumption | exact hlowm _ | exact hlowm _ _)))))))
    · have g1 := f1 2
      have g2 := f2 2
      rw [show D.twoI at_ (headSec n G hG hr) 1 = (D.write at_ (headSec n G hG hr)).2 from rfl]
      refine wk ?_
      refine loopP 2 (by omega) (by omega) ?_
      rw [show D.twoI at_ (headSec n G hG hr) 2 = D.two at_ (headSec n G hG hr) from rfl] at g1 g2 ⊢
      (refine Sub.same ?_ ; (repeat (first | exact SubR.bot | ((with_reducible refine SubR.isp ?_) ; refine SubR.put ?_ (.inl (steps2_ren (ρ := fun i => i) rfl rfl rfl rfl))) | ((with_reducible refine SubR.isp ?_) ; refine SubR.put ?_ (by (first | exact .inl (.ptr _ _ rfl) | exact .inl (.msl _ _ _ _ rfl) | exact .inl (.mref _ rfl) | exact .inl (.low _ (by (first | exact low_mapI | exact low_mapS | exact low_mapB | assumption | exact hlow _ | exact hlow _ _ | exact Low.agg _ (low_map (fun _ => Low.val _) _) | (simp [low_pu32, low_pu64, low_val, low_nilsl, low_sl, low_ep, low_agg, low_tup, low_fn, low_pint, low_pstr, low_pbool, low_pints, low_pstrs, low_pbyte, low_pbytes, hlow] ; done) | (simp [low_pu32, low_pu64, low_val, low_nilsl, low_sl, low_ep, low_agg, low_tup, low_fn, low_pint, low_pstr, low_pbool, low_pints, low_pstrs, low_pbyte, low_pbytes] ; done) | simp [low_pu32, low_pu64, low_val, low_nilsl, low_sl, low_ep, low_agg, low_tup, low_fn, low_pint, low_pstr, low_pbool, low_pints, low_pstrs, low_pbyte, low_pbytes, low_pattrs, low_pdefs, low_pschema, low_pentry]))) | exact .inr (.inl (.low _ (by (first | exact low_mapI | exact low_mapS | exact low_mapB | assumption | exact hlow _ | exact hlow _ _ | exact Low.agg _ (low_map (fun _ => Low.val _) _) | (simp [low_pu32, low_pu64, low_val, low_nilsl, low_sl, low_ep, low_agg, low_tup, low_fn, low_pint, low_pstr, low_pbool, low_pints, low_pstrs, low_pbyte, low_pbytes, hlow] ; done) | (simp [low_pu32, low_pu64, low_val, low_nilsl, low_sl, low_ep, low_agg, low_tup, low_fn, low_pint, low_pstr, low_pbool, low_pints, low_pstrs, low_pbyte, low_pbytes] ; done) | simp [low_pu32, low_pu64, low_val, low_nilsl, low_sl, low_ep, low_agg, low_tup, low_fn, low_pint, low_pstr, low_pbool, low_pints, low_pstrs, low_pbyte, low_pbytes, low_pattrs, low_pdefs, low_pschema, low_pentry])))) | exact .inr (.inr ⟨_, _, rfl, rfl⟩)))) | ((with_reducible refine SubR.isb ?_) ; refine SubR.setb ?_ rfl rfl (by (first | exact RenQL.low (by first | assumption | exact hlow _ | exact hlow _ _ | exact low_map (fun _ => Low.val _) _) | exact RenQL.lowE (by assumption) (low_map (fun _ => Low.val _) _) | ((repeat (refine RenQL.cons (by (first | exact .inl (.ptr _ _ rfl) | exact .inl (.msl _ _ _ _ rfl) | exact .inl (.mref _ rfl) | exact .inl (.low _ (by (first | exact low_mapI | exact low_mapS | exact low_mapB | assumption | exact hlow _ | exact hlow _ _ | exact Low.agg _ (low_map (fun _ => Low.val _) _) | (simp [low_pu32, low_pu64, low_val, low_nilsl, low_sl, low_ep, low_agg, low_tup, low_fn, low_pint, low_pstr, low_pbool, low_pints, low_pstrs, low_pbyte, low_pbytes, hlow] ; done) | (simp [low_pu32, low_pu64, low_val, low_nilsl, low_sl, low_ep, low_agg, low_tup, low_fn, low_pint, low_pstr, low_pbool, low_pints, low_pstrs, low_pbyte, low_pbytes] ; done) | simp [low_pu32, low_pu64, low_val, low_nilsl, low_sl, low_ep, low_agg, low_tup, low_fn, low_pint, low_pstr, low_pbool, low_pints, low_pstrs, low_pbyte, low_pbytes, low_pattrs, low_pdefs, low_pschema, low_pentry]))) | exact .inr (.inl (.low _ (by (first | exact low_mapI | exact low_mapS | exact low_mapB | assumption | exact hlow _ | exact hlow _ _ | exact Low.agg _ (low_map (fun _ => Low.val _) _) | (simp [low_pu32, low_pu64, low_val, low_nilsl, low_sl, low_ep, low_agg, low_tup, low_fn, low_pint, low_pstr, low_pbool, low_pints, low_pstrs, low_pbyte, low_pbytes, hlow] ; done) | (simp [low_pu32, low_pu64, low_val, low_nilsl, low_sl, low_ep, low_agg, low_tup, low_fn, low_pint, low_pstr, low_pbool, low_pints, low_pstrs, low_pbyte, low_pbytes] ; done) | simp [low_pu32, low_pu64, low_val, low_nilsl, low_sl, low_ep, low_agg, low_tup, low_fn, low_pint, low_pstr, low_pbool, low_pints, low_pstrs, low_pbyte, low_pbytes, low_pattrs, low_pdefs, low_pschema, low_pentry])))) | exact .inr (.inr ⟨_, _, rfl, rfl⟩))) ?_)) ; exact RenQL.nil)))) | ((with_reducible refine SubR.ism ?_) ; refine SubR.setm ?_ rfl rfl (by (first | exact ⟨rfl, rfl, rfl, rfl, rfl⟩ | exact RenM.low (by first | assumption | exact hlowm _ | exact hlowm _ _)))))))
    · refine wk ?_
      exact RetH.mk rfl (Weak.refl _) ⟨⟨_, rfl, WeakL.refl _⟩, ⟨_, rfl, WeakL.refl _⟩, ⟨_, rfl, WeakL.refl _⟩, ⟨_, rfl, WeakL.refl _⟩, ⟨_, rfl, WeakL.refl _⟩, ⟨_, rfl, WeakL.refl _⟩, trivial⟩ ⟨⟨rfl, rfl⟩, trivial⟩
theorem jc_all2 (most : Int) {N k : Nat} {D : DM} (h : OkD N k D) (at_ n : Int) (h0 : 0 ≤ at_) (h1 : at_ < N) (n0 : 0 ≤ n) (n1 : n < 65536) (G : List Int) (hG : G.length = 16) (hr : ∀ x ∈ G, 0 ≤ x ∧ x < 256) (hk : k + 3 ≤ 100000000) (hNN : N ≤ 1000000000) (d c m j b2 b3 b4 : Nat) (hd : ([d, c, m, j, b2, b3, b4] : List Nat).Nodup) : HCalls Tryd.prog 28 [steps2 b2 b3 b4 d]
    ((b2, [.ptr j 0]) :: (b3, [pint n]) :: (b4, G.map pbyte) :: jG d c m j at_ most D) (dMs m D) (pint 0)
    ((b2, [.ptr j 0]) :: (b3, [pint n]) :: (b4, G.map pbyte) :: jG d c m j at_ most (D.two at_ (headSec n G hG hr))) (dMs m (D.two at_ (headSec n G hG hr))) := by
  have hl : ∀ c ∈ G.map pbyte, Low c := low_map (fun _ => Low.val _) _
  refine (jc_all21 most h at_ n h0 h1 n0 n1 G hG hr hk hNN).at (ids4 d c m j ++ [(1000005, b2), (1000006, b3), (1000007, b4)]) (by simpa [ids4] using hd) (by simp [ResIds, jG, dG, dMs, ids4]) (by simp [jG, dG]) (by simp [dMs]) ?_ ?_ ?_ ?_ ?_ ?_
  · exact .cons (steps2_ren (by simp [ResIds, dG, dMs, jG]) (by simp [ResIds, dG, dMs, jG]) (by simp [ResIds, dG, dMs, jG]) (by simp [ResIds, dG, dMs, jG])) .nil
  all_goals (repeat (first | exact RenL.nil | exact RenB.nil | exact RenMs.nil | exact RenMs.cons _ _ _ _ _ (RenM.low (dM_low _)) RenMs.nil | refine RenB.cons _ _ _ _ _ ?_ ?_ | exact RenL.low (dC_low _) | refine RenL.cons ?_ ?_ | exact Ren.ptr _ _ (by simp [ResIds, dG, dMs, jG]) | exact Ren.mref _ (by simp [ResIds, dG, dMs, jG]) | exact Ren.msl _ _ _ _ (by simp [ResIds, dG, dMs, jG]) | exact Ren.low _ (Low.val _) | exact Ren.low _ (low_pputs _) | exact Ren.low _ (psec_low _) | exact RenL.low (by assumption) | refine ren_agg ?_ | refine ren_fn ?_ | refine ren_sl ?_))

/-- The disk after it is opened. -/
def DM.opened (D : DM) (at_ : Int) : DM := if (D.read at_).2 = 221 then D.two at_ emptyHead else D
/-- The head is rotten, or empty. -/
def HeadOK (D : DM) (at_ : Int) : Prop := D.read at_ = (zeroSec, 221) ∨ ((D.read at_).2 = 0 ∧ (D.read at_).1.1.getD 0 0 = 0 ∧ (D.read at_).1.1.getD 1 0 = 0)
theorem secL_get (s : Sec) (j : Nat) (h : j < 64) : (secL s)[j]? = some (pbyte (s.1.getD j 0)) := by
  rw [secL, List.getElem?_map, List.getD_eq_getElem?_getD, List.getElem?_eq_getElem (by rw [s.2.1]; exact h)]; rfl

set_option maxRecDepth 10000 in
set_option maxHeartbeats 2000000 in
theorem jc_recover1 (most : Int) {N k : Nat} {D : DM} (h : OkD N k D) (at_ : Int) (h0 : 0 ≤ at_) (h1 : at_ < N) (hk : k + 3 ≤ 100000000) (hNN : N ≤ 1000000000) (hh : HeadOK D at_) : HCalls Tryd.prog 27 [.ptr 1000004 0] (jG 1000001 1000002 1000003 1000004 at_ most D) (dMs 1000003 D) (pint 0) (jG 1000001 1000002 1000003 1000004 at_ most (D.opened at_)) (dMs 1000003 (D.opened at_)) := by
  have c1 := dC_low D
  have c2 := dM_low D
  refine hcalls_of_pw typeTab_ok Tryd.func27 rfl rfl (by simp [PV.ownB]) (Nat.le_of_ble_eq_true rfl) (by simp [ResIds, jG, dG, dMs]) (by simp [ResIds, jG, dG, dMs]) (by (refine ⟨by (repeat (first | exact li_nil | exact lb_nil | refine lb_cons ?_ ?_ | refine li_cons ?_ ?_ | exact dB_lowI (by simp [ResIds, dG, dMs, jG]) (by simp [ResIds, dG, dMs, jG]) _ | exact li_low (dC_low _) | exact LowI.ptr _ _ (by simp [ResIds, dG, dMs, jG]) | exact LowI.mref _ (by simp [ResIds, dG, dMs, jG]) | exact LowI.msl _ _ _ _ (by simp [ResIds, dG, dMs, jG]) | exact LowI.val _ | exact LowI.nilsl | exact Low.lowI (low_pputs _) | exact Low.lowI (psec_low _) | exact li_low (secL_low _) | exact li_low (by assumption) | refine LowI.agg _ ?_ | refine LowI.fn _ _ ?_ | refine LowI.tup _ ?_ | refine LowI.sl _ _ _ _ ?_)), by (repeat (first | exact li_nil | exact lb_nil | refine lb_cons ?_ ?_ | refine li_cons ?_ ?_ | exact dB_lowI (by simp [ResIds, dG, dMs, jG]) (by simp [ResIds, dG, dMs, jG]) _ | exact li_low (dC_low _) | exact LowI.ptr _ _ (by simp [ResIds, dG, dMs, jG]) | exact LowI.mref _ (by simp [ResIds, dG, dMs, jG]) | exact LowI.msl _ _ _ _ (by simp [ResIds, dG, dMs, jG]) | exact LowI.val _ | exact LowI.nilsl | exact Low.lowI (low_pputs _) | exact Low.lowI (psec_low _) | exact li_low (secL_low _) | exact li_low (by assumption) | refine LowI.agg _ ?_ | refine LowI.fn _ _ ?_ | refine LowI.tup _ ?_ | refine LowI.sl _ _ _ _ ?_)), by first | exact lm_nil | exact lm_cons (dM_low _) lm_nil, ?_, by (repeat (first | exact li_nil | exact lb_nil | refine lb_cons ?_ ?_ | refine li_cons ?_ ?_ | exact dB_lowI (by simp [ResIds, dG, dMs, jG]) (by simp [ResIds, dG, dMs, jG]) _ | exact li_low (dC_low _) | exact LowI.ptr _ _ (by simp [ResIds, dG, dMs, jG]) | exact LowI.mref _ (by simp [ResIds, dG, dMs, jG]) | exact LowI.msl _ _ _ _ (by simp [ResIds, dG, dMs, jG]) | exact LowI.val _ | exact LowI.nilsl | exact Low.lowI (low_pputs _) | exact Low.lowI (psec_low _) | exact li_low (secL_low _) | exact li_low (by assumption) | refine LowI.agg _ ?_ | refine LowI.fn _ _ ?_ | refine LowI.tup _ ?_ | refine LowI.sl _ _ _ _ ?_)), by first | exact lm_nil | exact lm_cons (dM_low _) lm_nil, by simp [jG, dG], by simp [dMs]⟩ ; (repeat (first | exact li_nil | exact lb_nil | refine lb_cons ?_ ?_ | refine li_cons ?_ ?_ | exact dB_lowI (by simp [ResIds, dG, dMs, jG]) (by simp [ResIds, dG, dMs, jG]) _ | exact li_low (dC_low _) | exact LowI.ptr _ _ (by simp [ResIds, dG, dMs, jG]) | exact LowI.mref _ (by simp [ResIds, dG, dMs, jG]) | exact LowI.msl _ _ _ _ (by simp [ResIds, dG, dMs, jG]) | exact LowI.val _ | exact LowI.nilsl | exact Low.lowI (low_pputs _) | exact Low.lowI (psec_low _) | exact li_low (secL_low _) | exact li_low (by assumption) | refine LowI.agg _ ?_ | refine LowI.fn _ _ ?_ | refine LowI.tup _ ?_ | refine LowI.sl _ _ _ _ ?_)))) ?_
  have hread := dc_Read D at_ (by have := h.len; omega) (fun e he => by have := h.room e he; omega) 1000001 1000002 1000003 (by decide)
  rcases hh with hr | ⟨he, hs0, hs1⟩
  · rw [hr] at hread
    have e1 : D.opened at_ = D.two at_ emptyHead := by rw [DM.opened, hr]; rfl
    rw [e1]
    have hsync := jc_sync at_ most D 1000001 1000002 1000003 1000004 (by decide)
    have hhead := jc_head at_ most D 0 zeroDig rfl 1000001 1000002 1000003 1000004 900007 900008 900009 (by decide)
    have hall := jc_all2 most h at_ 0 h0 h1 (by decide) (by decide) zeroDig rfl zeroDig_ok hk hNN 1000001 1000002 1000003 1000004 900007 900008 900009 (by decide)
    rw [show headSec 0 zeroDig rfl zeroDig_ok = emptyHead from rfl] at hall
    generalize D.two at_ emptyHead = D2 at *
    refine wk ?_
    exact RetH.mk rfl (Weak.refl _) ⟨⟨_, rfl, WeakL.refl _⟩, ⟨_, rfl, WeakL.refl _⟩, ⟨_, rfl, WeakL.refl _⟩, trivial⟩ ⟨⟨rfl, rfl⟩, trivial⟩
  · have e1 : D.opened at_ = D := by rw [DM.opened, he]; rfl
    rw [e1]
    rw [he] at hread
    generalize (D.read at_).1 = s at *
    have g0 : (secL s)[0]? = some (pbyte 0) := by rw [secL_get s 0 (by decide), hs0]
    have g1 : (secL s)[1]? = some (pbyte 0) := by rw [secL_get s 1 (by decide), hs1]
    refine wk ?_
    refine PWops.ldB (c := pbyte 0) rfl rfl rfl rfl rfl rfl rfl rfl g0 rfl ?_
    refine wk ?_
    refine PWops.ldB (c := pbyte 0) rfl rfl rfl rfl rfl rfl rfl rfl g1 rfl ?_
    refine wk ?_
    exact RetH.mk rfl (Weak.refl _) ⟨⟨_, rfl, WeakL.refl _⟩, ⟨_, rfl, WeakL.refl _⟩, ⟨_, rfl, WeakL.refl _⟩, trivial⟩ ⟨⟨rfl, rfl⟩, trivial⟩
theorem jc_recover (most : Int) {N k : Nat} {D : DM} (h : OkD N k D) (at_ : Int) (h0 : 0 ≤ at_) (h1 : at_ < N) (hk : k + 3 ≤ 100000000) (hNN : N ≤ 1000000000) (hh : HeadOK D at_) (d c m j : Nat) (hd : ([d, c, m, j] : List Nat).Nodup) : HCalls Tryd.prog 27 [.ptr j 0] (jG d c m j at_ most D) (dMs m D) (pint 0) (jG d c m j at_ most (D.opened at_)) (dMs m (D.opened at_)) := by
  refine (jc_recover1 most h at_ h0 h1 hk hNN hh).at (ids4 d c m j) hd (by simp [ResIds, jG, dG, dMs, ids4]) (by simp [jG, dG]) (by simp [dMs]) ?_ ?_ ?_ ?_ ?_ ?_ <;> (repeat (first | exact RenL.nil | exact RenB.nil | exact RenMs.nil | exact RenMs.cons _ _ _ _ _ (RenM.low (dM_low _)) RenMs.nil | refine RenB.cons _ _ _ _ _ ?_ ?_ | exact RenL.low (dC_low _) | refine RenL.cons ?_ ?_ | exact Ren.ptr _ _ (by simp [ResIds, dG, dMs, jG]) | exact Ren.mref _ (by simp [ResIds, dG, dMs, jG]) | exact Ren.msl _ _ _ _ (by simp [ResIds, dG, dMs, jG]) | exact Ren.low _ (Low.val _) | exact Ren.low _ (low_pputs _) | exact Ren.low _ (psec_low _) | exact RenL.low (by assumption) | refine ren_agg ?_ | refine ren_fn ?_ | refine ren_sl ?_))

/-- Whether an area lies on a disk. -/
def liesB (N at_ most : Int) : Bool := decide (1 ≤ most ∧ most ≤ 1024 ∧ 0 ≤ at_ ∧ at_ + roomI most ≤ N)
set_option maxRecDepth 10000 in
set_option maxHeartbeats 2000000 in
theorem jc_openE1 (at_ most : Int) {N k : Nat} {D : DM} (h : OkD N k D) (hNN : N ≤ 1000000000) (hb : liesB N at_ most = false) : HCalls Tryd.prog 11 [.ptr 1000001 0, pint at_, pint most] (dG 1000001 1000002 1000003 D) (dMs 1000003 D) (.tup [.val (.pointer none), pint 1]) (dG 1000001 1000002 1000003 D) (dMs 1000003 D) := by
  have c1 := dC_low D
  have c2 := dM_low D
  refine hcalls_of_pw typeTab_ok Tryd.func11 rfl rfl (by simp [PV.ownB, pint]) (Nat.le_of_ble_eq_true rfl) (by simp [ResIds, dG, dMs]) (by simp [ResIds, dG, dMs]) (by (refine ⟨by (repeat (first | exact li_nil | exact lb_nil | refine lb_cons ?_ ?_ | refine li_cons ?_ ?_ | exact dB_lowI (by simp [ResIds, dG, dMs, jG]) (by simp [ResIds, dG, dMs, jG]) _ | exact li_low (dC_low _) | exact LowI.ptr _ _ (by simp [ResIds, dG, dMs, jG]) | exact LowI.mref _ (by simp [ResIds, dG, dMs, jG]) | exact LowI.msl _ _ _ _ (by simp [ResIds, dG, dMs, jG]) | exact LowI.val _ | exact LowI.nilsl | exact Low.lowI (low_pputs _) | exact Low.lowI (psec_low _) | exact li_low (secL_low _) | exact li_low (by assumption) | refine LowI.agg _ ?_ | refine LowI.fn _ _ ?_ | refine LowI.tup _ ?_ | refine LowI.sl _ _ _ _ ?_)), by (repeat (first | exact li_nil | exact lb_nil | refine lb_cons ?_ ?_ | refine li_cons ?_ ?_ | exact dB_lowI (by simp [ResIds, dG, dMs, jG]) (by simp [ResIds, dG, dMs, jG]) _ | exact li_low (dC_low _) | exact LowI.ptr _ _ (by simp [ResIds, dG, dMs, jG]) | exact LowI.mref _ (by simp [ResIds, dG, dMs, jG]) | exact LowI.msl _ _ _ _ (by simp [ResIds, dG, dMs, jG]) | exact LowI.val _ | exact LowI.nilsl | exact Low.lowI (low_pputs _) | exact Low.lowI (psec_low _) | exact li_low (secL_low _) | exact li_low (by assumption) | refine LowI.agg _ ?_ | refine LowI.fn _ _ ?_ | refine LowI.tup _ ?_ | refine LowI.sl _ _ _ _ ?_)), by first | exact lm_nil | exact lm_cons (dM_low _) lm_nil, ?_, by (repeat (first | exact li_nil | exact lb_nil | refine lb_cons ?_ ?_ | refine li_cons ?_ ?_ | exact dB_lowI (by simp [ResIds, dG, dMs, jG]) (by simp [ResIds, dG, dMs, jG]) _ | exact li_low (dC_low _) | exact LowI.ptr _ _ (by simp [ResIds, dG, dMs, jG]) | exact LowI.mref _ (by simp [ResIds, dG, dMs, jG]) | exact LowI.msl _ _ _ _ (by simp [ResIds, dG, dMs, jG]) | exact LowI.val _ | exact LowI.nilsl | exact Low.lowI (low_pputs _) | exact Low.lowI (psec_low _) | exact li_low (secL_low _) | exact li_low (by assumption) | refine LowI.agg _ ?_ | refine LowI.fn _ _ ?_ | refine LowI.tup _ ?_ | refine LowI.sl _ _ _ _ ?_)), by first | exact lm_nil | exact lm_cons (dM_low _) lm_nil, by simp [jG, dG], by simp [dMs]⟩ ; (repeat (first | exact li_nil | exact lb_nil | refine lb_cons ?_ ?_ | refine li_cons ?_ ?_ | exact dB_lowI (by simp [ResIds, dG, dMs, jG]) (by simp [ResIds, dG, dMs, jG]) _ | exact li_low (dC_low _) | exact LowI.ptr _ _ (by simp [ResIds, dG, dMs, jG]) | exact LowI.mref _ (by simp [ResIds, dG, dMs, jG]) | exact LowI.msl _ _ _ _ (by simp [ResIds, dG, dMs, jG]) | exact LowI.val _ | exact LowI.nilsl | exact Low.lowI (low_pputs _) | exact Low.lowI (psec_low _) | exact li_low (secL_low _) | exact li_low (by assumption) | refine LowI.agg _ ?_ | refine LowI.fn _ _ ?_ | refine LowI.tup _ ?_ | refine LowI.sl _ _ _ _ ?_)))) ?_
  have hrm := pw_room most
  have hsz := dc_Size D 1000001 1000002 1000003 (by decide)
  rw [h.len] at hsz
  simp only [liesB, decide_eq_false_iff_not] at hb
  have hrr : 0 ≤ roomI most ∧ roomI most ≤ 2000 ∧ (roomI most = 0 ↔ (most < 1 ∨ 1024 < most)) := by unfold roomI numbersI; split <;> omega
  generalize roomI most = R at *
  by_cases r0 : R = 0
  · refine wk ?_
    exact RetH.mk rfl (Weak.refl _) ⟨⟨_, rfl, WeakL.refl _⟩, ⟨_, rfl, WeakL.refl _⟩, trivial⟩ ⟨⟨rfl, rfl⟩, trivial⟩
  · by_cases a0 : at_ < 0
    · refine wk ?_
      exact RetH.mk rfl (Weak.refl _) ⟨⟨_, rfl, WeakL.refl _⟩, ⟨_, rfl, WeakL.refl _⟩, trivial⟩ ⟨⟨rfl, rfl⟩, trivial⟩
    · have a1 : (N : Int) - R < at_ := by omega
      refine wk ?_
      exact RetH.mk rfl (Weak.refl _) ⟨⟨_, rfl, WeakL.refl _⟩, ⟨_, rfl, WeakL.refl _⟩, trivial⟩ ⟨⟨rfl, rfl⟩, trivial⟩
set_option maxRecDepth 10000 in
set_option maxHeartbeats 2000000 in
theorem jc_open1 (at_ most : Int) {N k : Nat} {D : DM} (h : OkD N k D) (hk : k + 3 ≤ 100000000) (hNN : N ≤ 1000000000) (hb : liesB N at_ most = true) (hh : HeadOK D at_) : HCalls Tryd.prog 11 [.ptr 1000001 0, pint at_, pint most] (dG 1000001 1000002 1000003 D) (dMs 1000003 D) (.tup [.ptr 4004 0, pint 0]) (jG 1000001 1000002 1000003 4004 at_ most (D.opened at_)) (dMs 1000003 (D.opened at_)) := by
  have c1 := dC_low D
  have c2 := dM_low D
  refine hcalls_of_pw typeTab_ok Tryd.func11 rfl rfl (by simp [PV.ownB, pint]) (Nat.le_of_ble_eq_true rfl) (by simp [ResIds, jG, dG, dMs]) (by simp [ResIds, jG, dG, dMs]) (by (refine ⟨by (repeat (first | exact li_nil | exact lb_nil | refine lb_cons ?_ ?_ | refine li_cons ?_ ?_ | exact dB_lowI (by simp [ResIds, dG, dMs, jG]) (by simp [ResIds, dG, dMs, jG]) _ | exact li_low (dC_low _) | exact LowI.ptr _ _ (by simp [ResIds, dG, dMs, jG]) | exact LowI.mref _ (by simp [ResIds, dG, dMs, jG]) | exact LowI.msl _ _ _ _ (by simp [ResIds, dG, dMs, jG]) | exact LowI.val _ | exact LowI.nilsl | exact Low.lowI (low_pputs _) | exact Low.lowI (psec_low _) | exact li_low (secL_low _) | exact li_low (by assumption) | refine LowI.agg _ ?_ | refine LowI.fn _ _ ?_ | refine LowI.tup _ ?_ | refine LowI.sl _ _ _ _ ?_)), by (repeat (first | exact li_nil | exact lb_nil | refine lb_cons ?_ ?_ | refine li_cons ?_ ?_ | exact dB_lowI (by simp [ResIds, dG, dMs, jG]) (by simp [ResIds, dG, dMs, jG]) _ | exact li_low (dC_low _) | exact LowI.ptr _ _ (by simp [ResIds, dG, dMs, jG]) | exact LowI.mref _ (by simp [ResIds, dG, dMs, jG]) | exact LowI.msl _ _ _ _ (by simp [ResIds, dG, dMs, jG]) | exact LowI.val _ | exact LowI.nilsl | exact Low.lowI (low_pputs _) | exact Low.lowI (psec_low _) | exact li_low (secL_low _) | exact li_low (by assumption) | refine LowI.agg _ ?_ | refine LowI.fn _ _ ?_ | refine LowI.tup _ ?_ | refine LowI.sl _ _ _ _ ?_)), by first | exact lm_nil | exact lm_cons (dM_low _) lm_nil, ?_, by (repeat (first | exact li_nil | exact lb_nil | refine lb_cons ?_ ?_ | refine li_cons ?_ ?_ | exact dB_lowI (by simp [ResIds, dG, dMs, jG]) (by simp [ResIds, dG, dMs, jG]) _ | exact li_low (dC_low _) | exact LowI.ptr _ _ (by simp [ResIds, dG, dMs, jG]) | exact LowI.mref _ (by simp [ResIds, dG, dMs, jG]) | exact LowI.msl _ _ _ _ (by simp [ResIds, dG, dMs, jG]) | exact LowI.val _ | exact LowI.nilsl | exact Low.lowI (low_pputs _) | exact Low.lowI (psec_low _) | exact li_low (secL_low _) | exact li_low (by assumption) | refine LowI.agg _ ?_ | refine LowI.fn _ _ ?_ | refine LowI.tup _ ?_ | refine LowI.sl _ _ _ _ ?_)), by first | exact lm_nil | exact lm_cons (dM_low _) lm_nil, by simp [jG, dG], by simp [dMs]⟩ ; (repeat (first | exact li_nil | exact lb_nil | refine lb_cons ?_ ?_ | refine li_cons ?_ ?_ | exact dB_lowI (by simp [ResIds, dG, dMs, jG]) (by simp [ResIds, dG, dMs, jG]) _ | exact li_low (dC_low _) | exact LowI.ptr _ _ (by simp [ResIds, dG, dMs, jG]) | exact LowI.mref _ (by simp [ResIds, dG, dMs, jG]) | exact LowI.msl _ _ _ _ (by simp [ResIds, dG, dMs, jG]) | exact LowI.val _ | exact LowI.nilsl | exact Low.lowI (low_pputs _) | exact Low.lowI (psec_low _) | exact li_low (secL_low _) | exact li_low (by assumption) | refine LowI.agg _ ?_ | refine LowI.fn _ _ ?_ | refine LowI.tup _ ?_ | refine LowI.sl _ _ _ _ ?_)))) ?_
  have hrm := pw_room most
  have hsz := dc_Size D 1000001 1000002 1000003 (by decide)
  rw [h.len] at hsz
  simp only [liesB, decide_eq_true_eq] at hb
  have hrr : 0 < roomI most ∧ roomI most ≤ 2000 := by unfold roomI numbersI; rw [if_neg (by omega)]; omega
  have hrec := jc_recover most h at_ hb.2.2.1 (by omega) hk hNN hh 1000001 1000002 1000003 4004 (by decide)
  generalize roomI most = R at *
  generalize D.opened at_ = D2 at *
  refine wk ?_
  exact RetH.mk rfl (Weak.refl _) ⟨⟨_, rfl, WeakL.refl _⟩, ⟨_, rfl, WeakL.refl _⟩, ⟨_, rfl, WeakL.refl _⟩, trivial⟩ ⟨⟨rfl, rfl⟩, trivial⟩
theorem jc_openE (at_ most : Int) {N k : Nat} {D : DM} (h : OkD N k D) (hNN : N ≤ 1000000000) (hb : liesB N at_ most = false) (d c m : Nat) (hd : ([d, c, m] : List Nat).Nodup) : HCalls Tryd.prog 11 [.ptr d 0, pint at_, pint most] (dG d c m D) (dMs m D) (.tup [.val (.pointer none), pint 1]) (dG d c m D) (dMs m D) := by
  refine (jc_openE1 at_ most h hNN hb).at [(1000001, d), (1000002, c), (1000003, m)] (by simpa using hd) (by simp [ResIds, jG, dG, dMs]) (by simp [jG, dG]) (by simp [dMs]) ?_ ?_ ?_ (.low _ (.tup _ (by intro c hc; simp at hc; rcases hc with rfl | rfl <;> exact .val _))) ?_ ?_ <;> (repeat (first | exact RenL.nil | exact RenB.nil | exact RenMs.nil | exact RenMs.cons _ _ _ _ _ (RenM.low (dM_low _)) RenMs.nil | refine RenB.cons _ _ _ _ _ ?_ ?_ | exact RenL.low (dC_low _) | refine RenL.cons ?_ ?_ | exact Ren.ptr _ _ (by simp [ResIds, dG, dMs, jG]) | exact Ren.mref _ (by simp [ResIds, dG, dMs, jG]) | exact Ren.msl _ _ _ _ (by simp [ResIds, dG, dMs, jG]) | exact Ren.low _ (Low.val _) | exact Ren.low _ (low_pputs _) | exact Ren.low _ (psec_low _) | exact RenL.low (by assumption) | refine ren_agg ?_ | refine ren_fn ?_ | refine ren_sl ?_))
theorem jc_open (at_ most : Int) {N k : Nat} {D : DM} (h : OkD N k D) (hk : k + 3 ≤ 100000000) (hNN : N ≤ 1000000000) (hb : liesB N at_ most = true) (hh : HeadOK D at_) (d c m j : Nat) (hd : ([d, c, m, j] : List Nat).Nodup) : HCalls Tryd.prog 11 [.ptr d 0, pint at_, pint most] (dG d c m D) (dMs m D) (.tup [.ptr j 0, pint 0]) (jG d c m j at_ most (D.opened at_)) (dMs m (D.opened at_)) := by
  refine (jc_open1 at_ most h hk hNN hb hh).at [(1000001, d), (1000002, c), (1000003, m), (4004, j)] (by simpa using hd) (by simp [ResIds, jG, dG, dMs]) (by simp [jG, dG]) (by simp [dMs]) ?_ ?_ ?_ (ren_tup (.cons (.ptr _ _ (by simp [ResIds, dG, dMs, jG])) (.cons (.low _ (.val _)) .nil))) ?_ ?_ <;> (repeat (first | exact RenL.nil | exact RenB.nil | exact RenMs.nil | exact RenMs.cons _ _ _ _ _ (RenM.low (dM_low _)) RenMs.nil | refine RenB.cons _ _ _ _ _ ?_ ?_ | exact RenL.low (dC_low _) | refine RenL.cons ?_ ?_ | exact Ren.ptr _ _ (by simp [ResIds, dG, dMs, jG]) | exact Ren.mref _ (by simp [ResIds, dG, dMs, jG]) | exact Ren.msl _ _ _ _ (by simp [ResIds, dG, dMs, jG]) | exact Ren.low _ (Low.val _) | exact Ren.low _ (low_pputs _) | exact Ren.low _ (psec_low _) | exact RenL.low (by assumption) | refine ren_agg ?_ | refine ren_fn ?_ | refine ren_sl ?_))
end Go.Proofs.YtilcpcpmkklobaaDoor

/- Pure states: a variable that will not be written to any more becomes a value; a new slice as a value. -/
namespace Go.Proofs.YtilcpcpmkklobaaDoor
set_option linter.unusedSimpArgs false
set_option linter.unusedVariables false
set_option linter.unnecessarySimpa false
open Go.RowKit

section
variable {Φ0 : Ent} {W : World} {M : Nat} {Φ : Imm} {μ : Nat → Option Nat} {ω : Nat → Option Who} {σ : PS} {a : Act} {w : World} {P : Program} {T : Tab}

/-- A block of one's own that nobody writes to any more. -/
theorem RelG.still (h : RelG Φ0 W M Φ μ ω σ a w) {g : Nat} {cur : Array Value} {Ty : TypeId} (hg : w.heap[g]? = some (.cells cur Ty (0, 0))) (hB : Mine Φ0 W g) (hω : ω g = none) (hΦ : ∀ j, Φ g j = none) : RelG Φ0 W M (immRow Φ g cur) μ ω σ a w := by
  refine h.grow h.below ?_ ?_ ?_ ?_ (Nat.le_refl _)
  · intro b o u e
    unfold immRow at e
    split at e
    · subst b; simp only [World.cell?, hg]; simpa using e
    · exact h.imm b o u e
  · intro b o hb; unfold immRow; rw [if_neg]; rintro rfl; exact hB.ne hb rfl
  · intro b o u e; unfold immRow; rw [if_neg]
    · exact e
    · rintro rfl; rw [hΦ] at e; cases e
  · intro g' p e
    refine ⟨rfl, fun j => ?_⟩
    unfold immRow; rw [if_neg]; rintro rfl; rw [hω] at e; cases e

/-- A slot is seen otherwise. -/
theorem RelG.see (h : RelG Φ0 W M Φ μ ω σ a w) {s : Nat} {p : PV} (hp : Rep Φ μ p (a.tmps.getD s undef)) (ho : p.ownB = false) : RelG Φ0 W M Φ μ ω (σ.put s p) a w := by
  refine { h with tmps := fun u => ?_, own := fun u n k cs E e => ?_ }
  · by_cases hu : u = s
    · subst hu; simp only [PS.put, upd_if, if_true]; exact hp
    · simp only [PS.put, upd_if, if_neg hu]; exact h.tmps u
  · by_cases hu : u = s
    · subst hu; simp only [PS.put, upd_if, if_true] at e; rw [e] at ho; simp [PV.ownB] at ho
    · simp only [PS.put, upd_if, if_neg hu] at e ⊢; exact h.own u n k cs E e

/-- A variable becomes a value: nothing else in what is kept of the state knows its number. -/
theorem Sub.freeze {σ' : PS} {id s n k : Nat} {cs : List PV} (hb : σ.b id = some cs) (hs : σ.t s = .msl id 0 n k) (hl : cs.length = n * k) (hlow : ∀ c ∈ cs, Low c) (hsub : SubR (fun i => i) (Kn σ') σ σ') (hid : σ'.freeB id = true) : Sub M σ (σ'.put s (.sl n k cs none)) := by
  rintro Φ0 W a w ⟨Φ, μ, ω, hg⟩
  have h1 := hsub.rel (fun i hi => hi.spec) (fun i j _ _ e => e) (fun i _ _ => rfl) hg
  obtain ⟨g, cur, Ty, b1, b2, b3, b4, b5, b6, b7⟩ := hg.box id cs hb
  have hun : unren (fun i => i) (Kn σ') (ω g) = none := by
    rw [b4]
    unfold unren
    split
    · rename_i h2; cases h2
    · split
      · rename_i hh
        obtain ⟨q, ⟨i, hi, hq⟩, e⟩ := hh
        exfalso
        rcases hq with rfl | ⟨j, rfl⟩
        · simp only [renW, Option.some.injEq, Who.box.injEq] at e
          subst e
          rw [Kn, hid] at hi; cases hi
        · simp [renW] at e
      · rfl
  have h2 := h1.still b2 b3 hun b5
  refine ⟨_, _, _, h2.see ?_ rfl⟩
  have hv := hg.tmps s
  rw [hs] at hv
  obtain ⟨ad, cap, hvv, c1, c2, c4⟩ := hv.msl_inv
  rw [hvv]
  rcases Nat.eq_zero_or_pos n with h0 | h0
  · subst h0
    have : cs = [] := List.eq_nil_of_length_eq_zero (by simpa using hl)
    subst this
    exact .sl0 _ _ _ _ (by assumption)
  · obtain ⟨g', hg', rfl⟩ := c4 h0
    rw [b1] at hg'; cases hg'
    refine .sl n k cs none g 0 cap (fun j => cur.getD j undef) hl (by assumption) (by assumption) (fun j hj => ?_) (fun j c hc => ?_)
    · unfold immRow
      rw [if_pos rfl, Nat.zero_add, Array.getD_eq_getD_getElem?]
      rw [Array.getElem?_eq_getElem (by omega)]; rfl
    · obtain ⟨u, r1, r2, r3, -⟩ := b7 j c hc
      rw [Array.getD_eq_getD_getElem?, r1]
      refine Rep.mono (Φ := Φ) (fun b o u e => ?_) (fun _ _ e => e) (r3.low (hlow c (mem_of_get hc)))
      unfold immRow
      rw [if_neg]
      · exact e
      · rintro rfl; rw [b5] at e; cases e
theorem PW.freeze {σ' : PS} {id s n k : Nat} {cs : List PV} {c : Code} {Q : Exit → PS → Prop} (hb : σ.b id = some cs) (hs : σ.t s = .msl id 0 n k) (hl : cs.length = n * k) (hlow : ∀ c ∈ cs, Low c) (hsub : SubR (fun i => i) (Kn σ') σ σ') (hid : σ'.freeB id = true) (h : PW P M c Q (σ'.put s (.sl n k cs none))) : PW P M c Q σ :=
  h.sub (Sub.freeze hb hs hl hlow hsub hid)

/-- A new slice, as a value. -/
theorem mkI_does (hT : T = tabOf P) (h : RelG Φ0 W M Φ μ ω σ a w) (o : Oper) {d : Nat} (hd : o.dst = some d) (hM : d < M) {t : TypeId} {l c : Operand} (hop : o.op = .makeSlice t l c) {ti : TyI} (ht : T.at t = some ti) {e k by_ : Nat} {zr out : List PV} (hk : ti.kind = .slice e k by_ zr) {kx ky : IntKind} {x : Int} (hx : pev σ l = .val (.int kx x)) (hy : pev σ c = .val (.int ky x)) (hc : 0 ≤ x ∧ (by_ : Int) * x ≤ 281474976710656 ∧ x ≤ 9223372036854775807) (he : e < 1000000) (hout : (List.replicate x.toNat zr).flatten = out) :
    Does P Φ0 W M a w o (σ.put d (.sl x.toNat k out (some e))) := by
  obtain ⟨c1, c3, c4⟩ := hc
  obtain ⟨hu, i, z, e1, e2, e3, e4, e5, e6, e7, e8⟩ := slice_get (tab_at hT ht) hk
  subst e8
  have hzr := zero_rows (Φ := Φ) (μ := μ) (len := x.toNat) (z := z.cells) e5 e6 (repL_pv0 _) e7 (by intro c hc; obtain ⟨v, -, rfl⟩ := List.mem_map.1 hc; exact pv0_own v)
  rw [hout] at hzr
  have hcs : ((Array.range (x.toNat * k)).map (fun i => z.cells[i % z.cells.size]!)).size = x.toNat * k := by simp
  have hmax : x.toNat ≤ maxLen := by unfold maxLen; omega
  obtain ⟨Φ', ω', h2, -⟩ := h.newOwn (d := d) hM (N := x.toNat) (k := k) (cap := x.toNat) (L := out) (cur := (Array.range (x.toNat * k)).map (fun i => z.cells[i % z.cells.size]!)) (e := e) (by rw [← hzr.1.1]; simp) (by rw [List.take_of_length_le (by simp)]; exact hzr.1) (Nat.le_refl _) hmax hcs he
  refine ⟨_, .slice (some ⟨w.heap.size, 0, none⟩) x.toNat x.toNat, w.alloc (.cells ((Array.range (x.toNat * k)).map (fun i => z.cells[i % z.cells.size]!)) e), ?_, .inl rfl, Φ', μ, ω', by rw [hd]; exact h2⟩
  have hxr := h.ev l
  rw [hx] at hxr
  obtain ⟨hxv, -⟩ := hxr.val_inv
  have hyr := h.ev c
  rw [hy] at hyr
  obtain ⟨hyv, -⟩ := hyr.val_inv
  have w1 : IntKind.i64.wrap x = x := IntWalk.i64_in x ⟨by omega, by omega⟩
  have n1 : ¬ x < 0 := by omega
  have p48 : (2 : Int) ^ 48 = 281474976710656 := by decide
  have n2 : ¬ ((2 : Int) ^ 48 < (i.bytes : Int) * x) := by rw [e4, p48]; omega
  simp only [execOp, hop, hxv, hyv, Instr.makeSlice, Sem.run_bind, run_underlying hu, Result.andThen_ok, asInt, asIntOf, typeInfo, run_program, e1, Sem.run_pure, w1]
  have n3 : ¬ x > x := by omega
  simp only [n1, decide_false, Bool.false_or, n2, gt_iff_lt, Bool.or_self, Int.lt_irrefl, if_false, Bool.false_eq_true, run_askRoom, Result.andThen_ok, run_size e1, e3, zeroValue, typeInfo, run_program, e1, e2]
  by_cases hz0 : x.toNat * k = 0
  · have hr1 : (Array.map (fun (_ : Nat) => (default : Value)) (Array.range 0)) = #[] := by simp
    simp [hz0, newRow, run_size e1, e3]
    have hr2 : (Array.map (fun i => z.cells[i % z.cells.size]!) (Array.range 0)) = #[] := by simp
    rw [hr1, hr2]
  · simp only [hz0, if_false, Sem.run_bind, run_size e1, e3, zeroValue, typeInfo, run_program, Result.andThen_ok, e1, e2, Sem.run_pure, run_askRoom]
    rfl
end
section
variable {P : Program} {T : Tab} {σ : PS} {o : Oper} {i base : Nat} {ops : Array Oper} {ok : Nat → Nat → Bool} {rest : List (Nat × Oper)} {K : PS → Prop}
/-- make([]T, n) as a value of one's own. -/
theorem PWops.mkI {d e k by_ : Nat} {x : Int} {kx ky : IntKind} {out zr : List PV} {X Y : Operand} {t : TypeId} {ti : TyI} (hT : T = tabOf P) (hg : pguard ops σ o = some true) (hok : ∀ j id, ok j id = true) (hd : o.dst = some d) (hop : o.op = .makeSlice t X Y) (hx : pev σ X = .val (.int kx x)) (hy : pev σ Y = .val (.int ky x)) (ht : T.at t = some ti) (hk : ti.kind = .slice e k by_ zr) (he : Nat.blt e 1000000 = true) (hc : 0 ≤ x ∧ (by_ : Int) * x ≤ 281474976710656 ∧ x ≤ 9223372036854775807) (hout : (List.replicate x.toNat zr).flatten = out)
    (kn : PWops P T ops base ok rest K (σ.put d (.sl x.toNat k out (some e)))) : PWops P T ops base ok ((i, o) :: rest) K σ := by
  refine PWops.sem (E := ⟨.sl x.toNat k out (some e), [], none, []⟩) hg hok ?_ (by rw [hd]; exact kn)
  intro Φ0 W M a w hM hrel
  obtain ⟨Φ, μ, ω, hr⟩ := hrel
  have := mkI_does hT hr o hd (hM d hd) hop ht hk hx hy hc (by simpa [Nat.blt_eq] using he) hout
  rw [hd]
  exact this
end
end Go.Proofs.YtilcpcpmkklobaaDoor

/- The specification's journal. -/
namespace Go.Proofs.YtilcpcpmkklobaaDoor
set_option linter.unusedSimpArgs false
set_option linter.unusedVariables false
set_option linter.unnecessarySimpa false
open Go.RowKit

set_option maxRecDepth 10000 in
set_option maxHeartbeats 1000000 in
theorem pw_refRoom (m : Int) : PCalls Tryd.prog 17 [pint m] (· = pint (roomI m)) := by
  refine pcalls_of_pw typeTab_ok Tryd.func17 rfl (by kernel_rfl) (by exact lw) (by simp [pint, PV.ownB]) (Nat.le_of_ble_eq_true rfl) ?_
  by_cases h1 : m < 1
  · rw [roomI, if_pos (.inl h1)]
    refine wk ?_
    exact retP rfl (by exact lw) rfl
  · by_cases h2 : 1024 < m
    · rw [roomI, if_pos (.inr h2)]
      refine wk ?_
      exact retP rfl (by exact lw) rfl
    · rw [roomI, if_neg (by omega)]
      refine wk ?_
      refine PW.loop (fun k : Nat => (((bot.put 0 (pint m)).put 2 (pint 0)).put 3 (pint (1 + m + k))).put 4 (pint (16 * (k : Int)))) (fun k => 16 * (k : Int) < m + 16) (fun k => 2000 - k) 0 (by omega) ?_ ?_
      · rw [show (1 + m + ((0 : Nat) : Int)) = 1 + m by omega, show 16 * (((0 : Nat)) : Int) = 0 by omega]
        exact sb
      · intro k hk
        by_cases hlt : 16 * (k : Int) < m
        · refine wk ?_
          refine loopP (k + 1) (by omega) (by omega) ?_
          rw [show (1 + m + ((k + 1 : Nat) : Int)) = 1 + m + k + 1 by omega, show 16 * (((k + 1 : Nat)) : Int) = 16 * (k : Int) + 16 by omega]
          exact sb
        · refine wk ?_
          refine retP rfl (by exact lw) ?_
          have : (k : Int) = numbersI m := by unfold numbersI; omega
          rw [← this]
          show pint (1 + m + k) = _
          rw [show 1 + m + (k : Int) = 1 + k + m by omega]

set_option maxRecDepth 10000 in
set_option maxHeartbeats 1000000 in
theorem pw_lies (N at_ most : Int) (h0 : 0 ≤ N ∧ N ≤ 1000000000) : PCalls Tryd.prog 8 [pint N, pint at_, pint most] (· = pbool (liesB N at_ most)) := by
  refine pcalls_of_pw typeTab_ok Tryd.func8 rfl (by kernel_rfl) (by exact lw) (by simp [pint, PV.ownB]) (Nat.le_of_ble_eq_true rfl) ?_
  have hr := pw_refRoom most
  have hrr : 0 ≤ roomI most ∧ roomI most ≤ 2000 ∧ (roomI most = 0 ↔ (most < 1 ∨ 1024 < most)) := by unfold roomI numbersI; split <;> omega
  have hl : liesB N at_ most = decide (0 < roomI most ∧ 0 ≤ at_ ∧ at_ ≤ N - roomI most) := by
    unfold liesB
    exact decide_eq_decide.2 (by omega)
  rw [hl]
  generalize roomI most = R at *
  by_cases r0 : 0 < R
  · by_cases a0 : 0 ≤ at_
    · by_cases a1 : at_ ≤ N - R
      · rw [decide_eq_true ⟨r0, a0, a1⟩]
        refine wk ?_
        exact retP rfl (by exact lw) rfl
      · rw [decide_eq_false (fun h => a1 h.2.2)]
        refine wk ?_
        exact retP rfl (by exact lw) rfl
    · rw [decide_eq_false (fun h => a0 h.2.1)]
      refine wk ?_
      exact retP rfl (by exact lw) rfl
  · rw [decide_eq_false (fun h => r0 h.1)]
    refine wk ?_
    exact retP rfl (by exact lw) rfl

theorem nodup_at {l : List PPut} {i j : Nat} (hj : j < i) (hi : i < l.length) (h : (l.getD i default).sec = (l.getD j default).sec) : ¬ (l.map PPut.sec).Nodup := by
  intro hn
  have hj' : j < l.length := by omega
  have := List.pairwise_iff_getElem.1 hn j i (by simpa using hj') (by simpa using hi) hj
  simp only [List.getD_eq_getElem?_getD, List.getElem?_eq_getElem hi, List.getElem?_eq_getElem hj', Option.getD_some] at h
  simp only [List.getElem_map] at this
  exact this h.symm
theorem nodup_of {l : List PPut} (h : ∀ i j, j < i → i < l.length → (l.getD i default).sec ≠ (l.getD j default).sec) : (l.map PPut.sec).Nodup := by
  refine List.pairwise_iff_getElem.2 fun i j hi hj hij e => ?_
  have hi' : i < l.length := by simpa using hi
  have hj' : j < l.length := by simpa using hj
  apply h j i hij hj'
  simp only [List.getD_eq_getElem?_getD, List.getElem?_eq_getElem hi', List.getElem?_eq_getElem hj', Option.getD_some]
  simp only [List.getElem_map] at e
  exact e.symm

set_option maxRecDepth 10000 in
set_option maxHeartbeats 4000000 in
theorem pw_check24 (N at_ most : Int) (l : List PPut) (h0 : 0 ≤ N ∧ N ≤ 1000000000) (h1 : 0 ≤ at_ ∧ at_ ≤ 1000000000) (hl : l.length ≤ 100000000) : PCalls Tryd.prog 14 [pint N, pint at_, pint most, pputs l] (· = pint (jApE N at_ most l)) := by
  have hll := low_pputs l
  refine pcalls_of_pw typeTab_ok Tryd.func14 rfl (by kernel_rfl) (by intro p hp; simp at hp; rcases hp with rfl | rfl | rfl | rfl; exact .val _; exact .val _; exact .val _; exact hll) (by simp [pint, pputs, PV.ownB]) (Nat.le_of_ble_eq_true rfl) ?_
  have hr := pw_refRoom most
  have hrr : 0 ≤ roomI most ∧ roomI most ≤ 2000 := by unfold roomI numbersI; split <;> omega
  by_cases hm : most < l.length
  · rw [jApE, if_pos hm]
    refine wk ?_
    exact retP rfl (by exact lw) rfl
  · refine wk ?_
    refine PW.loop (fun i : Nat => (((((bot.put 0 (pint N)).put 1 (pint at_)).put 2 (pint most)).put 3 (pputs l)).put 8 (pint 0)).put 9 (pint i)) (fun i => i ≤ l.length ∧ ∀ j, j < i → badP N at_ most (l.getD j default) = false) (fun i => l.length - i) 0 ⟨by omega, fun j hj => by omega⟩ ?_ ?_
    · exact sb
    · intro i ⟨hi, hgood⟩
      by_cases hlt : i < l.length
      · by_cases hb : badP N at_ most (l.getD i default) = true
        · rw [jApE_bad hm hlt hb]
          simp only [badP, decide_eq_true_eq] at hb
          generalize roomI most = R at *
          by_cases b1 : (l.getD i default).sec < 0
          · refine wk ?_
            exact retP rfl (by exact lw) rfl
          · by_cases b2 : N ≤ (l.getD i default).sec
            · refine wk ?_
              exact retP rfl (by exact lw) rfl
            · have b3 : at_ ≤ (l.getD i default).sec := by omega
              have b4 : (l.getD i default).sec < at_ + R := by omega
              refine wk ?_
              exact retP rfl (by exact lw) rfl
        · have hb' : badP N at_ most (l.getD i default) = false := by simpa using hb
          have hg2 : ∀ j, j < i + 1 → badP N at_ most (l.getD j default) = false := by
            intro j hj
            by_cases e : j = i
            · subst e; exact hb'
            · exact hgood j (by omega)
          simp only [badP, decide_eq_false_iff_not, not_or] at hb'
          obtain ⟨b1, b2, b3⟩ := hb'
          clear hgood hb
          by_cases b4 : at_ ≤ (l.getD i default).sec
          · have b5 : ¬ (l.getD i default).sec < at_ + roomI most := fun e => b3 ⟨b4, e⟩
            clear b3
            generalize roomI most = R at *
            refine wk ?_
            refine loopP (i + 1) ⟨by omega, hg2⟩ (by omega) ?_
            exact sb
          · clear b3
            generalize roomI most = R at *
            refine wk ?_
            refine loopP (i + 1) ⟨by omega, hg2⟩ (by omega) ?_
            exact sb
      · have e : i = l.length := by omega
        subst e
        have eg := jApE_good hm hgood
        clear hgood
        rw [eg]
        refine wk ?_
        refine PW.loop (fun i : Nat => (((bot.put 3 (pputs l)).put 8 (pint 0)).put 11 (pint i))) (fun i => i ≤ l.length ∧ ∀ a b, b < a → a < i → (l.getD a default).sec ≠ (l.getD b default).sec) (fun i => l.length - i) 0 ⟨by omega, fun a b hb ha => by omega⟩ ?_ ?_
        · exact sb
        · intro i ⟨hi, hnd⟩
          by_cases hlt : i < l.length
          · refine wk ?_
            refine PW.loop (fun k : Nat => ((((bot.put 3 (pputs l)).put 8 (pint 0)).put 11 (pint i)).put 12 (pint k))) (fun k => k ≤ i ∧ ∀ b, b < k → (l.getD i default).sec ≠ (l.getD b default).sec) (fun k => i - k) 0 ⟨by omega, fun b hb => by omega⟩ ?_ ?_
            · exact sb
            · intro k ⟨hk, hne⟩
              by_cases hki : k < i
              · by_cases hs : (l.getD i default).sec = (l.getD k default).sec
                · rw [if_neg (nodup_at hki hlt hs)]
                  clear hnd hne
                  refine wk ?_
                  exact retP rfl (by exact lw) rfl
                · have hne2 : ∀ b, b < k + 1 → (l.getD i default).sec ≠ (l.getD b default).sec := by
                    intro b hb
                    by_cases e : b = k
                    · subst e; exact hs
                    · exact hne b (by omega)
                  clear hnd hne
                  refine wk ?_
                  refine loopP (k + 1) ⟨by omega, hne2⟩ (by omega) ?_
                  exact sb
              · have e : k = i := by omega
                subst e
                have hnd2 : ∀ a b, b < a → a < k + 1 → (l.getD a default).sec ≠ (l.getD b default).sec := by
                  intro a b hb ha
                  by_cases e : a = k
                  · subst e; exact hne b hb
                  · exact hnd a b hb (by omega)
                clear hnd hne
                refine wk ?_
                refine loopP (k + 1) ⟨by omega, hnd2⟩ (by omega) ?_
                exact sb
          · have e : i = l.length := by omega
            subst e
            rw [if_pos (nodup_of fun i j hj hi => hnd i j hj hi)]
            clear hnd
            refine wk ?_
            exact retP rfl (by exact lw) rfl
end Go.Proofs.YtilcpcpmkklobaaDoor

/- The specification's journal: Do, Filled; the laws' helpers. -/
namespace Go.Proofs.YtilcpcpmkklobaaDoor
set_option linter.unusedSimpArgs false
set_option linter.unusedVariables false
set_option linter.unnecessarySimpa false
open Go.RowKit

def doM (d : List Sec) : List PPut → List Sec
  | [] => d
  | p :: l => doM (d.set p.sec.toNat p.dat) l
theorem doM_len : ∀ (l : List PPut) (d : List Sec), (doM d l).length = d.length
  | [], d => rfl
  | p :: l, d => by rw [doM, doM_len l, List.length_set]
theorem doM_snoc : ∀ (l : List PPut) (d : List Sec) (p : PPut), doM d (l ++ [p]) = (doM d l).set p.sec.toNat p.dat
  | [], d, p => rfl
  | q :: l, d, p => by rw [List.cons_append, doM, doM_snoc l, doM]
theorem all_flat {α : Type} {f : α → List PV} {g : PV → Bool} (h : ∀ x, (f x).all g = true) (l : List α) : (l.flatMap f).all g = true := by
  rw [List.all_eq_true]
  intro c hc
  obtain ⟨x, -, hx⟩ := List.mem_flatMap.1 hc
  exact List.all_eq_true.1 (h x) c hx
theorem secL_no (s : Sec) : (secL s).all (fun c => !c.ownB) = true := by
  rw [List.all_eq_true]
  intro c hc
  obtain ⟨z, -, rfl⟩ := List.mem_map.1 hc; rfl
theorem put_row {l : List PPut} {i : Nat} (h : i < l.length) : (((l.flatMap putL).drop (i * 65 + 1)).take 64).map PV.bare = secL (l.getD i default).dat := by
  have h1 := flatMap_row putL_len (getD_get default h)
  have h2 : ((l.flatMap putL).drop (i * 65 + 1)).take 64 = (((l.flatMap putL).drop (i * 65)).take 65).drop 1 := by
    rw [List.drop_take, List.drop_drop]
  rw [h2, h1]
  exact secL_bare _

set_option maxRecDepth 10000 in
set_option maxHeartbeats 2000000 in
theorem pw_do (d : List Sec) (l : List PPut) (hd : 0 < d.length ∧ d.length ≤ 1000000) (hi : InD d.length l) (hl : l.length ≤ 1000000) : PCalls Tryd.prog 15 [psecs d none, pputs l] (· = psecs (doM d l) none) := by
  have hll := low_pputs l
  have hls := psecs_low d none
  refine pcalls_of_pw typeTab_ok Tryd.func15 rfl (by kernel_rfl) (by intro p hp; simp at hp; rcases hp with rfl | rfl; exact hls; exact hll) (by simp [psecs, pputs, PV.ownB]) (Nat.le_of_ble_eq_true rfl) ?_
  refine wk ?_
  refine PWops.appN (ds := d.flatMap secL) typeTab_ok rfl (fun _ _ => rfl) rfl rfl (.inr rfl) rfl rfl rfl rfl rfl (by omega) (by omega) hd.1 (all_flat secL_one _) (all_flat secL_no _) ?_
  refine wk ?_
  have hf : ∀ i, ∀ c ∈ (doM d (l.take i)).flatMap secL, Low c := fun i => flat_low secL_low _
  refine PW.loop (fun i : Nat => (((((bot.setb 1002 ((doM d (l.take i)).flatMap secL)).put 1 (pputs l)).put 4 .nilsl).put 5 (.msl 1002 0 d.length 64)).put 6 (pint i))) (fun i => i ≤ l.length) (fun i => l.length - i) 0 (by omega) ?_ ?_
  · have h1 := hf 0
    exact sb
  · intro i hil
    by_cases hlt : i < l.length
    · have hrow := put_row hlt
      have hpm : l.getD i default ∈ l := by rw [List.getD_eq_getElem?_getD, List.getElem?_eq_getElem hlt]; exact List.getElem_mem hlt
      obtain ⟨p0, p1⟩ := hi _ hpm
      have hn : doM d (l.take (i + 1)) = (doM d (l.take i)).set (l.getD i default).sec.toNat (l.getD i default).dat := by rw [take_getD default hlt, doM_snoc]
      have h1 := hf (i + 1)
      have hlen : (doM d (l.take i)).length = d.length := doM_len _ _
      rw [hn] at h1
      have hfl : (l.flatMap putL).length = l.length * 65 := flatMap_len putL_len l
      clear hpm hf
      generalize doM d (l.take i) = X at *
      refine wk ?_
      refine PWops.stBR (v := (l.getD i default).dat) rfl rfl rfl rfl rfl ?_ rfl rfl rfl secL_len (by omega) rfl ?_
      · show (if (secL (l.getD i default).dat).all PV.one = true then some ((secL (l.getD i default).dat).map PV.bare) else none) = _
        rw [secL_one, if_pos rfl, secL_bare]
      refine wk ?_
      refine loopP (i + 1) (by omega) (by omega) ?_
      rw [hn]
      exact sb
    · have e : i = l.length := by omega
      subst e
      have h1 := hf l.length
      rw [List.take_length] at h1 ⊢
      have hlen : (doM d l).length = d.length := doM_len _ _
      rw [show psecs (doM d l) none = .sl d.length 64 ((doM d l).flatMap secL) none by rw [psecs, hlen]]
      generalize doM d l = X at *
      refine PW.freeze (id := 1002) (s := 5) (σ' := ((bot.put 1 (pputs l)).put 4 .nilsl).put 6 (pint l.length)) rfl rfl (by rw [flatMap_len secL_len, hlen]) h1 (by (repeat (first | exact SubR.bot | ((with_reducible refine SubR.isp ?_) ; refine SubR.put ?_ (by (first | exact .inl (.ptr _ _ rfl) | exact .inl (.msl _ _ _ _ rfl) | exact .inl (.mref _ rfl) | exact .inl (.low _ (by (first | exact low_mapI | exact low_mapS | exact low_mapB | assumption | exact hlow _ | exact hlow _ _ | exact Low.agg _ (low_map (fun _ => Low.val _) _) | (simp [low_pu32, low_pu64, low_val, low_nilsl, low_sl, low_ep, low_agg, low_tup, low_fn, low_pint, low_pstr, low_pbool, low_pints, low_pstrs, low_pbyte, low_pbytes, hlow] ; done) | (simp [low_pu32, low_pu64, low_val, low_nilsl, low_sl, low_ep, low_agg, low_tup, low_fn, low_pint, low_pstr, low_pbool, low_pints, low_pstrs, low_pbyte, low_pbytes] ; done) | simp [low_pu32, low_pu64, low_val, low_nilsl, low_sl, low_ep, low_agg, low_tup, low_fn, low_pint, low_pstr, low_pbool, low_pints, low_pstrs, low_pbyte, low_pbytes, low_pattrs, low_pdefs, low_pschema, low_pentry]))) | exact .inr (.inl (.low _ (by (first | exact low_mapI | exact low_mapS | exact low_mapB | assumption | exact hlow _ | exact hlow _ _ | exact Low.agg _ (low_map (fun _ => Low.val _) _) | (simp [low_pu32, low_pu64, low_val, low_nilsl, low_sl, low_ep, low_agg, low_tup, low_fn, low_pint, low_pstr, low_pbool, low_pints, low_pstrs, low_pbyte, low_pbytes, hlow] ; done) | (simp [low_pu32, low_pu64, low_val, low_nilsl, low_sl, low_ep, low_agg, low_tup, low_fn, low_pint, low_pstr, low_pbool, low_pints, low_pstrs, low_pbyte, low_pbytes] ; done) | simp [low_pu32, low_pu64, low_val, low_nilsl, low_sl, low_ep, low_agg, low_tup, low_fn, low_pint, low_pstr, low_pbool, low_pints, low_pstrs, low_pbyte, low_pbytes, low_pattrs, low_pdefs, low_pschema, low_pentry])))) | exact .inr (.inr ⟨_, _, rfl, rfl⟩)))) | ((with_reducible refine SubR.isb ?_) ; refine SubR.setb ?_ rfl rfl (by (first | exact RenQL.low (by first | assumption | exact hlow _ | exact hlow _ _ | exact low_map (fun _ => Low.val _) _) | exact RenQL.lowE (by assumption) (low_map (fun _ => Low.val _) _) | ((repeat (refine RenQL.cons (by (first | exact .inl (.ptr _ _ rfl) | exact .inl (.msl _ _ _ _ rfl) | exact .inl (.mref _ rfl) | exact .inl (.low _ (by (first | exact low_mapI | exact low_mapS | exact low_mapB | assumption | exact hlow _ | exact hlow _ _ | exact Low.agg _ (low_map (fun _ => Low.val _) _) | (simp [low_pu32, low_pu64, low_val, low_nilsl, low_sl, low_ep, low_agg, low_tup, low_fn, low_pint, low_pstr, low_pbool, low_pints, low_pstrs, low_pbyte, low_pbytes, hlow] ; done) | (simp [low_pu32, low_pu64, low_val, low_nilsl, low_sl, low_ep, low_agg, low_tup, low_fn, low_pint, low_pstr, low_pbool, low_pints, low_pstrs, low_pbyte, low_pbytes] ; done) | simp [low_pu32, low_pu64, low_val, low_nilsl, low_sl, low_ep, low_agg, low_tup, low_fn, low_pint, low_pstr, low_pbool, low_pints, low_pstrs, low_pbyte, low_pbytes, low_pattrs, low_pdefs, low_pschema, low_pentry]))) | exact .inr (.inl (.low _ (by (first | exact low_mapI | exact low_mapS | exact low_mapB | assumption | exact hlow _ | exact hlow _ _ | exact Low.agg _ (low_map (fun _ => Low.val _) _) | (simp [low_pu32, low_pu64, low_val, low_nilsl, low_sl, low_ep, low_agg, low_tup, low_fn, low_pint, low_pstr, low_pbool, low_pints, low_pstrs, low_pbyte, low_pbytes, hlow] ; done) | (simp [low_pu32, low_pu64, low_val, low_nilsl, low_sl, low_ep, low_agg, low_tup, low_fn, low_pint, low_pstr, low_pbool, low_pints, low_pstrs, low_pbyte, low_pbytes] ; done) | simp [low_pu32, low_pu64, low_val, low_nilsl, low_sl, low_ep, low_agg, low_tup, low_fn, low_pint, low_pstr, low_pbool, low_pints, low_pstrs, low_pbyte, low_pbytes, low_pattrs, low_pdefs, low_pschema, low_pentry])))) | exact .inr (.inr ⟨_, _, rfl, rfl⟩))) ?_)) ; exact RenQL.nil)))) | ((with_reducible refine SubR.ism ?_) ; refine SubR.setm ?_ rfl rfl (by (first | exact ⟨rfl, rfl, rfl, rfl, rfl⟩ | exact RenM.low (by first | assumption | exact hlowm _ | exact hlowm _ _))))))) rfl ?_
      have h2 : Low (.sl d.length 64 (X.flatMap secL) none) := .sl _ _ _ _ h1
      refine wk ?_
      exact retP rfl (by exact lw) rfl

def fillL (b : Int) (i : Nat) : List Int := List.replicate i b ++ List.replicate (64 - i) 0
theorem fillL_set (b : Int) (i : Nat) (h : i < 64) : (fillL b i).set i b = fillL b (i + 1) := by
  rw [fillL, List.set_append_right _ _ (by simp), List.length_replicate, Nat.sub_self]
  rw [show 64 - i = (64 - (i + 1)) + 1 by omega, List.replicate_succ, List.set_cons_zero, fillL, List.replicate_succ', List.append_assoc]; rfl
def fillS (b : Int) (hb : 0 ≤ b ∧ b < 256) : Sec := ⟨List.replicate 64 b, by simp, fun x hx => by rw [(List.mem_replicate.1 hx).2]; exact hb⟩
theorem fillL_len (b : Int) (i : Nat) (h : i ≤ 64) : (fillL b i).length = 64 := by simp [fillL]; omega
set_option maxRecDepth 10000 in
set_option maxHeartbeats 2000000 in
theorem pw_filled (b : Int) (hb : 0 ≤ b ∧ b < 256) : PCalls Tryd.prog 23 [pbyte b] (· = psec (fillS b hb)) := by
  refine pcalls_of_pw typeTab_ok Tryd.func23 rfl (by kernel_rfl) (by exact lw) (by simp [pbyte, PV.ownB]) (Nat.le_of_ble_eq_true rfl) ?_
  refine wk ?_
  have hf : ∀ i, ∀ c ∈ (fillL b i).map pbyte, Low c := fun i => low_map (fun _ => Low.val _) _
  refine PW.loop (fun i : Nat => ((((((bot.setb 0 (List.replicate 64 (pbyte 0))).setb 1000 ((fillL b i).map pbyte)).put 0 (pbyte b)).put 2 (.ptr 0 0)).put 3 (.ptr 1000 0)).put 4 (pint i))) (fun i => i ≤ 64) (fun i => 64 - i) 0 (by omega) ?_ ?_
  · have h1 := hf 0
    exact sb
  · intro i hi
    have hlen := fillL_len b i hi
    by_cases hlt : i < 64
    · have hs := fillL_set b i hlt
      have h1 := hf (i + 1)
      rw [← hs] at h1
      generalize fillL b i = X at *
      refine wk ?_
      refine loopP (i + 1) (by omega) (by omega) ?_
      rw [← hs]
      rw [Int.toNat_natCast]
      exact sb
    · have e : i = 64 := by omega
      subst e
      have e2 : fillL b 64 = (fillS b hb).1 := by simp [fillL, fillS]
      rw [e2]
      have h1 := secL_low (fillS b hb)
      generalize fillS b hb = s at *
      rw [show s.1.map pbyte = secL s from rfl]
      refine wk ?_
      exact ⟨_, presult1 (pres_cell rfl rfl rfl (by (first | rfl | exact secL_len _ | exact dcellL_len _ | exact putL_len _ | exact len_map (by assumption) | exact len_map rfl)) (by (first | rfl | exact secL_bare _ | exact dcellL_bare _ | exact putL_bare _ | exact bare_map (fun _ => rfl) _))), .agg _ h1, rfl⟩
end Go.Proofs.YtilcpcpmkklobaaDoor

/- The laws of the journal: few, has. -/
namespace Go.Proofs.YtilcpcpmkklobaaDoor
set_option linter.unusedSimpArgs false
set_option linter.unusedVariables false
set_option linter.unnecessarySimpa false
open Go.RowKit

instance : Inhabited (List PPut) := ⟨[]⟩
def pputss (ls : List (List PPut)) : PV := .sl ls.length 1 (ls.map pputs) none
theorem low_pputss (ls : List (List PPut)) : Low (pputss ls) := .sl _ _ _ _ (low_map low_pputs _)
def parea (size at_ most : Int) : List PV := [pint size, pint at_, pint most]
theorem low_parea (size at_ most : Int) : Low (.agg (parea size at_ most)) := .agg _ (by intro c hc; simp [parea] at hc; rcases hc with rfl | rfl | rfl <;> exact .val _)
def fewB (size most : Int) (ls : List (List PPut)) : Bool := decide (ls.all (fun l => decide (l.length ≤ 30)) = true ∧ 1 ≤ size ∧ size ≤ 150 ∧ most ≤ 20 ∧ ls.length ≤ 20)

set_option maxRecDepth 10000 in
set_option maxHeartbeats 1000000 in
theorem pw_few24 (size at_ most : Int) (ls : List (List PPut)) (hl : ls.length ≤ 1000000000000000) (hls : ∀ l ∈ ls, l.length ≤ 1000000000000000) : PCalls Tryd.prog 7 [.agg (parea size at_ most), pputss ls] (· = pbool (fewB size most ls)) := by
  have h1 := low_pputss ls
  have h2 := low_parea size at_ most
  refine pcalls_of_pw typeTab_ok Tryd.func7 rfl (by kernel_rfl) (by intro p hp; simp at hp; rcases hp with rfl | rfl; exact h2; exact h1) (by simp [pputss, PV.ownB]) (Nat.le_of_ble_eq_true rfl) ?_
  refine wk ?_
  refine PW.loop (fun i : Nat => (((((bot.setb 0 (parea size at_ most)).put 1 (pputss ls)).put 2 (.ptr 0 0)).put 4 (pbool false)).put 5 (pint i))) (fun i => i ≤ ls.length ∧ ∀ j, j < i → (ls.getD j default).length ≤ 30) (fun i => ls.length - i) 0 ⟨by omega, fun j hj => by omega⟩ ?_ ?_
  · exact sb
  · intro i ⟨hi, hgood⟩
    by_cases hlt : i < ls.length
    · have hmem : ls.getD i default ∈ ls := by rw [List.getD_eq_getElem?_getD, List.getElem?_eq_getElem hlt]; exact List.getElem_mem hlt
      have hb := hls _ hmem
      by_cases h30 : (ls.getD i default).length ≤ 30
      · have hg2 : ∀ j, j < i + 1 → (ls.getD j default).length ≤ 30 := by
          intro j hj
          by_cases e : j = i
          · subst e; exact h30
          · exact hgood j (by omega)
        clear hgood hmem
        refine wk ?_
        refine loopP (i + 1) ⟨by omega, hg2⟩ (by omega) ?_
        exact sb
      · have e : fewB size most ls = false := by
          refine decide_eq_false fun h => ?_
          have := List.all_eq_true.1 h.1 _ hmem
          simp at this; exact h30 this
        rw [e]
        clear hgood hmem
        refine wk ?_
        exact retP rfl (by exact lw) rfl
    · have e : i = ls.length := by omega
      subst e
      have hall : ls.all (fun l => decide (l.length ≤ 30)) = true := by
        rw [List.all_eq_true]
        intro l hl
        obtain ⟨j, hj, rfl⟩ := List.getElem_of_mem hl
        have := hgood j hj
        rw [List.getD_eq_getElem?_getD, List.getElem?_eq_getElem hj, Option.getD_some] at this
        simpa using this
      have e1 : fewB size most ls = decide (1 ≤ size ∧ size ≤ 150 ∧ most ≤ 20 ∧ ls.length ≤ 20) := by
        unfold fewB
        exact decide_eq_decide.2 ⟨fun h => h.2, fun h => ⟨hall, h⟩⟩
      rw [e1]
      clear hgood hall e1
      by_cases c1 : 1 ≤ size
      · by_cases c2 : size ≤ 150
        · by_cases c3 : most ≤ 20
          · by_cases c4 : ls.length ≤ 20
            · rw [decide_eq_true ⟨c1, c2, c3, c4⟩]
              refine wk ?_
              exact retP rfl (by exact lw) rfl
            · rw [decide_eq_false (fun h => c4 h.2.2.2)]
              refine wk ?_
              exact retP rfl (by exact lw) rfl
          · rw [decide_eq_false (fun h => c3 h.2.2.1)]
            refine wk ?_
            exact retP rfl (by exact lw) rfl
        · rw [decide_eq_false (fun h => c2 h.2.1)]
          refine wk ?_
          exact retP rfl (by exact lw) rfl
      · rw [decide_eq_false (fun h => c1 h.1)]
        refine wk ?_
        exact retP rfl (by exact lw) rfl

/-- A sector outside of the area is as the model says. -/
def hasAt (D : DM) (at_ most : Int) (l : List Sec) (i : Nat) : Bool := decide (at_ ≤ i ∧ i < at_ + roomI most) || (decide ((D.read i).2 = 0) && decide ((D.read i).1.1 = (l.getD i default).1))
def hasB (D : DM) (at_ most : Int) (l : List Sec) : Bool := (List.range l.length).all (hasAt D at_ most l)
theorem hasB_false {D : DM} {at_ most : Int} {l : List Sec} {i : Nat} (hi : i < l.length) (h : hasAt D at_ most l i = false) : hasB D at_ most l = false := by
  rw [Bool.eq_false_iff]
  intro e
  have := List.all_eq_true.1 e i (List.mem_range.2 hi)
  rw [h] at this; cases this
theorem hasB_true {D : DM} {at_ most : Int} {l : List Sec} (h : ∀ i, i < l.length → hasAt D at_ most l i = true) : hasB D at_ most l = true :=
  List.all_eq_true.2 fun i hi => h i (List.mem_range.1 hi)

set_option maxRecDepth 10000 in
set_option maxHeartbeats 2000000 in
theorem dc_has (D : DM) (size at_ most : Int) (l : List Sec) (hl : l.length ≤ 1000000) (ha : 0 ≤ at_ ∧ at_ ≤ 1000000000) (hsz : D.cells.length ≤ 1000000000) (hop : ∀ e ∈ D.op, e.2.2.length ≤ 1000000000) : DCalls 18 [.agg (parea size at_ most), psecs l none] D (pbool (hasB D at_ most l)) D := by
  have h1 := psecs_low l none
  have h2 := low_parea size at_ most
  have c1 := dC_low D
  have c2 := dM_low D
  refine dcalls_of_pw Tryd.func18 rfl rfl (by intro p hp; simp at hp; rcases hp with rfl | rfl; exact h2; exact h1) (by simp [psecs, PV.ownB]) (Nat.le_of_ble_eq_true rfl) (by exact lw) ?_
  have hr := pw_refRoom most
  have hrr : 0 ≤ roomI most ∧ roomI most ≤ 2000 := by unfold roomI numbersI; split <;> omega
  refine wk ?_
  refine PW.loop (fun i : Nat => ((((((((bot.setb 1000001 (dB 1000002 1000003 D)).setb 1000002 (dC D)).setm 1000003 (dM D)).setb 0 (parea size at_ most)).put 0 (.ptr 1000001 0)).put 2 (psecs l none)).put 4 (.ptr 0 0)).put 6 (pbool false)).put 7 (pint i)) (fun i => i ≤ l.length ∧ ∀ j, j < i → hasAt D at_ most l j = true) (fun i => l.length - i) 0 ⟨by omega, fun j hj => by omega⟩ ?_ ?_
  · exact sb
  · intro i ⟨hi, hgood⟩
    by_cases hlt : i < l.length
    · have step : hasAt D at_ most l i = true → ∀ j, j < i + 1 → hasAt D at_ most l j = true := by
        intro hh j hj
        by_cases e : j = i
        · subst e; exact hh
        · exact hgood j (by omega)
      have hread := dc_Read D i hsz hop 1000001 1000002 1000003 (by decide)
      have hq := peqs_ints (k := .u8) (D.read i).1.1 (l.getD i default).1 (by rw [(D.read i).1.2.1, (l.getD i default).2.1])
      rw [(D.read i).1.2.1] at hq
      have hA : hasAt D at_ most l i = (decide (at_ ≤ i ∧ i < at_ + roomI most) || (decide ((D.read i).2 = 0) && decide ((D.read i).1.1 = (l.getD i default).1))) := rfl
      have hfalse : hasAt D at_ most l i = false → hasB D at_ most l = false := fun h => hasB_false hlt h
      generalize hasAt D at_ most l i = A at *
      have body : ∀ (g : ∀ j, j < i + 1 → hasAt D at_ most l j = true), True := fun _ => trivial
      clear hgood body
      generalize hR : roomI most = R at *
      generalize hD : D.read i = X at *
      obtain ⟨s, e⟩ := X
      simp only at *
      have out : ∀ (B : Bool), (decide (at_ ≤ (i : Int) ∧ (i : Int) < at_ + R) = false) → B = (decide (e = 0) && decide (s.1 = (l.getD i default).1)) → A = B := fun B h1 h2 => by rw [hA, h1, h2]; rfl
      by_cases a1 : at_ ≤ (i : Int)
      · by_cases a2 : (i : Int) < at_ + R
        · have g := step (by rw [hA, decide_eq_true (And.intro a1 a2)]; rfl)
          clear step hfalse hA out hq hread
          refine wk ?_
          refine loopP (i + 1) ⟨by omega, g⟩ (by omega) ?_
          exact sb
        · by_cases e0 : e = 0
          · subst e0
            by_cases es : s.1 = (l.getD i default).1
            · have g := step (out true (decide_eq_false fun h => a2 h.2) (by rw [decide_eq_true es]; rfl))
              rw [beq_iff_eq.2 es] at hq
              clear step hfalse hA out
              refine wk ?_
              refine PWops.eqA rfl rfl rfl rfl rfl rfl rfl rfl hq (.inr rfl) ?_
              refine wk ?_
              refine loopP (i + 1) ⟨by omega, g⟩ (by omega) ?_
              exact sb
            · rw [hfalse (out false (decide_eq_false fun h => a2 h.2) (by rw [decide_eq_false es]; rfl))]
              rw [beq_eq_false_iff_ne.2 es] at hq
              clear step hfalse hA out
              refine wk ?_
              refine PWops.eqA rfl rfl rfl rfl rfl rfl rfl rfl hq (.inr rfl) ?_
              refine wk ?_
              exact RetH.mk rfl (Weak.refl _) ⟨⟨_, rfl, WeakL.refl _⟩, ⟨_, rfl, WeakL.refl _⟩, trivial⟩ ⟨⟨rfl, rfl⟩, trivial⟩
          · rw [hfalse (out false (decide_eq_false fun h => a2 h.2) (by rw [decide_eq_false e0]; rfl))]
            clear step hfalse hA out hq
            refine wk ?_
            exact RetH.mk rfl (Weak.refl _) ⟨⟨_, rfl, WeakL.refl _⟩, ⟨_, rfl, WeakL.refl _⟩, trivial⟩ ⟨⟨rfl, rfl⟩, trivial⟩
      · by_cases e0 : e = 0
        · subst e0
          by_cases es : s.1 = (l.getD i default).1
          · have g := step (out true (decide_eq_false fun h => a1 h.1) (by rw [decide_eq_true es]; rfl))
            rw [beq_iff_eq.2 es] at hq
            clear step hfalse hA out
            refine wk ?_
            refine PWops.eqA rfl rfl rfl rfl rfl rfl rfl rfl hq (.inr rfl) ?_
            refine wk ?_
            refine loopP (i + 1) ⟨by omega, g⟩ (by omega) ?_
            exact sb
          · rw [hfalse (out false (decide_eq_false fun h => a1 h.1) (by rw [decide_eq_false es]; rfl))]
            rw [beq_eq_false_iff_ne.2 es] at hq
            clear step hfalse hA out
            refine wk ?_
            refine PWops.eqA rfl rfl rfl rfl rfl rfl rfl rfl hq (.inr rfl) ?_
            refine wk ?_
            exact RetH.mk rfl (Weak.refl _) ⟨⟨_, rfl, WeakL.refl _⟩, ⟨_, rfl, WeakL.refl _⟩, trivial⟩ ⟨⟨rfl, rfl⟩, trivial⟩
        · rw [hfalse (out false (decide_eq_false fun h => a1 h.1) (by rw [decide_eq_false e0]; rfl))]
          clear step hfalse hA out hq
          refine wk ?_
          exact RetH.mk rfl (Weak.refl _) ⟨⟨_, rfl, WeakL.refl _⟩, ⟨_, rfl, WeakL.refl _⟩, trivial⟩ ⟨⟨rfl, rfl⟩, trivial⟩
    · have e : i = l.length := by omega
      subst e
      rw [hasB_true hgood]
      clear hgood
      refine wk ?_
      exact RetH.mk rfl (Weak.refl _) ⟨⟨_, rfl, WeakL.refl _⟩, ⟨_, rfl, WeakL.refl _⟩, trivial⟩ ⟨⟨rfl, rfl⟩, trivial⟩
end Go.Proofs.YtilcpcpmkklobaaDoor

/- The journal's laws, without a program. -/
namespace Go.Proofs.YtilcpcpmkklobaaDoor
set_option linter.unusedSimpArgs false
set_option linter.unusedVariables false
set_option linter.unnecessarySimpa false
open Go.RowKit

theorem lastP_mem {q : Int} : ∀ {l : List PPut} {s : Sec}, lastP q l = some s → ∃ p ∈ l, p.sec = q
  | [], s, h => by cases h
  | p :: l, s, h => by
    rw [lastP] at h
    cases hl : lastP q l with
    | some t => obtain ⟨x, hx, e⟩ := lastP_mem hl; exact ⟨x, List.mem_cons_of_mem _ hx, e⟩
    | none =>
      rw [hl] at h
      simp only at h
      split at h
      · rename_i e; exact ⟨p, List.mem_cons_self .., e⟩
      · cases h
theorem doM_get : ∀ (l : List PPut) (d : List Sec), InD d.length l → ∀ q : Nat, q < d.length → (doM d l).getD q default = match lastP q l with | some s => s | none => d.getD q default
  | [], d, _, q, _ => rfl
  | p :: l, d, h, q, hq => by
    obtain ⟨p0, p1⟩ := h p (List.mem_cons_self ..)
    rw [doM, doM_get l (d.set p.sec.toNat p.dat) (fun x hx => by rw [List.length_set]; exact h x (List.mem_cons_of_mem _ hx)) q (by rw [List.length_set]; exact hq), lastP]
    cases lastP q l with
    | some s => rfl
    | none =>
      simp only
      by_cases e : p.sec = q
      · rw [if_pos e]
        simp only
        rw [List.getD_eq_getElem?_getD, List.getElem?_set, if_pos (by omega), if_pos (by omega)]; rfl
      · rw [if_neg e]
        simp only
        rw [List.getD_eq_getElem?_getD, List.getElem?_set, if_neg (by omega), ← List.getD_eq_getElem?_getD]

theorem jApE_zero {N at_ most : Int} {l : List PPut} (h : jApE N at_ most l = 0) : (l.length : Int) ≤ most ∧ (∀ p ∈ l, 0 ≤ p.sec ∧ p.sec < N ∧ (p.sec < at_ ∨ at_ + roomI most ≤ p.sec)) := by
  unfold jApE at h
  split at h
  · cases h
  · rename_i h1
    split at h
    · cases h
    · rename_i h2
      refine ⟨by omega, fun p hp => ?_⟩
      have h3 : badP N at_ most p = false := by
        cases hb : badP N at_ most p with
        | false => rfl
        | true => exact absurd (List.any_eq_true.2 ⟨p, hp, hb⟩) h2
      simp only [badP, decide_eq_false_iff_not, not_or] at h3
      omega

/-- An Apply without an error of some elements. -/
theorem OkD.applied {N k : Nat} {D : DM} (h : OkD N k D) {at_ most : Int} (h0 : 0 ≤ at_) (m0 : 1 ≤ most) (m1 : most ≤ 1024) (hN : at_ + roomI most ≤ N) (hk : k + 10000 ≤ 100000000) {l : List PPut} (he : jApE N at_ most l = 0) : OkD N (k + 5000) (D.applied at_ most l) ∧ (D.applied at_ most l).steps = D.steps + 2 * l.length + numbersI l.length + 6 ∧ (D.applied at_ most l).op = [] ∧ (D.applied at_ most l).read at_ = (emptyHead, 0) ∧
    ∀ q : Int, 0 ≤ q → q < N → (q < at_ ∨ at_ + roomI most ≤ q) → (D.applied at_ most l).read q = match lastP q l with | some s => (s, 0) | none => D.read q := by
  obtain ⟨e1, e2⟩ := jApE_zero he
  have hrn : roomI most = 1 + numbersI most + most := by unfold roomI; rw [if_neg (by omega)]
  have hnb : numbersI l.length ≤ 64 ∧ 0 ≤ numbersI l.length ∧ 0 ≤ numbersI most := by unfold numbersI; omega
  obtain ⟨al, ai⟩ := area_in l h0 m0 m1 hN e1
  have hai : InD N (areaJ at_ most l) := fun p hp => by have := ai p hp; omega
  have hin : InD N l := fun p hp => by have := e2 p hp; omega
  have hat : at_ < N := by omega
  obtain ⟨f1, f2, f3, f4⟩ := h.four h0 hat (areaJ at_ most l) hai (by omega) (fullHead l)
  obtain ⟨g1, g2, g3, g4⟩ := f1.four h0 hat l hin (by omega) emptyHead
  refine ⟨g1.mono (by omega), ?_, g3, ?_, fun q q0 q1 qo => ?_⟩
  · rw [DM.applied, g2, f2]; omega
  · rw [DM.applied, g4 at_ h0 hat, if_pos rfl]
  · rw [DM.applied, g4 q q0 q1, if_neg (by omega)]
    cases lastP q l with
    | some s => rfl
    | none =>
      simp only
      rw [f4 q q0 q1, if_neg (by omega)]
      have : lastP q (areaJ at_ most l) = none := lastP_none fun p hp e => by have := ai p hp; omega
      rw [this]

/-- A disk with a journal at rest: outside of its area it has what the model has. -/
structure JInv (N k : Nat) (at_ most : Int) (D : DM) (M : List Sec) : Prop where
  ok : OkD N k D
  op : D.op = []
  len : M.length = N
  head : HeadOK D at_
  out : ∀ q : Nat, q < N → ((q : Int) < at_ ∨ at_ + roomI most ≤ q) → D.read q = (M.getD q default, 0)
theorem JInv.mono {N k k' : Nat} {at_ most : Int} {D : DM} {M : List Sec} (h : JInv N k at_ most D M) (hk : k ≤ k') : JInv N k' at_ most D M := ⟨h.ok.mono hk, h.op, h.len, h.head, h.out⟩
theorem emptyHead_ok : emptyHead.1.getD 0 0 = 0 ∧ emptyHead.1.getD 1 0 = 0 := ⟨rfl, rfl⟩
theorem JInv.apply {N k : Nat} {at_ most : Int} {D : DM} {M : List Sec} (h : JInv N k at_ most D M) (hb : liesB N at_ most = true) (hk : k + 10000 ≤ 100000000) (l : List PPut) : JInv N (k + 5000) at_ most (D.apply N at_ most l) (if jApE N at_ most l = 0 then doM M l else M) := by
  simp only [liesB, decide_eq_true_eq] at hb
  obtain ⟨m0, m1, h0, hN⟩ := hb
  by_cases he : jApE N at_ most l = 0
  · rw [if_pos he]
    by_cases hl : 0 < l.length
    · rw [DM.apply, if_pos ⟨he, hl⟩]
      obtain ⟨a1, a2, a3, a4, a5⟩ := h.ok.applied h0 m0 m1 hN hk he
      obtain ⟨e1, e2⟩ := jApE_zero he
      refine ⟨a1, a3, by rw [doM_len, h.len], .inr ⟨by rw [a4], by rw [a4]; exact emptyHead_ok.1, by rw [a4]; exact emptyHead_ok.2⟩, fun q hq ho => ?_⟩
      rw [a5 q (by omega) (by omega) ho, doM_get l M (fun p hp => by have := e2 p hp; rw [h.len]; omega) q (by rw [h.len]; exact hq)]
      cases lastP q l with
      | some s => rfl
      | none => exact h.out q hq ho
    · have : l = [] := List.eq_nil_of_length_eq_zero (by omega)
      subst this
      rw [DM.apply, if_neg (fun h => by simp at h)]
      exact h.mono (by omega)
  · rw [if_neg he, DM.apply, if_neg (fun h => he h.1)]
    exact h.mono (by omega)
theorem JInv.new (N : Nat) (at_ most : Int) (hb : liesB N at_ most = true) : JInv N 0 at_ most (newD N) (List.replicate N zeroSec) := by
  simp only [liesB, decide_eq_true_eq] at hb
  obtain ⟨m0, m1, h0, hN⟩ := hb
  have hrr : 0 < roomI most := by unfold roomI numbersI; rw [if_neg (by omega)]; omega
  have hr : ∀ q : Int, 0 ≤ q → q < N → (newD N).read q = (zeroSec, 0) := by
    intro q q0 q1
    rw [(newD_ok N).read q0 q1]
    have e1 : (newD N).get q = [] := rfl
    have e2 : (newD N).cell q = ⟨zeroSec, false⟩ := by
      unfold DM.cell newD
      rw [List.getD_eq_getElem?_getD, List.getElem?_replicate, if_pos (by omega)]; rfl
    rw [e1, e2]; rfl
  refine ⟨newD_ok N, rfl, List.length_replicate .., .inr ?_, fun q hq ho => ?_⟩
  · rw [hr at_ h0 (by omega)]; exact ⟨rfl, rfl, rfl⟩
  · rw [hr q (by omega) (by omega), List.getD_eq_getElem?_getD, List.getElem?_replicate, if_pos hq]; rfl
theorem JInv.rot {N k : Nat} {at_ most : Int} {D : DM} {M : List Sec} (h : JInv N k at_ most D M) (h0 : 0 ≤ at_) (hN : at_ + roomI most ≤ N) {r : Int} (r0 : 0 ≤ r) (r1 : r < roomI most) : JInv N k at_ most (D.rot (at_ + r)) M := by
  obtain ⟨c1, c2, c3⟩ := h.ok.rot (at_ + r)
  have hrd : ∀ q : Int, 0 ≤ q → q < N → (D.rot (at_ + r)).read q = if q = at_ + r then (zeroSec, 221) else D.read q := fun q q0 q1 => h.ok.read_rot h.op (by omega) (by omega) q0 q1
  refine ⟨c1, c2.trans h.op, h.len, ?_, fun q hq ho => ?_⟩
  · unfold HeadOK
    rw [hrd at_ h0 (by omega)]
    split
    · exact .inl rfl
    · exact h.head
  · rw [hrd q (by omega) (by omega), if_neg (by omega)]; exact h.out q hq ho
theorem JInv.opened {N k : Nat} {at_ most : Int} {D : DM} {M : List Sec} (h : JInv N k at_ most D M) (hb : liesB N at_ most = true) (hk : k + 10000 ≤ 100000000) : JInv N (k + 3) at_ most (D.opened at_) M := by
  simp only [liesB, decide_eq_true_eq] at hb
  obtain ⟨m0, m1, h0, hN⟩ := hb
  have hrr : 0 < roomI most := by unfold roomI numbersI; rw [if_neg (by omega)]; omega
  unfold DM.opened
  split
  · obtain ⟨a1, a2, a3⟩ := h.ok.two h0 (by omega) (by omega) emptyHead
    refine ⟨a1, a2, h.len, .inr ?_, fun q hq ho => ?_⟩
    · rw [a3 at_ h0 (by omega), if_pos rfl]; exact ⟨rfl, emptyHead_ok.1, emptyHead_ok.2⟩
    · rw [a3 q (by omega) (by omega), if_neg (by omega)]; exact h.out q hq ho
  · exact h.mono (by omega)
theorem JInv.has {N k : Nat} {at_ most : Int} {D : DM} {M : List Sec} (h : JInv N k at_ most D M) : hasB D at_ most M = true := by
  refine hasB_true fun i hi => ?_
  unfold hasAt
  by_cases ho : (i : Int) < at_ ∨ at_ + roomI most ≤ i
  · rw [h.out i (by rw [← h.len]; exact hi) ho]
    simp
  · rw [decide_eq_true]; rfl
    omega
end Go.Proofs.YtilcpcpmkklobaaDoor

/- The journal's laws: the examples. -/
namespace Go.Proofs.YtilcpcpmkklobaaDoor
set_option linter.unusedSimpArgs false
set_option linter.unusedVariables false
set_option linter.unnecessarySimpa false
open Go.RowKit

section
variable {P : Program} {T : Tab} {σ : PS} {o : Oper} {i base : Nat} {ops : Array Oper} {ok : Nat → Nat → Bool} {rest : List (Nat × Oper)} {K : PS → Prop}
/-- A struct of which one field is given. -/
theorem PWops.bld1 {d f : Nat} {out : List PV} {px : PV} {x : Operand} {t : TypeId} {ti : TyI} {l : List (Nat × Nat × Bool)} (hg : pguard ops σ o = some true) (hd : o.dst = some d) (hop : o.op = .build t #[(f, x)]) (hx : pev σ x = px) (ht : T.at t = some ti) (hk : ti.kind = .struct l) (hb : σ.freeB (base + i) = true) (hf : pfill (fun i => (l[i]?).map fun x => (x.1, x.2.1)) ti.zero [(f, px)] = some out)
    (kn : PWops P T ops base ok rest K (σ.put d (.agg out))) : PWops P T ops base ok ((i, o) :: rest) K σ := by
  refine PWops.valEq hg hd (p := .agg out) ?_ rfl hb kn
  simp only [hop, presE, pvalA, pval, ht, pbuild, hk, List.map_cons, List.map_nil, pev_only, hx, hf, Option.map_some]
/-- A slice of two structs. -/
theorem PWops.litB {d k e by_ : Nat} {cs ds zr : List PV} {x y : Operand} {t : TypeId} {ti : TyI} (hg : pguard ops σ o = some true) (hd : o.dst = some d) (hop : o.op = .buildSlice t 2 #[(0, x), (1, y)]) (hx : pev σ x = .agg cs) (hy : pev σ y = .agg ds) (ht : T.at t = some ti) (hk : ti.kind = .slice e k by_ zr) (hb : σ.freeB (base + i) = true) (hl : cs.length = k) (hl2 : ds.length = k) (hz : zr.length = k) (hk2 : Nat.ble k 8000000 = true) (he : Nat.blt e 1000000 = true) (ho : cs.all PV.one = true) (hr : cs.map PV.bare = cs) (ho2 : ds.all PV.one = true) (hr2 : ds.map PV.bare = ds) (kn : PWops P T ops base ok rest K (σ.put d (.sl 2 k (cs ++ ds) (some e)))) : PWops P T ops base ok ((i, o) :: rest) K σ := by
  refine PWops.step hg (E := ⟨.sl 2 k (cs ++ ds) (some e), [], none, []⟩) ?_ hb (by rw [hd]; exact kn)
  have e1 : (List.replicate 2 zr).flatten = zr ++ zr := by simp [List.replicate_succ]
  have hle : 2 * k ≤ 16777216 := by have := Nat.le_of_ble_eq_true hk2; omega
  have he' : e < 1000000 := by simpa [Nat.blt_eq] using he
  have hs : splF (zr ++ zr) 0 cs = cs ++ zr := by
    rw [splF_eq _ _ _ (by rw [List.length_append]; omega)]
    unfold splice
    rw [List.take_zero, List.nil_append, Nat.zero_add, hl, ← hz, List.drop_left]
  have hs2 : splF (cs ++ zr) k ds = cs ++ ds := by
    rw [splF_eq _ _ _ (by rw [List.length_append]; omega)]
    unfold splice
    rw [← hl, List.take_left, List.drop_of_length_le (by rw [List.length_append]; omega), List.append_nil]
  have c1 : 0 + k ≤ (zr ++ zr).length := by rw [List.length_append]; omega
  have c2 : k + k ≤ (cs ++ zr).length := by rw [List.length_append]; omega
  simp only [hop, presE, ht, hk, hle, he', and_self, if_true, e1, List.map_cons, List.map_nil, pev_only, hx, hy, pfill, pcells, ho, hr, ho2, hr2, hl, hl2, Nat.zero_mul, Nat.one_mul, c1, c2, hs, hs2, Option.map_some]
end
theorem fill_put1 (s : Sec) : pfill (fun i => (([(0, 1, false), (1, 64, true)] : List (Nat × Nat × Bool))[i]?).map fun x => (x.1, x.2.1)) ([PV.val (.int .i64 0)] ++ List.replicate 64 (PV.val (.int .u8 0))) [(1, .agg (secL s))] = some (putL ⟨0, s⟩) := by
  have h2 : pcells (.agg (secL s)) = some (secL s) := by rw [pcells, secL_one, secL_bare]; rfl
  rw [pfill, h2]
  show (if (secL s).length = 64 ∧ 1 + 64 ≤ 65 then pfill _ (splF (pint 0 :: List.replicate 64 (PV.val (.int .u8 0))) 1 (secL s)) [] else none) = _
  rw [if_pos ⟨secL_len s, by decide⟩, pfill, splF_eq _ _ _ (by rw [secL_len]; exact Nat.le_of_ble_eq_true rfl), splice, secL_len]
  show some (pint 0 :: ([] ++ secL s ++ [])) = _
  rw [List.nil_append, List.append_nil]; rfl

set_option maxRecDepth 10000 in
set_option maxHeartbeats 1000000 in
theorem jc_most1 (at_ most : Int) (D : DM) : HCalls Tryd.prog 25 [.ptr 1000004 0] (jG 1000001 1000002 1000003 1000004 at_ most D) (dMs 1000003 D) (pint most) (jG 1000001 1000002 1000003 1000004 at_ most D) (dMs 1000003 D) := by
  refine hcalls_of_pw typeTab_ok Tryd.func25 rfl rfl (by simp [PV.ownB]) (Nat.le_of_ble_eq_true rfl) (by simp [ResIds, jG, dG, dMs]) (by simp [ResIds, jG, dG, dMs]) (by (refine ⟨by (repeat (first | exact li_nil | exact lb_nil | refine lb_cons ?_ ?_ | refine li_cons ?_ ?_ | exact dB_lowI (by simp [ResIds, dG, dMs, jG]) (by simp [ResIds, dG, dMs, jG]) _ | exact li_low (dC_low _) | exact LowI.ptr _ _ (by simp [ResIds, dG, dMs, jG]) | exact LowI.mref _ (by simp [ResIds, dG, dMs, jG]) | exact LowI.msl _ _ _ _ (by simp [ResIds, dG, dMs, jG]) | exact LowI.val _ | exact LowI.nilsl | exact Low.lowI (low_pputs _) | exact Low.lowI (psec_low _) | exact li_low (secL_low _) | exact li_low (by assumption) | refine LowI.agg _ ?_ | refine LowI.fn _ _ ?_ | refine LowI.tup _ ?_ | refine LowI.sl _ _ _ _ ?_)), by (repeat (first | exact li_nil | exact lb_nil | refine lb_cons ?_ ?_ | refine li_cons ?_ ?_ | exact dB_lowI (by simp [ResIds, dG, dMs, jG]) (by simp [ResIds, dG, dMs, jG]) _ | exact li_low (dC_low _) | exact LowI.ptr _ _ (by simp [ResIds, dG, dMs, jG]) | exact LowI.mref _ (by simp [ResIds, dG, dMs, jG]) | exact LowI.msl _ _ _ _ (by simp [ResIds, dG, dMs, jG]) | exact LowI.val _ | exact LowI.nilsl | exact Low.lowI (low_pputs _) | exact Low.lowI (psec_low _) | exact li_low (secL_low _) | exact li_low (by assumption) | refine LowI.agg _ ?_ | refine LowI.fn _ _ ?_ | refine LowI.tup _ ?_ | refine LowI.sl _ _ _ _ ?_)), by first | exact lm_nil | exact lm_cons (dM_low _) lm_nil, ?_, by (repeat (first | exact li_nil | exact lb_nil | refine lb_cons ?_ ?_ | refine li_cons ?_ ?_ | exact dB_lowI (by simp [ResIds, dG, dMs, jG]) (by simp [ResIds, dG, dMs, jG]) _ | exact li_low (dC_low _) | exact LowI.ptr _ _ (by simp [ResIds, dG, dMs, jG]) | exact LowI.mref _ (by simp [ResIds, dG, dMs, jG]) | exact LowI.msl _ _ _ _ (by simp [ResIds, dG, dMs, jG]) | exact LowI.val _ | exact LowI.nilsl | exact Low.lowI (low_pputs _) | exact Low.lowI (psec_low _) | exact li_low (secL_low _) | exact li_low (by assumption) | refine LowI.agg _ ?_ | refine LowI.fn _ _ ?_ | refine LowI.tup _ ?_ | refine LowI.sl _ _ _ _ ?_)), by first | exact lm_nil | exact lm_cons (dM_low _) lm_nil, by simp [jG, dG], by simp [dMs]⟩ ; (repeat (first | exact li_nil | exact lb_nil | refine lb_cons ?_ ?_ | refine li_cons ?_ ?_ | exact dB_lowI (by simp [ResIds, dG, dMs, jG]) (by simp [ResIds, dG, dMs, jG]) _ | exact li_low (dC_low _) | exact LowI.ptr _ _ (by simp [ResIds, dG, dMs, jG]) | exact LowI.mref _ (by simp [ResIds, dG, dMs, jG]) | exact LowI.msl _ _ _ _ (by simp [ResIds, dG, dMs, jG]) | exact LowI.val _ | exact LowI.nilsl | exact Low.lowI (low_pputs _) | exact Low.lowI (psec_low _) | exact li_low (secL_low _) | exact li_low (by assumption) | refine LowI.agg _ ?_ | refine LowI.fn _ _ ?_ | refine LowI.tup _ ?_ | refine LowI.sl _ _ _ _ ?_)))) ?_
  refine wk ?_
  exact RetH.mk rfl (Weak.refl _) ⟨⟨_, rfl, WeakL.refl _⟩, ⟨_, rfl, WeakL.refl _⟩, ⟨_, rfl, WeakL.refl _⟩, trivial⟩ ⟨⟨rfl, rfl⟩, trivial⟩
theorem jc_most (at_ most : Int) (D : DM) (d c m j : Nat) (hd : ([d, c, m, j] : List Nat).Nodup) : HCalls Tryd.prog 25 [.ptr j 0] (jG d c m j at_ most D) (dMs m D) (pint most) (jG d c m j at_ most D) (dMs m D) := by
  refine (jc_most1 at_ most D).at (ids4 d c m j) hd (by simp [ResIds, jG, dG, dMs, ids4]) (by simp [jG, dG]) (by simp [dMs]) ?_ ?_ ?_ ?_ ?_ ?_ <;> (repeat (first | exact RenL.nil | exact RenB.nil | exact RenMs.nil | exact RenMs.cons _ _ _ _ _ (RenM.low (dM_low _)) RenMs.nil | refine RenB.cons _ _ _ _ _ ?_ ?_ | exact RenL.low (dC_low _) | refine RenL.cons ?_ ?_ | exact Ren.ptr _ _ (by simp [ResIds, dG, dMs, jG]) | exact Ren.mref _ (by simp [ResIds, dG, dMs, jG]) | exact Ren.msl _ _ _ _ (by simp [ResIds, dG, dMs, jG]) | exact Ren.low _ (Low.val _) | exact Ren.low _ (low_pputs _) | exact Ren.low _ (psec_low _) | exact RenL.low (by assumption) | refine ren_agg ?_ | refine ren_fn ?_ | refine ren_sl ?_))

theorem pputs1 (p : PPut) : pputs [p] = .sl 1 65 (putL p) none := by simp [pputs]
theorem pputs2 (p q : PPut) : pputs [p, q] = .sl 2 65 (putL p ++ putL q) none := by simp [pputs]
def zero4 : List PPut := List.replicate 4 ⟨0, zeroSec⟩

set_option maxRecDepth 10000 in
set_option maxHeartbeats 4000000 in
theorem pw_sanity24 : PCalls Tryd.prog 9 [] (· = pbool true) := by
  refine pcalls_of_pw typeTab_ok Tryd.func9 rfl (by kernel_rfl) (by simp) (by simp) (Nat.le_of_ble_eq_true rfl) ?_
  have f1 := pw_filled 1 (by decide)
  have f2 := pw_filled 2 (by decide)
  generalize fillS 1 (by decide) = a at f1
  generalize fillS 2 (by decide) = b at f2
  have hlb : liesB ((40 : Nat) : Int) 10 3 = true := rfl
  have hlb2 : liesB ((40 : Nat) : Int) 36 3 = false := rfl
  have i0 := JInv.new 40 10 3 hlb
  have hnew := dc_New 40 (by decide) 900001 900002 900003 (by decide)
  rw [show (40 : Int).toNat = 40 from rfl] at hnew
  have r3 := pw_room 3
  have r16 := pw_room 16
  have r17 := pw_room 17
  have r0 := pw_room 0
  rw [show roomI 3 = 5 from rfl] at r3
  rw [show roomI 16 = 18 from rfl] at r16
  rw [show roomI 17 = 20 from rfl] at r17
  rw [show roomI 0 = 0 from rfl] at r0
  have ho := jc_open 10 3 i0.ok (by decide) (by decide) hlb i0.head 900001 900002 900003 900004 (by decide)
  have hop : (newD 40).opened 10 = newD 40 := by
    unfold DM.opened
    rw [if_neg]
    rw [i0.ok.read (by decide) (by decide)]
    decide
  rw [hop] at ho
  have hoe := jc_openE 36 3 i0.ok (by decide) hlb2 900001 900002 900003 (by decide)
  have hm := jc_most 10 3 (newD 40) 900001 900002 900003 900004 (by decide)
  have hA1 := jc_apply 10 3 i0.ok (by decide) (by decide) (by decide) (by decide) (by decide) [⟨0, a⟩, ⟨20, b⟩] (by simp) (by decide) 900001 900002 900003 900004 (by decide)
  have i1 := i0.apply hlb (by decide) [⟨0, a⟩, ⟨20, b⟩]
  have e1 : jApE ((40 : Nat) : Int) 10 3 [⟨0, a⟩, ⟨20, b⟩] = 0 := by simp [jApE, badP, roomI, numbersI]
  rw [e1] at hA1
  rw [if_pos e1] at i1
  generalize (newD 40).apply ((40 : Nat) : Int) 10 3 [⟨0, a⟩, ⟨20, b⟩] = D1 at hA1 i1
  have x1 := i1.out 0 (by decide) (.inl (by decide))
  have x2 := i1.out 20 (by decide) (.inr (by decide))
  rw [show (doM (List.replicate 40 zeroSec) [⟨0, a⟩, ⟨20, b⟩]).getD 0 default = a from rfl] at x1
  rw [show (doM (List.replicate 40 zeroSec) [⟨0, a⟩, ⟨20, b⟩]).getD 20 default = b from rfl] at x2
  have hd1 := dc_Read D1 0 (by rw [i1.ok.len]; decide) (fun e he => by rw [i1.op] at he; simp at he) 900001 900002 900003 (by decide)
  have hd2 := dc_Read D1 20 (by rw [i1.ok.len]; decide) (fun e he => by rw [i1.op] at he; simp at he) 900001 900002 900003 (by decide)
  rw [show D1.read 0 = (a, 0) from x1] at hd1
  rw [show D1.read 20 = (b, 0) from x2] at hd2
  have hA : ∀ (l : List PPut) (e : Int), l.length ≤ 100000000 → jApE ((40 : Nat) : Int) 10 3 l = e → e ≠ 0 → HCalls Tryd.prog 13 [.ptr 900004 0, pputs l] (jG 900001 900002 900003 900004 10 3 D1) (dMs 900003 D1) (pint e) (jG 900001 900002 900003 900004 10 3 D1) (dMs 900003 D1) := by
    intro l e hl he hne
    have := jc_apply 10 3 i1.ok (by decide) (by decide) (by decide) (by decide) (by decide) l hl (by decide) 900001 900002 900003 900004 (by decide)
    rw [he, DM.apply, if_neg (fun h => hne (he ▸ h.1))] at this
    exact this
  have hA2 := hA [⟨12, a⟩] 1 (by simp) (by simp [jApE, badP, roomI, numbersI]) (by decide)
  have hA3 := hA [⟨40, a⟩] 1 (by simp) (by simp [jApE, badP, roomI, numbersI]) (by decide)
  have hA4 := hA zero4 2 (by simp [zero4]) (by simp [jApE, zero4]) (by decide)
  have hA5 := hA [⟨0, a⟩, ⟨0, b⟩] 6 (by simp) (by simp [jApE, badP, roomI, numbersI]) (by decide)
  rw [pputs2] at hA1 hA5
  rw [pputs1] at hA2 hA3
  have q1 := peqs_ints (k := .u8) a.1 a.1 rfl
  have q2 := peqs_ints (k := .u8) b.1 b.1 rfl
  rw [a.2.1, beq_iff_eq.2 rfl] at q1
  rw [b.2.1, beq_iff_eq.2 rfl] at q2
  clear hA x1 x2 i1 e1 hop i0 hlb hlb2
  generalize newD 40 = D0 at *
  refine wk ?_
  refine PWops.bld2 (out := putL ⟨0, a⟩) rfl rfl rfl rfl rfl rfl rfl rfl (fill_put _ _) ?_
  refine wk ?_
  refine PWops.bld2 (out := putL ⟨20, b⟩) rfl rfl rfl rfl rfl rfl rfl rfl (fill_put _ _) ?_
  refine PWops.litB (cs := putL ⟨0, a⟩) (ds := putL ⟨20, b⟩) rfl rfl rfl rfl rfl rfl rfl rfl (putL_len _) (putL_len _) rfl rfl rfl (putL_one _) (putL_bare _) (putL_one _) (putL_bare _) ?_
  refine wk ?_
  refine PWops.eqA rfl rfl rfl rfl rfl rfl rfl rfl q1 (.inl rfl) ?_
  refine wk ?_
  refine PWops.eqA rfl rfl rfl rfl rfl rfl rfl rfl q2 (.inl rfl) ?_
  refine wk ?_
  refine PWops.bld2 (out := putL ⟨12, a⟩) rfl rfl rfl rfl rfl rfl rfl rfl (fill_put _ _) ?_
  refine wk ?_
  refine PWops.bld2 (out := putL ⟨40, a⟩) rfl rfl rfl rfl rfl rfl rfl rfl (fill_put _ _) ?_
  refine wg ?_
  refine PW.region typeTab_ok (by kernel_rfl) ?_
  ((with_reducible refine PWops.idd ?_) ; first | (first | refine PWops.stepA rfl ?_ | refine PWops.doneI rfl ?_ | refine PWops.boolK true rfl rfl rfl rfl (by (first | rfl | assumption | (simp only [decide_eq_true_eq, decide_eq_false_iff_not, bne_iff_ne, beq_iff_eq, beq_eq_false_iff_ne, bne_eq_false_iff_eq, ne_eq] ; omega))) rfl ?_ | refine PWops.boolK false rfl rfl rfl rfl (by (first | rfl | assumption | (simp only [decide_eq_true_eq, decide_eq_false_iff_not, bne_iff_ne, beq_iff_eq, beq_eq_false_iff_ne, bne_eq_false_iff_eq, ne_eq] ; omega))) rfl ?_ | refine PWops.fitsK rfl rfl rfl rfl (by (first | omega | (dsimp only ; omega))) (by (first | omega | (dsimp only ; omega))) rfl ?_ | refine PWops.remK rfl rfl rfl rfl (by (first | omega | (dsimp only ; omega))) rfl ?_ | refine PWops.quoK rfl rfl rfl rfl (by (first | omega | (dsimp only ; omega))) rfl ?_ | refine PWops.app rfl rfl rfl rfl rfl rfl rfl rfl (by (first | omega | (dsimp only ; omega))) (by (first | omega | (dsimp only ; omega))) (by first | rfl | exact secL_one _ | exact putL_one _ | exact one_pint _ | exact one_pstr _ | exact one_pbyte _ | exact one_pattrs _) ?_ | refine PWops.app0 rfl rfl rfl rfl rfl rfl rfl rfl (by (first | omega | (dsimp only ; omega))) (by (first | omega | (dsimp only ; omega))) (by first | rfl | exact secL_one _ | exact putL_one _ | exact one_pint _ | exact one_pstr _ | exact one_pbyte _ | exact one_pattrs _) ?_ | refine PWops.idx1 rfl rfl rfl rfl rfl rfl rfl rfl (by (first | omega | (dsimp only ; omega))) ?_ | refine PWops.idx rfl rfl rfl rfl rfl rfl rfl rfl (by (first | omega | (dsimp only ; omega))) ?_ | refine PWops.ld rfl rfl rfl rfl rfl rfl rfl (by assumption) rfl ?_ | refine PWops.ldA rfl rfl rfl rfl rfl rfl (by (first | omega | (dsimp only ; omega))) (by assumption) ?_ | refine PWops.str rfl rfl rfl rfl rfl rfl rfl rfl rfl rfl rfl ?_) | (first | refine PWops.arU rfl rfl rfl rfl rfl rfl ?_ | refine PWops.boxA rfl rfl rfl rfl rfl (by (first | rfl | exact secL_one _ | exact dcellL_one _ | exact putL_one _ | exact one_map (fun _ => rfl) _)) (by (first | rfl | exact secL_bare _ | exact dcellL_bare _ | exact putL_bare _ | exact bare_map (fun _ => rfl) _)) ?_ | refine PWops.litA rfl rfl rfl rfl rfl rfl rfl (by (first | rfl | exact secL_len _ | exact dcellL_len _ | exact putL_len _ | exact len_map (by assumption) | exact len_map rfl)) rfl rfl rfl (by (first | rfl | exact secL_one _ | exact dcellL_one _ | exact putL_one _ | exact one_map (fun _ => rfl) _)) (by (first | rfl | exact secL_bare _ | exact dcellL_bare _ | exact putL_bare _ | exact bare_map (fun _ => rfl) _)) ?_ | refine PWops.shlK rfl rfl rfl rfl rfl rfl (by (first | omega | (dsimp only ; omega) | decide)) ?_ | refine PWops.shrK rfl rfl rfl rfl rfl rfl (by (first | omega | (dsimp only ; omega) | decide)) ?_ | refine PWops.ldBC rfl rfl rfl rfl rfl rfl rfl rfl (by (first | exact secL_len | exact dcellL_len | exact putL_len | (intro; rfl))) (by (first | omega | (dsimp only ; omega))) (by (first | rfl | exact dcellL_64 _)) rfl ?_ | refine PWops.ldRB rfl rfl rfl rfl rfl rfl (by (first | exact secL_len | exact dcellL_len | exact putL_len | (intro; rfl))) (by (first | omega | (dsimp only ; omega))) (by (first | exact secL_bare | exact dcellL_bare | exact putL_bare | (intro; rfl))) ?_ | refine PWops.ldSec rfl rfl rfl rfl rfl rfl rfl (by (first | omega | (dsimp only ; omega))) ?_ | refine PWops.ldBR rfl rfl rfl rfl rfl rfl rfl (by (first | exact secL_len | exact dcellL_len | exact putL_len | (intro; rfl))) (by (first | omega | (dsimp only ; omega))) (by (first | exact secL_bare _ | exact dcellL_bare _ | exact putL_bare _ | rfl)) ?_ | refine PWops.lkp rfl rfl rfl rfl rfl rfl rfl rfl rfl rfl rfl (by assumption) ?_ | refine PWops.ldAll rfl rfl rfl rfl rfl rfl rfl (by (first | rfl | exact secL_len _ | exact dcellL_len _ | exact putL_len _ | exact len_map (by assumption) | exact len_map rfl)) (by (first | rfl | exact secL_bare _ | exact dcellL_bare _ | exact putL_bare _ | exact bare_map (fun _ => rfl) _)) ?_ | refine PWops.stAll rfl rfl rfl rfl rfl rfl rfl rfl rfl (by (first | rfl | exact secL_len _ | exact dcellL_len _ | exact putL_len _ | exact len_map (by assumption) | exact len_map rfl)) (by (first | rfl | exact secL_len _ | exact dcellL_len _ | exact putL_len _ | exact len_map (by assumption) | exact len_map rfl)) (by (first | rfl | exact secL_one _ | exact dcellL_one _ | exact putL_one _ | exact one_map (fun _ => rfl) _)) (by (first | rfl | exact secL_bare _ | exact dcellL_bare _ | exact putL_bare _ | exact bare_map (fun _ => rfl) _)) ?_ | refine PWops.idxM rfl rfl rfl rfl rfl rfl rfl rfl (by (first | omega | (dsimp only ; omega))) ?_ | refine PWops.idxP1 rfl rfl rfl rfl rfl rfl rfl rfl (by (first | omega | (dsimp only ; omega))) ?_ | refine PWops.idxP rfl rfl rfl rfl rfl rfl rfl rfl (by (first | omega | (dsimp only ; omega))) ?_ | (refine PWops.call rfl rfl rfl (by assumption) ?_) | (refine PWops.callR rfl rfl (by assumption) (by (first | exact trivial | exact ⟨⟨rfl, rfl⟩, trivial⟩ | exact ⟨⟨rfl, rfl⟩, ⟨rfl, rfl⟩, trivial⟩ | exact ⟨⟨rfl, rfl⟩, ⟨rfl, rfl⟩, ⟨rfl, rfl⟩, trivial⟩ | exact ⟨⟨rfl, rfl⟩, ⟨rfl, rfl⟩, ⟨rfl, rfl⟩, ⟨rfl, rfl⟩, trivial⟩ | exact ⟨⟨rfl, rfl⟩, ⟨rfl, rfl⟩, ⟨rfl, rfl⟩, ⟨rfl, rfl⟩, ⟨rfl, rfl⟩, trivial⟩ | exact ⟨⟨rfl, rfl⟩, ⟨rfl, rfl⟩, ⟨rfl, rfl⟩, ⟨rfl, rfl⟩, ⟨rfl, rfl⟩, ⟨rfl, rfl⟩, trivial⟩ | exact ⟨⟨rfl, rfl⟩, ⟨rfl, rfl⟩, ⟨rfl, rfl⟩, ⟨rfl, rfl⟩, ⟨rfl, rfl⟩, ⟨rfl, rfl⟩, ⟨rfl, rfl⟩, trivial⟩ | exact ⟨⟨rfl, rfl⟩, ⟨rfl, rfl⟩, ⟨rfl, rfl⟩, ⟨rfl, rfl⟩, ⟨rfl, rfl⟩, ⟨rfl, rfl⟩, ⟨rfl, rfl⟩, ⟨rfl, rfl⟩, trivial⟩)) (by (first | exact trivial | exact ⟨⟨rfl, rfl⟩, trivial⟩ | exact ⟨⟨rfl, rfl⟩, ⟨rfl, rfl⟩, trivial⟩ | exact ⟨⟨rfl, rfl⟩, ⟨rfl, rfl⟩, ⟨rfl, rfl⟩, trivial⟩ | exact ⟨⟨rfl, rfl⟩, ⟨rfl, rfl⟩, ⟨rfl, rfl⟩, ⟨rfl, rfl⟩, trivial⟩ | exact ⟨⟨rfl, rfl⟩, ⟨rfl, rfl⟩, ⟨rfl, rfl⟩, ⟨rfl, rfl⟩, ⟨rfl, rfl⟩, trivial⟩ | exact ⟨⟨rfl, rfl⟩, ⟨rfl, rfl⟩, ⟨rfl, rfl⟩, ⟨rfl, rfl⟩, ⟨rfl, rfl⟩, ⟨rfl, rfl⟩, trivial⟩ | exact ⟨⟨rfl, rfl⟩, ⟨rfl, rfl⟩, ⟨rfl, rfl⟩, ⟨rfl, rfl⟩, ⟨rfl, rfl⟩, ⟨rfl, rfl⟩, ⟨rfl, rfl⟩, trivial⟩ | exact ⟨⟨rfl, rfl⟩, ⟨rfl, rfl⟩, ⟨rfl, rfl⟩, ⟨rfl, rfl⟩, ⟨rfl, rfl⟩, ⟨rfl, rfl⟩, ⟨rfl, rfl⟩, ⟨rfl, rfl⟩, trivial⟩)) rfl (by first | exact .inl rfl | exact .inr (fun _ _ => rfl)) ?_) | (refine PWops.callH rfl rfl (by assumption) (by (first | exact trivial | exact ⟨⟨rfl, rfl⟩, trivial⟩ | exact ⟨⟨rfl, rfl⟩, ⟨rfl, rfl⟩, trivial⟩ | exact ⟨⟨rfl, rfl⟩, ⟨rfl, rfl⟩, ⟨rfl, rfl⟩, trivial⟩ | exact ⟨⟨rfl, rfl⟩, ⟨rfl, rfl⟩, ⟨rfl, rfl⟩, ⟨rfl, rfl⟩, trivial⟩ | exact ⟨⟨rfl, rfl⟩, ⟨rfl, rfl⟩, ⟨rfl, rfl⟩, ⟨rfl, rfl⟩, ⟨rfl, rfl⟩, trivial⟩ | exact ⟨⟨rfl, rfl⟩, ⟨rfl, rfl⟩, ⟨rfl, rfl⟩, ⟨rfl, rfl⟩, ⟨rfl, rfl⟩, ⟨rfl, rfl⟩, trivial⟩ | exact ⟨⟨rfl, rfl⟩, ⟨rfl, rfl⟩, ⟨rfl, rfl⟩, ⟨rfl, rfl⟩, ⟨rfl, rfl⟩, ⟨rfl, rfl⟩, ⟨rfl, rfl⟩, trivial⟩ | exact ⟨⟨rfl, rfl⟩, ⟨rfl, rfl⟩, ⟨rfl, rfl⟩, ⟨rfl, rfl⟩, ⟨rfl, rfl⟩, ⟨rfl, rfl⟩, ⟨rfl, rfl⟩, ⟨rfl, rfl⟩, trivial⟩)) (by (first | exact trivial | exact ⟨⟨rfl, rfl⟩, trivial⟩ | exact ⟨⟨rfl, rfl⟩, ⟨rfl, rfl⟩, trivial⟩ | exact ⟨⟨rfl, rfl⟩, ⟨rfl, rfl⟩, ⟨rfl, rfl⟩, trivial⟩ | exact ⟨⟨rfl, rfl⟩, ⟨rfl, rfl⟩, ⟨rfl, rfl⟩, ⟨rfl, rfl⟩, trivial⟩ | exact ⟨⟨rfl, rfl⟩, ⟨rfl, rfl⟩, ⟨rfl, rfl⟩, ⟨rfl, rfl⟩, ⟨rfl, rfl⟩, trivial⟩ | exact ⟨⟨rfl, rfl⟩, ⟨rfl, rfl⟩, ⟨rfl, rfl⟩, ⟨rfl, rfl⟩, ⟨rfl, rfl⟩, ⟨rfl, rfl⟩, trivial⟩ | exact ⟨⟨rfl, rfl⟩, ⟨rfl, rfl⟩, ⟨rfl, rfl⟩, ⟨rfl, rfl⟩, ⟨rfl, rfl⟩, ⟨rfl, rfl⟩, ⟨rfl, rfl⟩, trivial⟩ | exact ⟨⟨rfl, rfl⟩, ⟨rfl, rfl⟩, ⟨rfl, rfl⟩, ⟨rfl, rfl⟩, ⟨rfl, rfl⟩, ⟨rfl, rfl⟩, ⟨rfl, rfl⟩, ⟨rfl, rfl⟩, trivial⟩)) rfl (by first | exact .inl rfl | exact .inr (fun _ _ => rfl)) ?_) | refine PWops.idxZ1 rfl rfl rfl rfl rfl rfl rfl rfl (by (first | omega | (dsimp only ; omega))) ?_ | refine PWops.idxZ rfl rfl rfl rfl rfl rfl rfl rfl (by (first | omega | (dsimp only ; omega))) ?_ | refine PWops.ld rfl rfl rfl rfl rfl rfl rfl rfl rfl ?_ | refine PWops.slcL rfl rfl rfl rfl rfl rfl rfl rfl (by (first | omega | (dsimp only ; omega))) ?_ | refine PWops.slcH rfl rfl rfl rfl rfl rfl rfl rfl (by (first | omega | (dsimp only ; omega))) ?_ | refine PWops.slcRL rfl rfl rfl rfl rfl rfl rfl rfl (by intro; rfl) (by (first | omega | (dsimp only ; omega))) ?_ | refine PWops.slcRH rfl rfl rfl rfl rfl rfl rfl rfl (by intro; rfl) (by (first | omega | (dsimp only ; omega))) ?_ | refine PWops.slcM rfl rfl rfl rfl rfl rfl rfl rfl rfl (by (first | omega | (dsimp only ; omega))) ?_ | refine PWops.ldM rfl rfl rfl rfl rfl rfl rfl (by (first | omega | (dsimp only ; omega))) rfl ?_ | refine PWops.ldR rfl rfl rfl rfl rfl rfl rfl (by (first | exact secL_len | exact dcellL_len | exact putL_len | (intro; rfl))) (by (first | omega | (dsimp only ; omega))) rfl rfl ?_ | refine PWops.ldRA rfl rfl rfl rfl rfl rfl (by intro; rfl) (by (first | omega | (dsimp only ; omega))) rfl ?_ | refine PWops.slcP rfl rfl rfl rfl rfl rfl rfl rfl rfl (by decide) ?_ | refine PWops.idxE1 rfl rfl rfl rfl rfl rfl rfl rfl (by (first | omega | (dsimp only ; omega))) ?_ | refine PWops.ldG rfl rfl rfl rfl rfl rfl (by (first | rfl | exact secL_len _ | exact dcellL_len _ | exact putL_len _ | exact len_map (by assumption) | exact len_map rfl)) (by (first | rfl | exact secL_bare _ | exact dcellL_bare _ | exact putL_bare _ | exact bare_map (fun _ => rfl) _)) ?_ | refine PWops.ldMB rfl rfl rfl rfl rfl rfl rfl rfl (by (first | omega | (dsimp only ; omega))) rfl rfl ?_ | refine PWops.stMB rfl rfl rfl rfl rfl rfl rfl rfl rfl rfl (by (first | omega | (dsimp only ; omega))) ?_ | refine PWops.idxV rfl rfl rfl rfl rfl rfl rfl rfl (by (first | omega | (dsimp only ; omega))) rfl ?_))
  refine PWops.mkI (out := zero4.flatMap putL) typeTab_ok rfl (fun _ _ => rfl) rfl rfl rfl rfl rfl rfl rfl ?_ rfl ?_
  · exact ⟨by decide, by decide, by decide⟩
  refine wk ?_
  refine PWops.bld1 (out := putL ⟨0, a⟩) rfl rfl rfl rfl rfl rfl rfl (fill_put1 _) ?_
  refine wk ?_
  refine PWops.bld1 (out := putL ⟨0, b⟩) rfl rfl rfl rfl rfl rfl rfl (fill_put1 _) ?_
  refine PWops.litB (cs := putL ⟨0, a⟩) (ds := putL ⟨0, b⟩) rfl rfl rfl rfl rfl rfl rfl rfl (putL_len _) (putL_len _) rfl rfl rfl (putL_one _) (putL_bare _) (putL_one _) (putL_bare _) ?_
  refine wk ?_
  exact retP rfl (by exact lw) rfl
end Go.Proofs.YtilcpcpmkklobaaDoor

/- What every law's row asks behind the walk: it returns true, and nothing that was there has changed; and how its arguments are opened. -/
namespace Go.Proofs.YtilcpcpmkklobaaDoor
set_option linter.unusedSimpArgs false
set_option linter.unusedVariables false
set_option linter.unnecessarySimpa false
open Go.ChangeShapes Go.WideShapes Go.ChangeAt Go.RowKit

theorem own : ownKnob Tryd.prog.godebug = none := by kernel_rfl
theorem laidOut : laidOutB Tryd.prog = true := by kernel_rfl

theorem trodAll_below {H : Type} {enc : TypeId × Value → H} {P : Program} (hl : laidOutB P = true) {W W' : World} (hb : Below W.heap.size W W') :
    ∀ (ts : List TypeId) (vs : List Value) (ds : List (DataW H)) (ps : List MemPlace), ts.all (fun t => P.readableRec t && decide (t < P.types.size)) = true → DataW.TrodAll enc P W 0 (fun _ => true) true ts vs ds ps →
      (∀ x ∈ ps, x.block < W.heap.size) → DataW.TrodAll enc P W' 0 (fun b => decide (b < W.heap.size)) true ts vs ds ps
  | [], [], [], ps, _, h, _ => h
  | t :: ts, v :: vs, d :: ds, ps, hr, h, hlt => by
    obtain ⟨p, q, h1, h2, rfl⟩ := h
    simp only [List.all_cons, Bool.and_eq_true, decide_eq_true_eq] at hr
    exact ⟨p, q, Below.trod hl hr.1.1 hr.1.2 h1 hb (fun x hx => hlt x (List.mem_append_left _ hx)), trodAll_below hl hb ts vs ds q hr.2 h2 (fun x hx => hlt x (List.mem_append_right _ hx)), rfl⟩
  | [], [], _ :: _, _, _, h, _ => by simp [DataW.TrodAll] at h
  | [], _ :: _, _, _, _, h, _ => by simp [DataW.TrodAll] at h
  | _ :: _, [], _, _, _, h, _ => by simp [DataW.TrodAll] at h
  | _ :: _, _ :: _, [], _, _, h, _ => by simp [DataW.TrodAll] at h

/-- The post of a law. -/
theorem post_law {H : Type} {enc : TypeId × Value → H} {P : Program} (hl : laidOutB P = true) {f : Func} {s : ChangeSpec} {W W' : World} {args : Array Value} {ds : List (DataW H)} {before : List MemPlace} {tb : TypeId}
    (htb : P.underlying tb = some .bool) (hres : f.resultTypes = #[tb]) (hvars : s.vars = []) (hread : f.params.toList.all (fun t => P.readableRec t && decide (t < P.types.size)) = true)
    (hW : DataW.Whole enc P f.params.toList s.vars false W args.toList ds [] before)
    (hr : (s.fn H (ds ++ [])).results = [.lit (.bool true)]) (ha : (s.fn H (ds ++ [])).args = ds) (hv : (s.fn H (ds ++ [])).vars = [])
    (hb : Below W.heap.size W W') : s.post enc P f false true false false W args (.bool true) W' := by
  have hW' := hW
  obtain ⟨p, q, hA, hV, rfl, _, _⟩ := hW
  rw [hvars] at hV
  obtain ⟨_, rfl⟩ := trodVars_none hV
  refine ⟨ds, [], p ++ [], [], p, [], hW', ?_, ?_, ?_, hb.frame _, fun h => by cases h⟩
  · rw [hr, hres]
    exact trodAll_cons_mk (shut_bool htb true) trodAll_mk0
  · rw [ha]
    exact trodAll_below hl hb _ _ _ _ hread hA (fun x hx => by simpa using hW'.lt x (by simp [hx]))
  · rw [hv, hvars]; rfl

/-- A slice of 64-bit integers among the arguments. -/
theorem open_Ints {H : Type} {enc : TypeId × Value → H} {P : Program} {W : World} {t e : TypeId} {v : Value} {d : DataW H} {p : List MemPlace} {base : Nat} (ht : P.underlying t = some (.slice e)) (he : P.underlying e = some (.int .i64)) (hc : P.cellsOf e = 1)
    (hval : Value.okWide P W .any base t v) (h : DataW.Trod enc P W 0 (fun _ => true) true t v d p) :
    ∃ zs : List Int, Ints W v zs ∧ (∀ z ∈ zs, -9223372036854775808 ≤ z ∧ z ≤ 9223372036854775807) ∧ ((zs = [] ∧ d = .nil) ∨ ∃ sp, d = .slice (lits .i64 zs) sp) := by
  obtain ⟨a0, len, cap, rfl⟩ := okWide_slice ht hval
  obtain ⟨fuel, hf⟩ := h
  rcases open_ints ht he hc hf with ⟨hcs, hx⟩ | ⟨a, len', cap', zs, hcs, _, hl, hm, hz, hx, hcell, hwz⟩
  · simp [Value.cells] at hcs
    obtain ⟨rfl, rfl, rfl⟩ := hcs
    simp only [Prod.mk.injEq] at hx
    exact ⟨[], ⟨none, 0, 0, 0, rfl, by simp, by simp [maxLen], fun h => by simp at h, fun j u hu => by simp at hu⟩, by simp, .inl ⟨rfl, hx.1⟩⟩
  · simp [Value.cells] at hcs
    obtain ⟨rfl, rfl, rfl⟩ := hcs
    simp only [Prod.mk.injEq] at hx
    simp only [if_true] at hz
    have hlen : (zs.take len).length = len := by rw [List.length_take]; omega
    refine ⟨zs.take len, ⟨some a, cap, a.block, a.off, by rw [List.length_map, hlen], by rw [List.length_map, hlen]; exact hl, hm, fun h => ?_, fun j u hu => ?_⟩, fun z hz' => ?_, .inr ⟨_, hx.1⟩⟩
    · rw [List.length_map, hlen] at h
      have hs := World.cell?_spot (hcell 0 (by omega))
      obtain ⟨b, off, spot⟩ := a
      have : spot = none := by simpa [Addr.add] using hs
      rw [this]
    · rw [List.getElem?_map] at hu
      obtain ⟨x, hx2, rfl⟩ := Option.map_eq_some_iff.1 hu
      have hj : j < len := by have := (List.getElem?_eq_some_iff.1 hx2).1; omega
      have hs := World.cell?_spot (hcell 0 (by omega))
      obtain ⟨b, off, spot⟩ := a
      have : spot = none := by simpa [Addr.add] using hs
      subst this
      have := hcell j (by omega)
      rw [add_plain] at this
      rw [this]
      rw [List.getElem?_take, if_pos hj] at hx2
      simp [List.getD, hx2]
    · have := hwz z (List.mem_of_mem_take hz')
      simpa [Lit.wf, IntKind.min, IntKind.max, IntKind.signed, IntKind.bits] using this

/-- The reach of the j-th argument. -/
theorem reach_Ints {H : Type} {P : Program} {ts : List TypeId} {ds : List (DataW H)} (hsz : (DataW.weightsEach P ts ds).all (· ≤ reachBytes) = true) (j : Nat) {t e : TypeId} {d : DataW H} {zs : List Int} (k : IntKind) (n : Nat) (ht : ts[j]? = some t) (hd : ds[j]? = some d) (hu : P.underlying t = some (.slice e)) (hb : P.bytesOf e = n)
    (h : (zs = [] ∧ d = .nil) ∨ ∃ sp, d = .slice (lits k zs) sp) : zs.length * n ≤ 140737488351232 := by
  rcases h with ⟨rfl, _⟩ | ⟨sp, rfl⟩
  · simp
  · have := sized_slice hsz ht hd hu
    rw [hb] at this
    simp only [lits, List.length_map, reachBytes] at this
    have h2 : zs.length * n ≤ (zs.length + sp.length) * n := Nat.mul_le_mul_right _ (by omega)
    omega

theorem cellsInt : Tryd.prog.cellsOf 3 = 1 := by kernel_rfl
theorem bytesInt : Tryd.prog.bytesOf 3 = 8 := by kernel_rfl

end Go.Proofs.YtilcpcpmkklobaaDoor
