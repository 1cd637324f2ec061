/- Merged: PlainC, PlainD, PlainF, PlainM, PlainZ, PlainS, StrA, StrB, PwQ, Slices, PwS, Tab, PwT, AttrL, AttrN, AttrO, AttrP, AttrQ, AttrR, PlainU, RegionB, RegionG, AttrS, AttrG. -/
import Derived.Laws.BytesString
import Derived.Lib.Hide
import Derived.KernelRfl
import Derived.StillTailTactics
import Derived.Deep.Cut
import Derived.Test.YtnjopfjmepbpoaaC2
/- Plain: the differences of borders. -/
namespace Go.Proofs.Ytnjopfjmepbpoaa
set_option linter.unusedSimpArgs false
set_option linter.unusedVariables false
set_option linter.unnecessarySimpa false

def diffL : List Int → Int → List Int
  | [], _ => []
  | z :: r, last => (z - last) :: diffL r z
def sumL : List Int → Int → List Int
  | [], _ => []
  | d :: r, last => (last + d) :: sumL r (last + d)

theorem diffL_length : ∀ (zs : List Int) (l : Int), (diffL zs l).length = zs.length
  | [], _ => rfl
  | z :: r, l => by simp [diffL, diffL_length r z]
theorem sumL_length : ∀ (zs : List Int) (l : Int), (sumL zs l).length = zs.length
  | [], _ => rfl
  | z :: r, l => by simp [sumL, sumL_length r _]
theorem sum_diff : ∀ (zs : List Int) (l : Int), sumL (diffL zs l) l = zs
  | [], _ => rfl
  | z :: r, l => by
    rw [diffL, sumL, show l + (z - l) = z by omega, sum_diff r z]
theorem diff_sum : ∀ (ds : List Int) (l : Int), diffL (sumL ds l) l = ds
  | [], _ => rfl
  | d :: r, l => by
    rw [sumL, diffL, diff_sum r (l + d), show l + d - l = d by omega]

theorem diffL_get : ∀ (zs : List Int) (l : Int) (k : Nat) (y z : Int), zs[k]? = some y → zs[k+1]? = some z → (diffL zs l)[k+1]? = some (z - y)
  | [], _, k, y, z, h, _ => by simp at h
  | x :: r, l, 0, y, z, h, h2 => by
    simp at h; subst h
    match r with
    | [] => simp at h2
    | u :: r => simp at h2; subst h2; simp [diffL]
  | x :: r, l, k + 1, y, z, h, h2 => by
    have := diffL_get r x k y z (by simpa using h) (by simpa using h2)
    simpa [diffL] using this
theorem diffL_get0 (zs : List Int) (z : Int) (h : zs[0]? = some z) (l : Int) : (diffL zs l)[0]? = some (z - l) := by
  match zs with
  | [] => simp at h
  | x :: r => simp at h; subst h; simp [diffL]

/-- What bits.Encode has in memory, from the m-th place on. -/
def encAt (zs : List Int) (m : Nat) : List Int := zs.take m ++ (diffL zs 0).drop m

theorem encAt_length (zs : List Int) (m : Nat) (h : m ≤ zs.length) : (encAt zs m).length = zs.length := by
  simp [encAt, diffL_length]; omega
theorem encAt_all (zs : List Int) : encAt zs zs.length = zs := by
  simp [encAt, diffL_length]
theorem encAt_one (zs : List Int) (m : Nat) (h : m ≤ 1) : encAt zs m = diffL zs 0 := by
  match m, zs with
  | 0, zs => simp [encAt]
  | 1, [] => rfl
  | 1, z :: r => simp [encAt, diffL]
theorem encAt_get (zs : List Int) (m j : Nat) (y : Int) (hj : j < m) (h : zs[j]? = some y) : (encAt zs m)[j]? = some y := by
  have hlt := (List.getElem?_eq_some_iff.1 h).1
  rw [encAt, List.getElem?_append_left (by simp; omega), List.getElem?_take, if_pos hj, h]
theorem encAt_set (zs : List Int) (m : Nat) (y z : Int) (h1 : zs[m]? = some y) (h2 : zs[m+1]? = some z) : (encAt zs (m+2)).set (m+1) (z - y) = encAt zs (m+1) := by
  have hlt := (List.getElem?_eq_some_iff.1 h2).1
  have hd := diffL_get zs 0 m y z h1 h2
  have hdl := (List.getElem?_eq_some_iff.1 hd).1
  rw [encAt, encAt, show m + 2 = (m + 1) + 1 by omega, List.take_add_one, h2, Option.toList, List.append_assoc]
  rw [List.set_append_right _ _ (by rw [List.length_take]; omega)]
  congr 1
  rw [List.length_take, Nat.min_eq_left (by omega), Nat.sub_self]
  rw [List.drop_eq_getElem_cons (i := m + 1) hdl]
  have e := (List.getElem?_eq_some_iff.1 hd).2
  simp [e]

theorem diffL_fit : ∀ (zs : List Int) (l : Int), (∀ z ∈ zs, 0 ≤ z ∧ z ≤ 4096) → 0 ≤ l → l ≤ 4096 → ∀ d ∈ diffL zs l, -4096 ≤ d ∧ d ≤ 4096
  | [], _, _, _, _, d, h => by simp [diffL] at h
  | z :: r, l, h, h0, h1, d, hd => by
    have hz := h z (by simp)
    rw [diffL] at hd
    rcases List.mem_cons.1 hd with rfl | hd
    · omega
    · exact diffL_fit r z (fun u hu => h u (by simp [hu])) hz.1 hz.2 d hd

/-- What Decode makes of numbers: a set, if it is one. -/
def stepB (d : Int) : Bool := decide (0 ≤ d) && decide (d ≤ 4096)
def decOk (ds : List Int) : Bool := ds.all stepB && validB (sumL ds 0)

theorem stepB_take (l : List Int) (k : Nat) (y : Int) (h : l[k]? = some y) : (l.take (k+1)).all stepB = ((l.take k).all stepB && stepB y) := by
  rw [take_one l k y h]; simp
theorem not_step (l : List Int) (k : Nat) (y : Int) (h : l[k]? = some y) (hy : stepB y = false) : l.all stepB = false := by
  rw [List.all_eq_false]
  exact ⟨y, List.mem_of_getElem? h, by simp [hy]⟩

/-- The last sum of the first k numbers. -/
def lastSum (ds : List Int) (k : Nat) : Int := ((sumL ds 0).take k).getLastD 0

theorem sumL_snoc (d : Int) : ∀ (ds : List Int) (l : Int), sumL (ds ++ [d]) l = sumL ds l ++ [(sumL ds l).getLastD l + d]
  | [], l => by simp [sumL]
  | e :: r, l => by
    have := sumL_snoc d r (l + e)
    rw [List.cons_append, sumL, this, sumL, List.cons_append, List.getLastD_cons]
theorem sumL_take : ∀ (ds : List Int) (l : Int) (k : Nat), (sumL ds l).take k = sumL (ds.take k) l
  | [], l, k => by simp [sumL]
  | e :: r, l, 0 => by simp [sumL]
  | e :: r, l, k + 1 => by simp [sumL, sumL_take r (l + e) k]
theorem sum_step (ds : List Int) (k : Nat) (d : Int) (h : ds[k]? = some d) : (sumL ds 0).take (k+1) = (sumL ds 0).take k ++ [lastSum ds k + d] ∧ lastSum ds (k+1) = lastSum ds k + d := by
  have e : (sumL ds 0).take (k+1) = (sumL ds 0).take k ++ [lastSum ds k + d] := by
    rw [sumL_take, take_one ds k d h, sumL_snoc, lastSum, sumL_take]
  refine ⟨e, ?_⟩
  rw [lastSum, e]; simp
theorem lastSum_bd (ds : List Int) : ∀ k, k ≤ ds.length → (ds.take k).all stepB = true → 0 ≤ lastSum ds k ∧ lastSum ds k ≤ 4096 * k
  | 0, _, _ => by simp [lastSum]
  | k + 1, hk, h => by
    obtain ⟨d, hd⟩ : ∃ d, ds[k]? = some d := ⟨ds[k], by simp⟩
    rw [stepB_take ds k d hd, Bool.and_eq_true] at h
    have ih := lastSum_bd ds k (by omega) h.1
    rw [(sum_step ds k d hd).2]
    have h2 := h.2
    simp only [stepB, Bool.and_eq_true, decide_eq_true_eq] at h2
    omega

end Go.Proofs.Ytnjopfjmepbpoaa

/- Plain: Decode. -/
namespace Go.Proofs.Ytnjopfjmepbpoaa
set_option linter.unusedSimpArgs false
set_option linter.unusedVariables false
set_option linter.unnecessarySimpa false

theorem getN_len : ∀ (n : Nat) (bs : List Int), (getN n bs).1.length ≤ n
  | 0, _ => by simp [getN]
  | n + 1, bs => by
    have := getN_len n (bs.drop (getI bs).2.1.toNat)
    rw [getN]
    split
    · simp
    · split
      · simp
      · simp; exact this

theorem getInts_len (bs : List Int) (hby : ∀ c ∈ bs, 0 ≤ c ∧ c < 256) : (getInts bs).1.length ≤ bs.length := by
  rw [getInts]
  by_cases h : (lenL bs 1).2.2 ≠ 0
  · rw [if_pos h]; simp
  · rw [if_neg h]
    have ok := lenL_ok bs 1 hby (by simpa using h)
    have hn := getN_len (lenL bs 1).1.toNat (bs.drop (lenL bs 1).2.1.toNat)
    rw [andThen]
    split
    · simp
    · simp only [List.nil_append]
      simp only [Int.ediv_one] at ok
      omega

def decL (bs : List Int) : List Int × Int :=
  if (getInts bs).2.2 ≠ 0 ∨ (getInts bs).2.1 ≠ bs.length then ([], 11)
  else if decOk (getInts bs).1 then (sumL (getInts bs).1 0, 0) else ([], 11)

def decAt (ds : List Int) (k : Nat) : List Int := (sumL ds 0).take k ++ ds.drop k

theorem decAt_length (ds : List Int) (k : Nat) : (decAt ds k).length = ds.length := by simp [decAt, sumL_length]; omega
theorem decAt_zero (ds : List Int) : decAt ds 0 = ds := by simp [decAt]
theorem decAt_all (ds : List Int) (k : Nat) (h : ds.length ≤ k) : decAt ds k = sumL ds 0 := by
  rw [decAt, List.drop_eq_nil_of_le h, List.take_of_length_le (by rw [sumL_length]; exact h)]; simp
theorem decAt_get (ds : List Int) (k : Nat) (d : Int) (h : ds[k]? = some d) : (decAt ds k)[k]? = some d := by
  have hlt := (List.getElem?_eq_some_iff.1 h).1
  rw [decAt, List.getElem?_append_right (by rw [List.length_take]; omega), List.length_take, sumL_length, Nat.min_eq_left (by omega), Nat.sub_self, List.getElem?_drop]
  simpa using h
theorem decAt_prev (ds : List Int) (k : Nat) (hk : 0 < k) (hl : k ≤ ds.length) : (decAt ds k)[k-1]? = some (lastSum ds k) := by
  rw [decAt, List.getElem?_append_left (by simp [sumL_length]; omega), lastSum]
  rw [List.getLastD_eq_getLast?, List.getLast?_eq_getElem?]
  simp only [List.length_take, sumL_length, Nat.min_eq_left hl]
  have hlt : k - 1 < ((sumL ds 0).take k).length := by simp [sumL_length]; omega
  rw [List.getElem?_eq_getElem hlt]; rfl
theorem decAt_set (ds : List Int) (k : Nat) (d : Int) (h : ds[k]? = some d) : (decAt ds k).set k (lastSum ds k + d) = decAt ds (k+1) := by
  have hlt := (List.getElem?_eq_some_iff.1 h).1
  rw [decAt, decAt, (sum_step ds k d h).1, drop_one ds k d h]
  have e : ((sumL ds 0).take k).length = k := by simp [sumL_length]; omega
  rw [List.set_append_right _ _ (by omega), e, Nat.sub_self]
  simp
theorem decAt_first (ds : List Int) (d : Int) (h : ds[0]? = some d) : decAt ds 1 = decAt ds 0 := by
  rw [← decAt_set ds 0 d h]
  match ds with
  | [] => simp at h
  | x :: r => simp at h; subst h; simp [decAt, lastSum]

end Go.Proofs.Ytnjopfjmepbpoaa

/- Plain: how many borders are not greater than a number. -/
namespace Go.Proofs.Ytnjopfjmepbpoaa
set_option linter.unusedSimpArgs false
set_option linter.unusedVariables false
set_option linter.unnecessarySimpa false

def runL (x y : Int) : List Int := if max x 0 < min y 4096 then [max x 0, min y 4096] else []

def afterL (zs : List Int) (x : Int) : Nat := (zs.takeWhile (fun y => decide (y ≤ x))).length

theorem afterL_eq (x : Int) : ∀ (zs : List Int) (i : Nat), i ≤ zs.length → (∀ (m : Nat) (y : Int), m < i → zs[m]? = some y → y ≤ x) → (∀ y : Int, zs[i]? = some y → x < y) → afterL zs x = i
  | [], i, hi, _, _ => by simp at hi; subst hi; rfl
  | z :: r, 0, _, _, h2 => by
    have := h2 z rfl
    simp [afterL, show ¬ z ≤ x by omega]
  | z :: r, i + 1, hi, h1, h2 => by
    have hz := h1 0 z (by omega) rfl
    have ih := afterL_eq x r i (by simpa using hi) (fun m y hm hy => h1 (m+1) y (by omega) (by simpa using hy)) (fun y hy => h2 y (by simpa using hy))
    simp only [afterL, List.takeWhile_cons, decide_eq_true_eq, hz, if_true, List.length_cons] at ih ⊢
    omega

theorem good_le {zs : List Int} (hg : Good zs) : ∀ (i j : Nat) (y z : Int), i ≤ j → zs[i]? = some y → zs[j]? = some z → y ≤ z := by
  intro i j
  induction j with
  | zero => intro y z h hy hz; obtain rfl : i = 0 := by omega
            rw [hy] at hz; cases hz; omega
  | succ j ih =>
    intro y z h hy hz
    by_cases e : i = j + 1
    · subst e; rw [hy] at hz; cases hz; omega
    · have hlt := (List.getElem?_eq_some_iff.1 hz).1
      obtain ⟨u, hu⟩ : ∃ u, zs[j]? = some u := ⟨zs[j], by simp⟩
      have h1 := ih y u (by omega) hy hu
      have h2 := hg.asc j u z hu hz
      omega

theorem hasL_after (x : Int) : ∀ (zs : List Int) (lo : Int), ascB lo zs = true → hasL zs x = decide (afterL zs x % 2 = 1) ∨ zs.length % 2 = 1
  | [], _, _ => .inl rfl
  | [_], _, _ => .inr rfl
  | a :: b :: r, lo, h => by
    simp only [ascB, Bool.and_eq_true, decide_eq_true_eq] at h
    obtain ⟨⟨h1, h2⟩, ⟨h3, h4⟩, h5⟩ := h
    rcases hasL_after x r b h5 with ih | ih
    · left
      rw [hasL]
      by_cases g1 : a ≤ x
      · by_cases g2 : b ≤ x
        · have e : afterL (a :: b :: r) x = afterL r x + 2 := by simp [afterL, g1, g2]
          rw [e, ih]
          simp [g1, show ¬ x < b by omega]
        · have e : afterL (a :: b :: r) x = 1 := by simp [afterL, g1, g2]
          rw [e]; simp [g1, show x < b by omega]
      · have e : afterL (a :: b :: r) x = 0 := by simp [afterL, g1]
        have e2 : afterL r x = 0 := by
          have := afterL_eq x r 0 (by omega) (fun m y hm => absurd hm (by omega)) (fun y hy => by have := (ascB_rng r b h5 0 y hy).1; omega)
          exact this
        rw [e, ih, e2]; simp [g1]
    · right; simp; omega

theorem hasL_eq {zs : List Int} (hv : validB zs = true) (x : Int) : hasL zs x = decide (afterL zs x % 2 = 1) := by
  simp only [validB, Bool.and_eq_true, decide_eq_true_eq] at hv
  rcases hasL_after x zs (-1) hv.1 with h | h
  · exact h
  · omega

end Go.Proofs.Ytnjopfjmepbpoaa

/- Plain: sets as lists of borders: they are equal if they have the same slots; what Bits and merge make are sets. -/
namespace Go.Proofs.Ytnjopfjmepbpoaa
set_option linter.unusedSimpArgs false
set_option linter.unusedVariables false
set_option linter.unnecessarySimpa false

theorem ascB_mono : ∀ (l : List Int) (lo lo' : Int), ascB lo l = true → lo' ≤ lo → ascB lo' l = true
  | [], _, _, _, _ => rfl
  | z :: r, lo, lo', h, hl => by
    simp only [ascB, Bool.and_eq_true, decide_eq_true_eq] at h ⊢
    exact ⟨⟨by omega, h.1.2⟩, h.2⟩

theorem hasL_below : ∀ (l : List Int) (lo x : Int), ascB lo l = true → x ≤ lo → hasL l x = false
  | [], _, _, _, _ => rfl
  | [_], _, _, _, _ => rfl
  | a :: b :: r, lo, x, h, hx => by
    simp only [ascB, Bool.and_eq_true, decide_eq_true_eq] at h
    rw [hasL, hasL_below r b x h.2.2 (by omega), show decide (a ≤ x) = false by simp; omega]; rfl

theorem set_ext : ∀ (a b : List Int) (lo : Int), ascB lo a = true → ascB lo b = true → a.length % 2 = 0 → b.length % 2 = 0 → (∀ x, hasL a x = hasL b x) → a = b
  | [], [], _, _, _, _, _, _ => rfl
  | [], [_], _, _, _, _, h, _ => by simp at h
  | [_], _, _, _, _, h, _, _ => by simp at h
  | [], b1 :: b2 :: br, lo, _, hb, _, _, h => by
    simp only [ascB, Bool.and_eq_true, decide_eq_true_eq] at hb
    have := h b1
    simp [hasL] at this
    omega
  | a1 :: a2 :: ar, [], lo, ha, _, _, _, h => by
    simp only [ascB, Bool.and_eq_true, decide_eq_true_eq] at ha
    have := h a1
    simp [hasL] at this
    omega
  | a1 :: a2 :: ar, [_], _, _, _, _, h, _ => by simp at h
  | a1 :: a2 :: ar, b1 :: b2 :: br, lo, ha, hb, la, lb, h => by
    simp only [ascB, Bool.and_eq_true, decide_eq_true_eq] at ha hb
    obtain ⟨⟨ha1, _⟩, ⟨ha2, ha3⟩, ha4⟩ := ha
    obtain ⟨⟨hb1, _⟩, ⟨hb2, hb3⟩, hb4⟩ := hb
    have e1 : a1 = b1 := by
      have h1 := h a1
      have h2 := h b1
      rw [hasL, hasL, show (decide (a1 ≤ a1) && decide (a1 < a2)) = true by simp; omega] at h1
      rw [hasL, hasL, show (decide (b1 ≤ b1) && decide (b1 < b2)) = true by simp; omega] at h2
      simp only [Bool.true_or, Bool.or_true] at h1 h2
      by_cases g : a1 < b1
      · rw [hasL_below br b2 a1 hb4 (by omega), show decide (b1 ≤ a1) = false by simp; omega] at h1
        simp at h1
      · by_cases g2 : b1 < a1
        · rw [hasL_below ar a2 b1 ha4 (by omega), show decide (a1 ≤ b1) = false by simp; omega] at h2
          simp at h2
        · omega
    subst e1
    have e2 : a2 = b2 := by
      by_cases g : a2 < b2
      · have h1 := h a2
        rw [hasL, hasL, hasL_below ar a2 a2 ha4 (by omega), show (decide (a1 ≤ a2) && decide (a2 < a2)) = false by simp, show (decide (a1 ≤ a2) && decide (a2 < b2)) = true by simp; omega] at h1
        simp at h1
      · by_cases g2 : b2 < a2
        · have h1 := h b2
          rw [hasL, hasL, hasL_below br b2 b2 hb4 (by omega), show (decide (a1 ≤ b2) && decide (b2 < b2)) = false by simp, show (decide (a1 ≤ b2) && decide (b2 < a2)) = true by simp; omega] at h1
          simp at h1
        · omega
    subst e2
    have e3 : ar = br := by
      refine set_ext ar br a2 ha4 hb4 (by simp at la; omega) (by simp at lb; omega) (fun x => ?_)
      by_cases g : x ≤ a2
      · rw [hasL_below ar a2 x ha4 g, hasL_below br a2 x hb4 g]
      · have h1 := h x
        rw [hasL, hasL, show decide (x < a2) = false by simp; omega] at h1
        simpa using h1
    rw [e3]

theorem valid_ext {a b : List Int} (ha : validB a = true) (hb : validB b = true) (h : ∀ x, hasL a x = hasL b x) : a = b := by
  simp only [validB, Bool.and_eq_true, decide_eq_true_eq] at ha hb
  exact set_ext a b (-1) ha.1 hb.1 ha.2 hb.2 h

/-- A list of bools, from the place x on. -/
def memB (l : List Bool) (x y : Int) : Bool := decide (x ≤ y) && l.getD (y - x).toNat false

theorem memB_cons (c : Bool) (r : List Bool) (x y : Int) : memB (c :: r) x y = ((decide (y = x) && c) || memB r (x + 1) y) := by
  unfold memB
  by_cases h : y = x
  · subst h; simp [show ¬ (y + 1 ≤ y) by omega]
  · by_cases g : x ≤ y
    · obtain ⟨k, hk⟩ : ∃ k : Nat, (y - x).toNat = k + 1 := ⟨(y - x).toNat - 1, by omega⟩
      rw [hk, show (y - (x + 1)).toNat = k by omega]
      simp [h, g, show x + 1 ≤ y by omega]
    · simp [h, g, show ¬ (x + 1 ≤ y) by omega]

theorem bitsGo_spec : ∀ (l : List Bool) (x : Int), 0 ≤ x → x + l.length ≤ 4096 →
    (ascB (x - 1) (bitsGo l x false) = true ∧ (bitsGo l x false).length % 2 = 0 ∧ ∀ y, hasL (bitsGo l x false) y = memB l x y) ∧
    (∀ s, s < x → ascB s (bitsGo l x true) = true ∧ (bitsGo l x true).length % 2 = 1 ∧ ∀ y, hasL (s :: bitsGo l x true) y = ((decide (s ≤ y) && decide (y < x)) || memB l x y))
  | [], x, h0, h1 => by
    refine ⟨⟨rfl, rfl, fun y => by simp [bitsGo, hasL, memB]⟩, fun s hs => ⟨by simp [bitsGo, ascB] at h1 ⊢; omega, rfl, fun y => by simp [bitsGo, hasL, memB]⟩⟩
  | c :: r, x, h0, h1 => by
    obtain ⟨⟨f1, f2, f3⟩, ft⟩ := bitsGo_spec r (x + 1) (by omega) (by simp at h1; omega)
    have hx : x ≤ 4096 := by simp at h1; omega
    refine ⟨?_, fun s hs => ?_⟩
    · cases c
      · refine ⟨?_, ?_, fun y => ?_⟩
        · rw [bitsGo, if_pos rfl]; exact ascB_mono _ _ _ f1 (by omega)
        · rw [bitsGo, if_pos rfl]; exact f2
        · rw [bitsGo, if_pos rfl, f3, memB_cons]; simp
      · obtain ⟨t1, t2, t3⟩ := ft x (by omega)
        refine ⟨?_, ?_, fun y => ?_⟩
        · rw [bitsGo, if_neg (by simp), ascB, t1]; simp; omega
        · rw [bitsGo, if_neg (by simp), List.length_cons]; omega
        · rw [bitsGo, if_neg (by simp), t3, memB_cons]
          congr 1
          rw [Bool.eq_iff_iff]; simp; omega
    · cases c
      · refine ⟨?_, ?_, fun y => ?_⟩
        · rw [bitsGo, if_neg (by simp), ascB]
          have := ascB_mono _ _ x f1 (by omega)
          rw [this]; simp; omega
        · rw [bitsGo, if_neg (by simp), List.length_cons]; omega
        · rw [bitsGo, if_neg (by simp), hasL, f3, memB_cons]; simp
      · obtain ⟨t1, t2, t3⟩ := ft s (by omega)
        refine ⟨?_, ?_, fun y => ?_⟩
        · rw [bitsGo, if_pos rfl]; exact t1
        · rw [bitsGo, if_pos rfl]; exact t2
        · rw [bitsGo, if_pos rfl, t3, memB_cons, ← Bool.or_assoc]
          congr 1
          rw [Bool.eq_iff_iff]; simp; omega

theorem bitsL_valid (f : Int → Bool) : validB (bitsL (tab f)) = true := by
  obtain ⟨⟨h1, h2, _⟩, _⟩ := bitsGo_spec (tab f) 0 (by omega) (by rw [tab_length]; omega)
  rw [validB, bitsL, h2]
  rw [show (0 : Int) - 1 = -1 by omega] at h1
  rw [h1]; rfl
theorem bitsL_has (f : Int → Bool) (y : Int) : hasL (bitsL (tab f)) y = (decide (0 ≤ y) && decide (y < 4096) && f y) := by
  obtain ⟨⟨_, _, h⟩, _⟩ := bitsGo_spec (tab f) 0 (by omega) (by rw [tab_length]; omega)
  rw [bitsL, h, memB]
  by_cases h0 : 0 ≤ y
  · by_cases h1 : y < 4096
    · rw [List.getD_eq_getElem?_getD, tab_get f _ (by omega)]
      have e : ((y - 0).toNat : Int) = y := by omega
      rw [e]; simp [h0, h1]
    · rw [List.getD_eq_getElem?_getD, List.getElem?_eq_none (by rw [tab_length]; omega)]; simp [h1]
  · simp [h0]

theorem has_rng (y : Int) : ∀ (l : List Int), (∀ z ∈ l, 0 ≤ z ∧ z ≤ 4096) → hasL l y = true → 0 ≤ y ∧ y < 4096
  | [], _, h => by simp [hasL] at h
  | [_], _, h => by simp [hasL] at h
  | a :: b :: r, hm, hh => by
    rw [hasL, Bool.or_eq_true] at hh
    rcases hh with hh | hh
    · simp at hh
      have h1 := hm a (by simp)
      have h2 := hm b (by simp)
      omega
    · exact has_rng y r (fun z hz => hm z (by simp [hz])) hh

theorem has_range {zs : List Int} (hv : validB zs = true) (y : Int) (h : hasL zs y = true) : 0 ≤ y ∧ y < 4096 := by
  have hg := good_of_valid hv
  exact has_rng y zs (fun z hz => by
    obtain ⟨k, hk⟩ := List.getElem?_of_mem hz
    exact hg.rng k z hk) h

/-- A valid set is what Bits makes of its slots. -/
theorem bits_of_has {zs : List Int} (hv : validB zs = true) (f : Int → Bool) (h : ∀ y, 0 ≤ y → y < 4096 → hasL zs y = f y) : zs = bitsL (tab f) := by
  refine valid_ext hv (bitsL_valid f) (fun y => ?_)
  rw [bitsL_has]
  by_cases h0 : 0 ≤ y
  · by_cases h1 : y < 4096
    · rw [h y h0 h1]; simp [h0, h1]
    · have : hasL zs y = false := by
        cases e : hasL zs y
        · rfl
        · have := has_range hv y e; omega
      rw [this]; simp [h1]
  · have : hasL zs y = false := by
      cases e : hasL zs y
      · rfl
      · have := has_range hv y e; omega
    rw [this]; simp [h0]

/-- Whether x is inside, if p says so before the list. -/
def inP (p : Bool) (l : List Int) (x : Int) : Bool := p != decide (afterL l x % 2 = 1)

theorem after_cons_le (a : Int) (l : List Int) (x : Int) (h : a ≤ x) : afterL (a :: l) x = afterL l x + 1 := by simp [afterL, h]
theorem after_low (l : List Int) (lo x : Int) (ha : ascB lo l = true) (h : x ≤ lo) : afterL l x = 0 :=
  afterL_eq x l 0 (by omega) (fun m y hm => absurd hm (by omega)) (fun y hy => by have := (ascB_rng l lo ha 0 y hy).1; omega)
theorem inP_cons (p : Bool) (a : Int) (l : List Int) (x : Int) (h : a ≤ x) : inP p (a :: l) x = inP (!p) l x := by
  rw [inP, inP, after_cons_le a l x h, odd_succ]
  cases p <;> cases decide (afterL l x % 2 = 1) <;> rfl
theorem inP_low (p : Bool) (l : List Int) (lo x : Int) (ha : ascB lo l = true) (h : x ≤ lo) : inP p l x = p := by
  rw [inP, after_low l lo x ha h]; cases p <;> rfl
theorem inP_low' (p : Bool) (a : Int) (l : List Int) (x : Int) (h : x < a) : inP p (a :: l) x = p := by
  have : afterL (a :: l) x = 0 := by simp [afterL, show ¬ a ≤ x by omega]
  rw [inP, this]; cases p <;> rfl

theorem merge_step (a : Int) (c po : Bool) (R' : List Int) (lo : Int) (hlo : lo < a) (h4 : a ≤ 4096) (hR : ascB a R' = true) (x : Int) (N : Bool) (hM : x < a → N = po) (hN : a ≤ x → inP (if c then !po else po) R' x = N) :
    ascB lo (if c then a :: R' else R') = true ∧ inP po (if c then a :: R' else R') x = N := by
  refine ⟨?_, ?_⟩
  · cases c
    · exact ascB_mono _ _ _ hR (by omega)
    · simp [ascB, hR]; omega
  · by_cases g : x < a
    · rw [hM g]
      cases c
      · exact inP_low _ _ a x hR (by omega)
      · exact inP_low' _ _ _ _ g
    · rw [← hN (by omega)]
      cases c
      · rfl
      · exact inP_cons _ _ _ _ (by omega)

theorem mergeF_spec (r : Bool → Bool → Bool) : ∀ (n : Nat) (az bs : List Int) (pa pb po : Bool) (lo : Int), az.length + bs.length ≤ n → ascB lo az = true → ascB lo bs = true → po = r pa pb →
    ascB lo (mergeF r n az bs pa pb po) = true ∧ ∀ x, inP po (mergeF r n az bs pa pb po) x = r (inP pa az x) (inP pb bs x)
  | 0, az, bs, pa, pb, po, lo, hl, ha, hb, hp => by
    have h1 : az = [] := List.eq_nil_of_length_eq_zero (by omega)
    have h2 : bs = [] := List.eq_nil_of_length_eq_zero (by omega)
    subst h1; subst h2
    exact ⟨rfl, fun x => by simp [mergeF, inP, afterL, hp]⟩
  | n + 1, az, bs, pa, pb, po, lo, hl, ha, hb, hp => by
    match az, bs with
    | [], [] => exact ⟨by rw [mergeF_nil]; rfl, fun x => by simp [mergeF, inP, afterL, hp]⟩
    | a :: az, [] =>
      simp only [ascB, Bool.and_eq_true, decide_eq_true_eq] at ha
      obtain ⟨⟨a1, a2⟩, a3⟩ := ha
      rw [mergeF_left]
      have ih := mergeF_spec r n az [] (!pa) pb (if (r (!pa) pb != po) then !po else po) a (by simp at hl ⊢; omega) a3 rfl (by cases h1 : r (!pa) pb <;> cases po <;> simp)
      have key : (if (r (!pa) pb != po) = true then a :: mergeF r n az [] (!pa) pb (!po) else mergeF r n az [] (!pa) pb po) = (if (r (!pa) pb != po) = true then a :: mergeF r n az [] (!pa) pb (if (r (!pa) pb != po) then !po else po) else mergeF r n az [] (!pa) pb (if (r (!pa) pb != po) then !po else po)) := by
        split <;> rfl
      rw [key]
      have st := fun x N hM hN => merge_step a (r (!pa) pb != po) po _ lo a1 a2 ih.1 x N hM hN
      refine ⟨(st lo po (fun _ => rfl) (fun h => absurd h (by omega))).1, fun x => (st x _ (fun g => ?_) (fun g => ?_)).2⟩
      · rw [inP_low' _ _ _ _ g, show inP pb [] x = pb by simp [inP, afterL], hp]
      · rw [ih.2, inP_cons _ _ _ _ g]
    | [], b :: bs =>
      simp only [ascB, Bool.and_eq_true, decide_eq_true_eq] at hb
      obtain ⟨⟨a1, a2⟩, a3⟩ := hb
      rw [mergeF_right]
      have ih := mergeF_spec r n [] bs pa (!pb) (if (r pa (!pb) != po) then !po else po) b (by simp at hl ⊢; omega) rfl a3 (by cases h1 : r pa (!pb) <;> cases po <;> simp)
      have key : (if (r pa (!pb) != po) = true then b :: mergeF r n [] bs pa (!pb) (!po) else mergeF r n [] bs pa (!pb) po) = (if (r pa (!pb) != po) = true then b :: mergeF r n [] bs pa (!pb) (if (r pa (!pb) != po) then !po else po) else mergeF r n [] bs pa (!pb) (if (r pa (!pb) != po) then !po else po)) := by
        split <;> rfl
      rw [key]
      have st := fun x N hM hN => merge_step b (r pa (!pb) != po) po _ lo a1 a2 ih.1 x N hM hN
      refine ⟨(st lo po (fun _ => rfl) (fun h => absurd h (by omega))).1, fun x => (st x _ (fun g => ?_) (fun g => ?_)).2⟩
      · rw [inP_low' _ _ _ _ g, show inP pa [] x = pa by simp [inP, afterL], hp]
      · rw [ih.2, inP_cons _ _ _ _ g]
    | a :: az, b :: bs =>
      have ha0 := ha
      have hb0 := hb
      simp only [ascB, Bool.and_eq_true, decide_eq_true_eq] at ha hb
      obtain ⟨⟨a1, a2⟩, a3⟩ := ha
      obtain ⟨⟨b1, b2⟩, b3⟩ := hb
      rw [mergeF.eq_5]
      by_cases g1 : a < b
      · rw [if_pos g1]
        have hb' : ascB a (b :: bs) = true := by simp [ascB, b3]; omega
        have ih := mergeF_spec r n az (b :: bs) (!pa) pb (if (r (!pa) pb != po) then !po else po) a (by simp at hl ⊢; omega) a3 hb' (by cases h1 : r (!pa) pb <;> cases po <;> simp)
        have key : (if (r (!pa) pb != po) = true then a :: mergeF r n az (b :: bs) (!pa) pb (!po) else mergeF r n az (b :: bs) (!pa) pb po) = (if (r (!pa) pb != po) = true then a :: mergeF r n az (b :: bs) (!pa) pb (if (r (!pa) pb != po) then !po else po) else mergeF r n az (b :: bs) (!pa) pb (if (r (!pa) pb != po) then !po else po)) := by
          split <;> rfl
        rw [key]
        have st := fun x N hM hN => merge_step a (r (!pa) pb != po) po _ lo a1 a2 ih.1 x N hM hN
        refine ⟨(st lo po (fun _ => rfl) (fun h => absurd h (by omega))).1, fun x => (st x _ (fun g => ?_) (fun g => ?_)).2⟩
        · rw [inP_low' _ _ _ _ g, inP_low' _ _ _ _ (by omega), hp]
        · rw [ih.2, inP_cons _ _ _ _ g]
      · rw [if_neg g1]
        by_cases g2 : b < a
        · rw [if_pos g2]
          have ha' : ascB b (a :: az) = true := by simp [ascB, a3]; omega
          have ih := mergeF_spec r n (a :: az) bs pa (!pb) (if (r pa (!pb) != po) then !po else po) b (by simp at hl ⊢; omega) ha' b3 (by cases h1 : r pa (!pb) <;> cases po <;> simp)
          have key : (if (r pa (!pb) != po) = true then b :: mergeF r n (a :: az) bs pa (!pb) (!po) else mergeF r n (a :: az) bs pa (!pb) po) = (if (r pa (!pb) != po) = true then b :: mergeF r n (a :: az) bs pa (!pb) (if (r pa (!pb) != po) then !po else po) else mergeF r n (a :: az) bs pa (!pb) (if (r pa (!pb) != po) then !po else po)) := by
            split <;> rfl
          rw [key]
          have st := fun x N hM hN => merge_step b (r pa (!pb) != po) po _ lo b1 b2 ih.1 x N hM hN
          refine ⟨(st lo po (fun _ => rfl) (fun h => absurd h (by omega))).1, fun x => (st x _ (fun g => ?_) (fun g => ?_)).2⟩
          · rw [inP_low' _ _ _ _ g, inP_low' _ _ _ _ (by omega), hp]
          · rw [ih.2, inP_cons pb b bs x g]
        · rw [if_neg g2]
          obtain rfl : a = b := by omega
          have ih := mergeF_spec r n az bs (!pa) (!pb) (if (r (!pa) (!pb) != po) then !po else po) a (by simp at hl ⊢; omega) a3 b3 (by cases h1 : r (!pa) (!pb) <;> cases po <;> simp)
          have key : (if (r (!pa) (!pb) != po) = true then a :: mergeF r n az bs (!pa) (!pb) (!po) else mergeF r n az bs (!pa) (!pb) po) = (if (r (!pa) (!pb) != po) = true then a :: mergeF r n az bs (!pa) (!pb) (if (r (!pa) (!pb) != po) then !po else po) else mergeF r n az bs (!pa) (!pb) (if (r (!pa) (!pb) != po) then !po else po)) := by
            split <;> rfl
          rw [key]
          have st := fun x N hM hN => merge_step a (r (!pa) (!pb) != po) po _ lo a1 a2 ih.1 x N hM hN
          refine ⟨(st lo po (fun _ => rfl) (fun h => absurd h (by omega))).1, fun x => (st x _ (fun g => ?_) (fun g => ?_)).2⟩
          · rw [inP_low' _ _ _ _ g, inP_low' _ _ _ _ g, hp]
          · rw [ih.2, inP_cons _ _ _ _ g, inP_cons _ _ _ _ g]

theorem after_all (l : List Int) (h : ∀ z ∈ l, z ≤ 4096) : afterL l 4096 = l.length := by
  exact afterL_eq 4096 l l.length (Nat.le_refl _) (fun m y _ hy => h y (List.mem_of_getElem? hy)) (fun y hy => by simp at hy)

theorem mergeL_spec (r : Bool → Bool → Bool) (hr : r false false = false) {xs ys : List Int} (hx : validB xs = true) (hy : validB ys = true) :
    validB (mergeL r xs ys) = true ∧ ∀ x, hasL (mergeL r xs ys) x = r (hasL xs x) (hasL ys x) := by
  have hx0 := hx
  have hy0 := hy
  simp only [validB, Bool.and_eq_true, decide_eq_true_eq] at hx hy
  obtain ⟨m1, m2⟩ := mergeF_spec r (xs.length + ys.length) xs ys false false false (-1) (Nat.le_refl _) hx.1 hy.1 hr.symm
  have hv : validB (mergeL r xs ys) = true := by
    have e := m2 4096
    simp only [inP] at e
    rw [after_all _ (fun z hz => (asc_le_last _ _ m1 z hz).2), after_all xs (fun z hz => (asc_le_last _ _ hx.1 z hz).2), after_all ys (fun z hz => (asc_le_last _ _ hy.1 z hz).2)] at e
    rw [show decide (xs.length % 2 = 1) = false by simp; omega, show decide (ys.length % 2 = 1) = false by simp; omega, show (false != false) = false from rfl, hr] at e
    rw [validB, mergeL, m1]
    simp at e ⊢
    exact e
  refine ⟨hv, fun x => ?_⟩
  rw [hasL_eq hv, hasL_eq hx0, hasL_eq hy0]
  have e := m2 x
  have f : ∀ b : Bool, (false != b) = b := by decide
  simp only [inP, f] at e
  exact e

theorem run_spec (p q : Int) : runL p q = bitsL (tab (fun j => decide (p ≤ j) && decide (j < q))) := by
  have hv : validB (runL p q) = true := by
    unfold runL
    split
    · simp [validB, ascB]; omega
    · rfl
  refine bits_of_has hv _ (fun y h0 h1 => ?_)
  unfold runL
  split
  · rw [Bool.eq_iff_iff]; simp [hasL]; omega
  · rw [Bool.eq_iff_iff]; simp [hasL]; omega

end Go.Proofs.Ytnjopfjmepbpoaa

/- Plain: what is encoded is decoded, and the other way round. -/
namespace Go.Proofs.Ytnjopfjmepbpoaa
set_option linter.unusedSimpArgs false
set_option linter.unusedVariables false
set_option linter.unnecessarySimpa false

theorem getGo_leb (rest : List Int) : ∀ (q k : Nat) (acc : Int), k ≤ 9 → (q : Int) * 2 ^ (7 * k) < 18446744073709551616 → (0 < k → q ≠ 0) →
    getGo (leb q ++ rest) k acc = (unzig (acc + q * 2 ^ (7 * k)), ((k + (leb q).length : Nat) : Int), 0) := by
  intro q
  induction q using Nat.strongRecOn with
  | _ q ih =>
    intro k acc hk hq h0
    have hp : (0 : Int) < 2 ^ (7 * k) := Int.pow_pos (by decide)
    by_cases g : q < 128
    · rw [leb_small q g]
      have h9 : k = 9 → (q : Int) ≤ 1 := by
        intro e; subst e
        have e2 : (2 : Int) ^ (7 * 9) = 9223372036854775808 := by decide
        rw [e2] at hq; omega
      rw [List.cons_append, List.nil_append, getGo, if_neg (by
        rintro (⟨h1, h2⟩ | ⟨h1, h2⟩)
        · have := h9 h1; omega
        · have := h0 h1; omega), if_pos (by omega), show (q : Int) % 128 = q by omega]
      simp
    · rw [leb_big q (by omega), List.cons_append, getGo]
      have hk8 : k ≤ 8 := by
        by_cases e : k = 9
        · subst e
          have e2 : (2 : Int) ^ (7 * 9) = 9223372036854775808 := by decide
          rw [e2] at hq; omega
        · omega
      rw [if_neg (by omega), if_neg (by omega)]
      have e1 : ((q % 128 + 128 : Nat) : Int) % 128 = ((q % 128 : Nat) : Int) := by omega
      have e7 : (2 : Int) ^ (7 * (k + 1)) = 128 * 2 ^ (7 * k) := pow7 k
      have e8 : ((q / 128 : Nat) : Int) * (128 * 2 ^ (7 * k)) = (((q / 128) * 128 : Nat) : Int) * 2 ^ (7 * k) := by
        rw [← Int.mul_assoc]; simp
      have hle : (((q / 128) * 128 : Nat) : Int) * 2 ^ (7 * k) ≤ (q : Int) * 2 ^ (7 * k) := Int.mul_le_mul_of_nonneg_right (by omega) (by omega)
      rw [e1, ih (q / 128) (by omega) (k + 1) _ (by omega) (by rw [e7, e8]; omega) (by omega)]
      have e9 : acc + ((q % 128 : Nat) : Int) * 2 ^ (7 * k) + ((q / 128 : Nat) : Int) * 2 ^ (7 * (k + 1)) = acc + (q : Int) * 2 ^ (7 * k) := by
        rw [e7, e8, Int.add_assoc, ← Int.add_mul]
        congr 2; omega
      rw [e9, List.length_cons]
      congr 2; omega

theorem getI_intB (n : Int) (rest : List Int) (h1 : -9223372036854775808 ≤ n) (h2 : n ≤ 9223372036854775807) : getI (intB n ++ rest) = (n, ((intB n).length : Int), 0) := by
  have hz := zig_lt n h1 h2
  rw [getI, intB, getGo_leb rest (zig n) 0 0 (by omega) (by simp; omega) (by omega)]
  simp [unzig_zig]

theorem getN_flat : ∀ (ds : List Int), (∀ z ∈ ds, -9223372036854775808 ≤ z ∧ z ≤ 9223372036854775807) → ∀ rest, getN ds.length ((ds.map intB).flatten ++ rest) = (ds, (((ds.map intB).flatten).length : Int), 0)
  | [], _, rest => rfl
  | d :: r, h, rest => by
    have hd := h d (by simp)
    have ih := getN_flat r (fun z hz => h z (by simp [hz])) rest
    simp only [List.map_cons, List.flatten_cons, List.length_cons, List.append_assoc]
    rw [getN, getI_intB d _ hd.1 hd.2]
    simp only [ne_eq, not_true_eq_false, if_false, Int.toNat_natCast, List.drop_left]
    rw [ih]
    simp

theorem flat_ge : ∀ (ds : List Int), ds.length ≤ ((ds.map intB).flatten).length
  | [] => by simp
  | d :: r => by
    have := flat_ge r
    have := leb_pos (zig d)
    simp only [List.map_cons, List.flatten_cons, List.length_append, List.length_cons]
    have e : (intB d).length = (leb (zig d)).length := rfl
    omega

theorem getInts_intsB (ds : List Int) (h : ∀ z ∈ ds, -9223372036854775808 ≤ z ∧ z ≤ 9223372036854775807) (hl : ds.length ≤ 1000000000000) : getInts (intsB ds) = (ds, ((intsB ds).length : Int), 0) := by
  have h0 := getI_intB ds.length ((ds.map intB).flatten) (by omega) (by omega)
  have hL : lenL (intsB ds) 1 = ((ds.length : Int), ((intB ds.length).length : Int), 0) := by
    rw [lenL, intsB, h0]
    have := flat_ge ds
    simp only [ne_eq, not_true_eq_false, if_false]
    rw [if_neg (by omega), if_neg (by rw [List.length_append, Int.ediv_one]; omega)]
  rw [getInts, hL]
  simp only [ne_eq, not_true_eq_false, if_false, Int.toNat_natCast]
  have e : (intsB ds).drop (intB ds.length).length = (ds.map intB).flatten ++ [] := by rw [intsB, List.drop_left]; simp
  rw [e, getN_flat ds h [], andThen]
  simp [intsB]

theorem unzig_nat (q : Nat) : zig (unzig q) = q := by unfold zig unzig; split <;> split <;> omega

theorem getGo_back : ∀ (l : List Int) (k : Nat) (acc : Int) (x u : Int), (∀ c ∈ l, 0 ≤ c ∧ c < 256) → getGo l k acc = (x, u, 0) →
    ∃ q m : Nat, u = ((k + m : Nat) : Int) ∧ l.take m = leb q ∧ x = unzig (acc + q * 2 ^ (7 * k)) ∧ (0 < k → q ≠ 0)
  | [], k, acc, x, u, _, h => by simp [getGo] at h
  | c :: r, k, acc, x, u, hby, h => by
    obtain ⟨c0, c1⟩ := hby c (by simp)
    rw [getGo] at h
    by_cases g : (k = 9 ∧ 1 < c) ∨ (0 < k ∧ c = 0)
    · rw [if_pos g] at h; simp at h
    · rw [if_neg g] at h
      by_cases g2 : c < 128
      · rw [if_pos g2] at h
        simp only [Prod.mk.injEq, and_true] at h
        obtain ⟨rfl, rfl⟩ := h
        refine ⟨c.toNat, 1, by simp, ?_, ?_, fun hk => by omega⟩
        · rw [leb_small _ (by omega)]; simp; omega
        · rw [show (c.toNat : Int) = c % 128 by omega]
      · rw [if_neg g2] at h
        obtain ⟨q, m, h1, h2, h3, h4⟩ := getGo_back r (k + 1) _ x u (fun d hd => hby d (by simp [hd])) h
        refine ⟨(c - 128).toNat + 128 * q, m + 1, by rw [h1]; omega, ?_, ?_, fun _ => by have := h4 (by omega); omega⟩
        · have := h4 (by omega)
          rw [leb_big _ (by omega), List.take_succ_cons, h2]
          congr 1
          · omega
          · congr 1; omega
        · rw [h3, pow7]
          congr 1
          have e1 : c % 128 = ((c - 128).toNat : Int) := by omega
          rw [e1, Int.add_assoc]
          congr 1
          rw [show (((c - 128).toNat + 128 * q : Nat) : Int) = ((c - 128).toNat : Int) + (q : Int) * 128 by omega, Int.add_mul, Int.mul_assoc]

theorem getI_back (l : List Int) (x u : Int) (hby : ∀ c ∈ l, 0 ≤ c ∧ c < 256) (h : getI l = (x, u, 0)) : l.take u.toNat = intB x := by
  obtain ⟨q, m, h1, h2, h3, _⟩ := getGo_back l 0 0 x u hby h
  rw [h1, h3]
  simp only [Nat.zero_add, Int.toNat_natCast, Nat.mul_zero, Int.pow_zero, Int.mul_one, Int.zero_add, intB, unzig_nat]
  exact h2

theorem getN_back : ∀ (n : Nat) (l ds : List Int) (u : Int), (∀ c ∈ l, 0 ≤ c ∧ c < 256) → getN n l = (ds, u, 0) → l.take u.toNat = (ds.map intB).flatten ∧ ds.length = n ∧ 0 ≤ u ∧ u ≤ l.length
  | 0, l, ds, u, _, h => by
    simp only [getN, Prod.mk.injEq, and_true] at h
    obtain ⟨rfl, rfl⟩ := h
    simp
  | n + 1, l, ds, u, hby, h => by
    rw [getN] at h
    obtain ⟨x, v, e, hr⟩ : ∃ x v e, getI l = (x, v, e) := ⟨_, _, _, rfl⟩
    have ok := getI_ok l hby
    rw [hr] at h ok
    simp only at h ok
    by_cases g : e ≠ 0
    · rw [if_pos g] at h
      simp only [Prod.mk.injEq] at h
      exact absurd h.2.2 g
    · rw [if_neg g] at h
      have g' : e = 0 := by simpa using g
      subst g'
      obtain ⟨o1, o2, _, _⟩ := ok rfl
      obtain ⟨d2, u2, e2, hr2⟩ : ∃ p s t, getN n (l.drop v.toNat) = (p, s, t) := ⟨_, _, _, rfl⟩
      rw [hr2] at h
      simp only at h
      by_cases g2 : e2 ≠ 0
      · rw [if_pos g2] at h
        simp only [Prod.mk.injEq] at h
        exact absurd h.2.2 g2
      · rw [if_neg g2] at h
        have g2' : e2 = 0 := by simpa using g2
        subst g2'
        simp only [Prod.mk.injEq, and_true] at h
        obtain ⟨rfl, rfl⟩ := h
        obtain ⟨i1, i2, i3, i4⟩ := getN_back n (l.drop v.toNat) d2 u2 (fun c hc => hby c (List.mem_of_mem_drop hc)) hr2
        have hb := getI_back l x v hby hr
        rw [List.length_drop] at i4
        refine ⟨?_, by simp [i2], by omega, by omega⟩
        rw [show (v + u2).toNat = v.toNat + u2.toNat by omega, List.take_add, hb, i1]
        simp

theorem getInts_back (bs ds : List Int) (hby : ∀ c ∈ bs, 0 ≤ c ∧ c < 256) (h : getInts bs = (ds, (bs.length : Int), 0)) : intsB ds = bs := by
  rw [getInts] at h
  obtain ⟨n, v, e, hr⟩ : ∃ x v e, lenL bs 1 = (x, v, e) := ⟨_, _, _, rfl⟩
  have ok := lenL_ok bs 1 hby
  rw [hr] at h ok
  simp only at h ok
  by_cases g : e ≠ 0
  · rw [if_pos g] at h
    simp only [Prod.mk.injEq] at h
    exact absurd h.2.2 g
  · rw [if_neg g] at h
    have g' : e = 0 := by simpa using g
    subst g'
    obtain ⟨o1, o2, o3, o4⟩ := ok rfl
    obtain ⟨d2, u2, e2, hr2⟩ : ∃ p s t, getN n.toNat (bs.drop v.toNat) = (p, s, t) := ⟨_, _, _, rfl⟩
    rw [hr2, andThen] at h
    simp only at h
    by_cases g2 : e2 ≠ 0
    · rw [if_pos g2] at h
      simp only [Prod.mk.injEq] at h
      exact absurd h.2.2 g2
    · rw [if_neg g2] at h
      have g2' : e2 = 0 := by simpa using g2
      subst g2'
      simp only [Prod.mk.injEq, and_true, List.nil_append] at h
      obtain ⟨rfl, hu⟩ := h
      obtain ⟨i1, i2, i3, i4⟩ := getN_back n.toNat (bs.drop v.toNat) d2 u2 (fun c hc => hby c (List.mem_of_mem_drop hc)) hr2
      rw [List.length_drop] at i4
      -- the length itself
      have hI : getI bs = (n, v, 0) := by
        have hr' := hr
        rw [lenL] at hr'
        by_cases k1 : (getI bs).2.2 ≠ 0
        · rw [if_pos k1] at hr'
          simp only [Prod.mk.injEq] at hr'
          exact absurd hr'.2.2 k1
        · rw [if_neg k1] at hr'
          by_cases k2 : (getI bs).1 < 0
          · rw [if_pos k2] at hr'; simp at hr'
          · rw [if_neg k2] at hr'
            by_cases k3 : (bs.length - (getI bs).2.1) / 1 < (getI bs).1
            · rw [if_pos k3] at hr'; simp at hr'
            · rw [if_neg k3] at hr'
              simp only [Prod.mk.injEq, and_true] at hr'
              have k1' : (getI bs).2.2 = 0 := by simpa using k1
              rw [← hr'.1, ← hr'.2, ← k1']
      have hb := getI_back bs n v hby hI
      rw [intsB, i2, show ((n.toNat : Nat) : Int) = n by omega, ← hb, ← i1, show u2.toNat = bs.length - v.toNat by omega, List.take_of_length_le (i := bs.length - v.toNat) (by simp), List.take_append_drop]

theorem stepB_diff : ∀ (zs : List Int) (l : Int), ascB l zs = true → -1 ≤ l → ∀ d ∈ diffL zs (if l = -1 then 0 else l), stepB d = true
  | [], l, _, _, d, h => by simp [diffL] at h
  | z :: r, l, h, h0, d, hd => by
    simp only [ascB, Bool.and_eq_true, decide_eq_true_eq] at h
    rw [diffL] at hd
    rcases List.mem_cons.1 hd with rfl | hd
    · simp [stepB]; split <;> omega
    · have := stepB_diff r z h.2 (by omega) d
      rw [if_neg (by omega)] at this
      exact this hd

theorem dec_enc {zs : List Int} (hv : validB zs = true) : decL (intsB (diffL zs 0)) = (zs, 0) := by
  have hg := good_of_valid hv
  have hm : ∀ z ∈ zs, 0 ≤ z ∧ z ≤ 4096 := fun z hz => by
    obtain ⟨k, hk⟩ := List.getElem?_of_mem hz
    exact hg.rng k z hk
  have hf := diffL_fit zs 0 hm (by omega) (by omega)
  have h := getInts_intsB (diffL zs 0) (fun z hz => by have := hf z hz; omega) (by rw [diffL_length]; have := hg.len; omega)
  rw [decL, h]
  simp only [ne_eq, not_true_eq_false, or_self, if_false]
  have hok : decOk (diffL zs 0) = true := by
    rw [decOk, sum_diff, hv, Bool.and_true, List.all_eq_true]
    intro d hd
    have hv' := hv
    simp only [validB, Bool.and_eq_true] at hv'
    have := stepB_diff zs (-1) hv'.1 (by omega) d
    rw [if_pos rfl] at this
    exact this hd
  rw [if_pos hok, sum_diff]

theorem enc_dec {bs ys : List Int} (hby : ∀ c ∈ bs, 0 ≤ c ∧ c < 256) (h : decL bs = (ys, 0)) : intsB (diffL ys 0) = bs ∧ validB ys = true := by
  rw [decL] at h
  by_cases g : (getInts bs).2.2 ≠ 0 ∨ (getInts bs).2.1 ≠ bs.length
  · rw [if_pos g] at h; simp at h
  · rw [if_neg g] at h
    by_cases g2 : decOk (getInts bs).1 = true
    · rw [if_pos g2] at h
      simp only [Prod.mk.injEq, and_true] at h
      subst h
      rw [diff_sum]
      refine ⟨getInts_back bs _ hby ?_, ?_⟩
      · have h1 : (getInts bs).2.2 = 0 := by omega
        have h2 : (getInts bs).2.1 = bs.length := by omega
        rw [← h1, ← h2]
      · rw [decOk, Bool.and_eq_true] at g2; exact g2.2
    · rw [if_neg g2] at h; simp at h

end Go.Proofs.Ytnjopfjmepbpoaa

/- Plain: byte strings, encoded and decoded. -/
namespace Go.Proofs.Ytnjopfjmepbpoaa
set_option linter.unusedSimpArgs false
set_option linter.unusedVariables false
set_option linter.unnecessarySimpa false

/-- The bytes of a string. -/
def bytesL (s : ByteArray) : List Int := s.data.toList.map fun b => (b.toNat : Int)
/-- The string of a row of bytes. -/
def strOf (bs : List Int) : ByteArray := bs.foldl (fun r n => r.push (UInt8.ofNat n.toNat)) ByteArray.empty

theorem bytesL_len (s : ByteArray) : (bytesL s).length = s.size := by simp [bytesL]
theorem bytesL_byte (s : ByteArray) : ∀ c ∈ bytesL s, 0 ≤ c ∧ c < 256 := by
  intro c hc
  obtain ⟨b, _, rfl⟩ := List.mem_map.1 hc
  have := b.toNat_lt
  omega

theorem foldl_push : ∀ (bs : List Int) (r : ByteArray), (bs.foldl (fun r n => r.push (UInt8.ofNat n.toNat)) r).data.toList = r.data.toList ++ bs.map (fun n => UInt8.ofNat n.toNat)
  | [], r => by simp
  | b :: bs, r => by
    rw [List.foldl_cons, foldl_push bs]
    simp [ByteArray.push]
theorem strOf_data (bs : List Int) : (strOf bs).data.toList = bs.map (fun n => UInt8.ofNat n.toNat) := by
  rw [strOf, foldl_push]; rfl
theorem strOf_size (bs : List Int) : (strOf bs).size = bs.length := by
  have := congrArg List.length (strOf_data bs)
  simpa using this
theorem bytesL_strOf (bs : List Int) (h : ∀ c ∈ bs, 0 ≤ c ∧ c < 256) : bytesL (strOf bs) = bs := by
  rw [bytesL, strOf_data, List.map_map]
  have : ∀ c ∈ bs, ((fun b : UInt8 => (b.toNat : Int)) ∘ fun n : Int => UInt8.ofNat n.toNat) c = c := by
    intro c hc
    have := h c hc
    simp only [Function.comp, UInt8.toNat_ofNat']
    omega
  rw [List.map_congr_left this, List.map_id']
theorem ba_ext {a b : ByteArray} (h : a.data.toList = b.data.toList) : a = b := by
  cases a with | mk x => cases b with | mk y => cases x; cases y; simp at h; subst h; rfl
theorem strOf_bytesL (s : ByteArray) : strOf (bytesL s) = s := by
  apply ba_ext
  rw [strOf_data, bytesL, List.map_map]
  have : ∀ b ∈ s.data.toList, ((fun n : Int => UInt8.ofNat n.toNat) ∘ fun b : UInt8 => (b.toNat : Int)) b = b := by
    intro b _
    simp
  rw [List.map_congr_left this, List.map_id']
theorem strOf_inj {a b : List Int} (ha : ∀ c ∈ a, 0 ≤ c ∧ c < 256) (hb : ∀ c ∈ b, 0 ≤ c ∧ c < 256) (h : strOf a = strOf b) : a = b := by
  rw [← bytesL_strOf a ha, ← bytesL_strOf b hb, h]

/-- The encoding of a string, of strings. -/
def strB (s : ByteArray) : List Int := intB s.size ++ bytesL s
def strsB (l : List ByteArray) : List Int := intB l.length ++ (l.map strB).flatten

/-- Sizes of strings that the walks meet. -/
def SmallStrs (l : List ByteArray) : Prop := ∀ s ∈ l, s.size ≤ 1000000

theorem strB_len (s : ByteArray) (h : s.size ≤ 1000000) : 1 ≤ (strB s).length ∧ (strB s).length ≤ 1000010 := by
  have := intB_len s.size (by omega) (by omega)
  rw [strB, List.length_append, bytesL_len]; omega
theorem strs_len (l : List ByteArray) (h : SmallStrs l) : ((l.map strB).flatten).length ≤ 1000010 * l.length := by
  induction l with
  | nil => simp
  | cons a r ih =>
    have h1 := strB_len a (h a (by simp))
    have h2 := ih (fun z hz => h z (by simp [hz]))
    simp only [List.map_cons, List.flatten_cons, List.length_append, List.length_cons]
    omega
theorem strs_take (l : List ByteArray) (k : Nat) (a : ByteArray) (h : l[k]? = some a) : ((l.take (k+1)).map strB).flatten = ((l.take k).map strB).flatten ++ strB a := by
  rw [List.take_add_one, h]; simp

/-- A string at the beginning of bytes: it, its bytes, the error. -/
def getS (bs : List Int) : ByteArray × Int × Int :=
  if (lenL bs 1).2.2 ≠ 0 then (ByteArray.empty, 0, (lenL bs 1).2.2)
  else (strOf ((bs.drop (lenL bs 1).2.1.toNat).take (lenL bs 1).1.toNat), (lenL bs 1).2.1 + (lenL bs 1).1, 0)

theorem getS_ok (bs : List Int) (hby : ∀ c ∈ bs, 0 ≤ c ∧ c < 256) (h : (getS bs).2.2 = 0) : 1 ≤ (getS bs).2.1 ∧ (getS bs).2.1 ≤ bs.length := by
  unfold getS at *
  have ok := lenL_ok bs 1 hby
  split at h
  · rename_i g; exact absurd h g
  · rename_i g
    rw [if_neg g]
    have := ok (by simpa using g)
    rw [Int.ediv_one] at this
    simp only
    omega

/-- n strings, from the beginning of bytes on. -/
def getNS : Nat → List Int → List ByteArray × Int × Int
  | 0, _ => ([], 0, 0)
  | n + 1, bs =>
    if (getS bs).2.2 ≠ 0 then ([], 0, (getS bs).2.2)
    else if (getNS n (bs.drop (getS bs).2.1.toNat)).2.2 ≠ 0 then ([], 0, (getNS n (bs.drop (getS bs).2.1.toNat)).2.2)
    else ((getS bs).1 :: (getNS n (bs.drop (getS bs).2.1.toNat)).1, (getS bs).2.1 + (getNS n (bs.drop (getS bs).2.1.toNat)).2.1, 0)

def andThenS (out : List ByteArray) (at_ : Int) (s : List ByteArray × Int × Int) : List ByteArray × Int × Int :=
  if s.2.2 ≠ 0 then ([], 0, s.2.2) else (out ++ s.1, at_ + s.2.1, 0)

def getStrs (bs : List Int) : List ByteArray × Int × Int :=
  if (lenL bs 1).2.2 ≠ 0 then ([], 0, (lenL bs 1).2.2) else andThenS [] (lenL bs 1).2.1 (getNS (lenL bs 1).1.toNat (bs.drop (lenL bs 1).2.1.toNat))

theorem andThenS_err (out : List ByteArray) (at_ : Int) (n : Nat) (bs : List Int) (r : ByteArray × Int × Int) (hr : getS bs = r) (h : r.2.2 ≠ 0) : andThenS out at_ (getNS (n + 1) bs) = ([], 0, r.2.2) := by
  subst hr
  simp [andThenS, getNS, h]
theorem andThenS_step (out : List ByteArray) (at_ : Int) (n : Nat) (bs : List Int) (r : ByteArray × Int × Int) (hr : getS bs = r) (h : r.2.2 = 0) :
    andThenS out at_ (getNS (n + 1) bs) = andThenS (out ++ [r.1]) (at_ + r.2.1) (getNS n (bs.drop r.2.1.toNat)) := by
  subst hr
  by_cases g : (getNS n (bs.drop (getS bs).2.1.toNat)).2.2 = 0
  · simp [andThenS, getNS, h, g]; omega
  · simp [andThenS, getNS, h, g]
theorem andThenS_done (out : List ByteArray) (at_ : Int) (bs : List Int) : andThenS out at_ (getNS 0 bs) = (out, at_, 0) := by simp [andThenS, getNS]

/- What is encoded is decoded. -/
theorem lenL_at (n : Nat) (rest : List Int) (hn : n ≤ 1000000000000) (h : n ≤ rest.length) : lenL (intB n ++ rest) 1 = ((n : Int), ((intB n).length : Int), 0) := by
  have h0 := getI_intB n rest (by omega) (by omega)
  rw [lenL, h0]
  simp only [ne_eq, not_true_eq_false, if_false]
  rw [if_neg (by omega), if_neg (by rw [List.length_append, Int.ediv_one]; omega)]

theorem getInts_rest (ds rest : List Int) (h : ∀ z ∈ ds, -9223372036854775808 ≤ z ∧ z ≤ 9223372036854775807) (hl : ds.length ≤ 1000000000000) : getInts (intsB ds ++ rest) = (ds, ((intsB ds).length : Int), 0) := by
  have hg := flat_ge ds
  have hL : lenL (intsB ds ++ rest) 1 = ((ds.length : Int), ((intB ds.length).length : Int), 0) := by
    rw [intsB, List.append_assoc]; exact lenL_at _ _ hl (by rw [List.length_append]; omega)
  rw [getInts, hL]
  simp only [ne_eq, not_true_eq_false, if_false, Int.toNat_natCast]
  have e : (intsB ds ++ rest).drop (intB ds.length).length = (ds.map intB).flatten ++ rest := by rw [intsB, List.append_assoc, List.drop_left]
  rw [e, getN_flat ds h rest, andThen]
  simp [intsB]

theorem getS_strB (s : ByteArray) (rest : List Int) (h : s.size ≤ 1000000) : getS (strB s ++ rest) = (s, ((strB s).length : Int), 0) := by
  have hL : lenL (strB s ++ rest) 1 = ((s.size : Int), ((intB s.size).length : Int), 0) := by
    rw [strB, List.append_assoc]; exact lenL_at _ _ (by omega) (by rw [List.length_append, bytesL_len]; omega)
  rw [getS, hL]
  simp only [ne_eq, not_true_eq_false, if_false, Int.toNat_natCast]
  have e : ((strB s ++ rest).drop (intB s.size).length).take s.size = bytesL s := by
    rw [strB, List.append_assoc, List.drop_left, List.take_left' (bytesL_len s)]
  rw [e, strOf_bytesL]
  simp [strB, bytesL_len]

theorem getNS_flat : ∀ (l : List ByteArray), SmallStrs l → ∀ rest, getNS l.length ((l.map strB).flatten ++ rest) = (l, (((l.map strB).flatten).length : Int), 0)
  | [], _, rest => rfl
  | d :: r, h, rest => by
    have hd := h d (by simp)
    have ih := getNS_flat r (fun z hz => h z (by simp [hz])) rest
    simp only [List.map_cons, List.flatten_cons, List.length_cons, List.append_assoc]
    rw [getNS, getS_strB d _ hd]
    simp only [ne_eq, not_true_eq_false, if_false, Int.toNat_natCast, List.drop_left]
    rw [ih]
    simp

theorem strs_ge (l : List ByteArray) (h : SmallStrs l) : l.length ≤ ((l.map strB).flatten).length := by
  induction l with
  | nil => simp
  | cons a r ih =>
    have h1 := strB_len a (h a (by simp))
    have h2 := ih (fun z hz => h z (by simp [hz]))
    simp only [List.map_cons, List.flatten_cons, List.length_append, List.length_cons]
    omega

theorem getStrs_rest (l : List ByteArray) (rest : List Int) (h : SmallStrs l) (hl : l.length ≤ 1000000000000) : getStrs (strsB l ++ rest) = (l, ((strsB l).length : Int), 0) := by
  have hg := strs_ge l h
  have hL : lenL (strsB l ++ rest) 1 = ((l.length : Int), ((intB l.length).length : Int), 0) := by
    rw [strsB, List.append_assoc]; exact lenL_at _ _ hl (by rw [List.length_append]; omega)
  rw [getStrs, hL]
  simp only [ne_eq, not_true_eq_false, if_false, Int.toNat_natCast]
  have e : (strsB l ++ rest).drop (intB l.length).length = (l.map strB).flatten ++ rest := by rw [strsB, List.append_assoc, List.drop_left]
  rw [e, getNS_flat l h rest, andThenS]
  simp [strsB]

/- What is decoded is encoded. -/
theorem lenL_back (bs : List Int) (n v : Int) (hby : ∀ c ∈ bs, 0 ≤ c ∧ c < 256) (h : lenL bs 1 = (n, v, 0)) : bs.take v.toNat = intB n ∧ 0 ≤ n ∧ 1 ≤ v ∧ v ≤ bs.length ∧ n ≤ bs.length - v := by
  have ok := lenL_ok bs 1 hby
  rw [h] at ok
  obtain ⟨o1, o2, o3, o4⟩ := ok rfl
  rw [Int.ediv_one] at o4
  have hI : getI bs = (n, v, 0) := by
    rw [lenL] at h
    by_cases k1 : (getI bs).2.2 ≠ 0
    · rw [if_pos k1] at h
      simp only [Prod.mk.injEq] at h
      exact absurd h.2.2 k1
    · rw [if_neg k1] at h
      by_cases k2 : (getI bs).1 < 0
      · rw [if_pos k2] at h; simp at h
      · rw [if_neg k2] at h
        by_cases k3 : (bs.length - (getI bs).2.1) / 1 < (getI bs).1
        · rw [if_pos k3] at h; simp at h
        · rw [if_neg k3] at h
          simp only [Prod.mk.injEq, and_true] at h
          have k1' : (getI bs).2.2 = 0 := by simpa using k1
          rw [← h.1, ← h.2, ← k1']
  exact ⟨getI_back bs n v hby hI, o1, o2, o3, o4⟩

theorem getInts_take (bs ds : List Int) (u : Int) (hby : ∀ c ∈ bs, 0 ≤ c ∧ c < 256) (h : getInts bs = (ds, u, 0)) : bs.take u.toNat = intsB ds ∧ 0 ≤ u ∧ u ≤ bs.length := by
  rw [getInts] at h
  obtain ⟨n, v, e, hr⟩ : ∃ x v e, lenL bs 1 = (x, v, e) := ⟨_, _, _, rfl⟩
  rw [hr] at h
  simp only at h
  by_cases g : e ≠ 0
  · rw [if_pos g] at h
    simp only [Prod.mk.injEq] at h
    exact absurd h.2.2 g
  · rw [if_neg g] at h
    have g' : e = 0 := by simpa using g
    subst g'
    obtain ⟨hb, o1, o2, o3, o4⟩ := lenL_back bs n v hby hr
    obtain ⟨d2, u2, e2, hr2⟩ : ∃ p s t, getN n.toNat (bs.drop v.toNat) = (p, s, t) := ⟨_, _, _, rfl⟩
    rw [hr2, andThen] at h
    simp only at h
    by_cases g2 : e2 ≠ 0
    · rw [if_pos g2] at h
      simp only [Prod.mk.injEq] at h
      exact absurd h.2.2 g2
    · rw [if_neg g2] at h
      have g2' : e2 = 0 := by simpa using g2
      subst g2'
      simp only [Prod.mk.injEq, and_true, List.nil_append] at h
      obtain ⟨rfl, rfl⟩ := h
      obtain ⟨i1, i2, i3, i4⟩ := getN_back n.toNat (bs.drop v.toNat) d2 u2 (fun c hc => hby c (List.mem_of_mem_drop hc)) hr2
      rw [List.length_drop] at i4
      refine ⟨?_, by omega, by omega⟩
      rw [intsB, i2, show ((n.toNat : Nat) : Int) = n by omega, ← hb, ← i1, show (v + u2).toNat = v.toNat + u2.toNat by omega, List.take_add]

theorem getS_back (bs : List Int) (s : ByteArray) (u : Int) (hby : ∀ c ∈ bs, 0 ≤ c ∧ c < 256) (h : getS bs = (s, u, 0)) : bs.take u.toNat = strB s ∧ 0 ≤ u ∧ u ≤ bs.length := by
  rw [getS] at h
  obtain ⟨n, v, e, hr⟩ : ∃ x v e, lenL bs 1 = (x, v, e) := ⟨_, _, _, rfl⟩
  rw [hr] at h
  simp only at h
  by_cases g : e ≠ 0
  · rw [if_pos g] at h
    simp only [Prod.mk.injEq] at h
    exact absurd h.2.2 g
  · rw [if_neg g] at h
    have g' : e = 0 := by simpa using g
    subst g'
    obtain ⟨hb, o1, o2, o3, o4⟩ := lenL_back bs n v hby hr
    simp only [Prod.mk.injEq, and_true] at h
    obtain ⟨rfl, rfl⟩ := h
    refine ⟨?_, by omega, by omega⟩
    have hl : ((bs.drop v.toNat).take n.toNat).length = n.toNat := by rw [List.length_take, List.length_drop]; omega
    rw [strB, strOf_size, hl, show ((n.toNat : Nat) : Int) = n by omega, ← hb, bytesL_strOf _ (fun c hc => hby c (List.mem_of_mem_drop (List.mem_of_mem_take hc))), show (v + n).toNat = v.toNat + n.toNat by omega, List.take_add]

theorem getNS_back : ∀ (n : Nat) (l : List Int) (ds : List ByteArray) (u : Int), (∀ c ∈ l, 0 ≤ c ∧ c < 256) → getNS n l = (ds, u, 0) → l.take u.toNat = (ds.map strB).flatten ∧ ds.length = n ∧ 0 ≤ u ∧ u ≤ l.length
  | 0, l, ds, u, _, h => by
    simp only [getNS, Prod.mk.injEq, and_true] at h
    obtain ⟨rfl, rfl⟩ := h
    simp
  | n + 1, l, ds, u, hby, h => by
    rw [getNS] at h
    obtain ⟨x, v, e, hr⟩ : ∃ x v e, getS l = (x, v, e) := ⟨_, _, _, rfl⟩
    rw [hr] at h
    simp only at h
    by_cases g : e ≠ 0
    · rw [if_pos g] at h
      simp only [Prod.mk.injEq] at h
      exact absurd h.2.2 g
    · rw [if_neg g] at h
      have g' : e = 0 := by simpa using g
      subst g'
      obtain ⟨hb, o1, o2⟩ := getS_back l x v hby hr
      obtain ⟨d2, u2, e2, hr2⟩ : ∃ p s t, getNS n (l.drop v.toNat) = (p, s, t) := ⟨_, _, _, rfl⟩
      rw [hr2] at h
      simp only at h
      by_cases g2 : e2 ≠ 0
      · rw [if_pos g2] at h
        simp only [Prod.mk.injEq] at h
        exact absurd h.2.2 g2
      · rw [if_neg g2] at h
        have g2' : e2 = 0 := by simpa using g2
        subst g2'
        simp only [Prod.mk.injEq, and_true] at h
        obtain ⟨rfl, rfl⟩ := h
        obtain ⟨i1, i2, i3, i4⟩ := getNS_back n (l.drop v.toNat) d2 u2 (fun c hc => hby c (List.mem_of_mem_drop hc)) hr2
        rw [List.length_drop] at i4
        refine ⟨?_, by simp [i2], by omega, by omega⟩
        rw [show (v + u2).toNat = v.toNat + u2.toNat by omega, List.take_add, hb, i1]
        simp

theorem getStrs_take (bs : List Int) (ds : List ByteArray) (u : Int) (hby : ∀ c ∈ bs, 0 ≤ c ∧ c < 256) (h : getStrs bs = (ds, u, 0)) : bs.take u.toNat = strsB ds ∧ 0 ≤ u ∧ u ≤ bs.length := by
  rw [getStrs] at h
  obtain ⟨n, v, e, hr⟩ : ∃ x v e, lenL bs 1 = (x, v, e) := ⟨_, _, _, rfl⟩
  rw [hr] at h
  simp only at h
  by_cases g : e ≠ 0
  · rw [if_pos g] at h
    simp only [Prod.mk.injEq] at h
    exact absurd h.2.2 g
  · rw [if_neg g] at h
    have g' : e = 0 := by simpa using g
    subst g'
    obtain ⟨hb, o1, o2, o3, o4⟩ := lenL_back bs n v hby hr
    obtain ⟨d2, u2, e2, hr2⟩ : ∃ p s t, getNS n.toNat (bs.drop v.toNat) = (p, s, t) := ⟨_, _, _, rfl⟩
    rw [hr2, andThenS] at h
    simp only at h
    by_cases g2 : e2 ≠ 0
    · rw [if_pos g2] at h
      simp only [Prod.mk.injEq] at h
      exact absurd h.2.2 g2
    · rw [if_neg g2] at h
      have g2' : e2 = 0 := by simpa using g2
      subst g2'
      simp only [Prod.mk.injEq, and_true, List.nil_append] at h
      obtain ⟨rfl, rfl⟩ := h
      obtain ⟨i1, i2, i3, i4⟩ := getNS_back n.toNat (bs.drop v.toNat) d2 u2 (fun c hc => hby c (List.mem_of_mem_drop hc)) hr2
      rw [List.length_drop] at i4
      refine ⟨?_, by omega, by omega⟩
      rw [strsB, i2, show ((n.toNat : Nat) : Int) = n by omega, ← hb, ← i1, show (v + u2).toNat = v.toNat + u2.toNat by omega, List.take_add]

/-- The numbers and strings that are decoded are not longer than the bytes. -/
theorem getInts_short (bs ds : List Int) (u : Int) (hby : ∀ c ∈ bs, 0 ≤ c ∧ c < 256) (h : getInts bs = (ds, u, 0)) : ds.length ≤ bs.length := by
  obtain ⟨h1, h2, h3⟩ := getInts_take bs ds u hby h
  have := congrArg List.length h1
  rw [intsB, List.length_append, List.length_take] at this
  have := flat_ge ds
  omega
theorem strB_pos (s : ByteArray) : 1 ≤ (strB s).length := by
  have : 1 ≤ (intB s.size).length := leb_pos _
  rw [strB, List.length_append]; omega
theorem strs_all (l : List ByteArray) : l.length ≤ ((l.map strB).flatten).length ∧ ∀ s ∈ l, s.size ≤ ((l.map strB).flatten).length := by
  induction l with
  | nil => simp
  | cons a r ih =>
    have h1 := strB_pos a
    have h2 : (strB a).length = (intB a.size).length + a.size := by rw [strB, List.length_append, bytesL_len]
    simp only [List.map_cons, List.flatten_cons, List.length_append, List.length_cons, List.mem_cons]
    refine ⟨by omega, fun s hs => ?_⟩
    rcases hs with rfl | hs
    · omega
    · have := ih.2 s hs; omega
theorem getStrs_len (bs : List Int) (ds : List ByteArray) (u : Int) (hby : ∀ c ∈ bs, 0 ≤ c ∧ c < 256) (h : getStrs bs = (ds, u, 0)) : ds.length ≤ bs.length ∧ ∀ s ∈ ds, s.size ≤ bs.length := by
  obtain ⟨h1, h2, h3⟩ := getStrs_take bs ds u hby h
  have := congrArg List.length h1
  rw [strsB, List.length_append, List.length_take] at this
  obtain ⟨a, b⟩ := strs_all ds
  exact ⟨by omega, fun s hs => by have := b s hs; omega⟩

end Go.Proofs.Ytnjopfjmepbpoaa

/- The walks of wire and antiquaryref01: byte strings, lists of them. -/
namespace Go.Proofs.Ytnjopfjmepbpoaa
set_option linter.unusedSimpArgs false
set_option linter.unusedVariables false
set_option linter.unnecessarySimpa false
open Go.RowKit

theorem conv_bytes {w : World} {v : Value} {bs : List Int} (h : Bytes w v bs) :
    (convert 44 9 v).run Try.prog w = .ok (.string (strOf bs)) w := by
  obtain ⟨a, cap, b, off, rfl, hcap, hm, ha, hc⟩ := h
  rw [run_convert_bytes_string w _ _ _ _ _ _ Try.underlying44 Try.underlying5 Try.underlying9]
  simp only [List.length_map] at *
  cases a with
  | none =>
    have : bs = [] := by
      cases bs with
      | nil => rfl
      | cons x l => simp at ha
    subst this
    rfl
  | some a =>
    refine run_bytesToString w a _ _ bs ?_
    have := run_loadCells_list (P := Try.prog) (w := w) a (bs.map (Value.int .u8)) (fun j v hv => by
      have hj := (List.getElem?_eq_some_iff.1 hv).1
      have := ha (by simp at hj; omega)
      simp only [Option.some.injEq] at this
      subst this
      rw [show (⟨b, off, none⟩ : Addr).add j = ⟨b, off + j, none⟩ from by simp [Addr.add]]
      exact hc j v hv)
    simpa using this

theorem strCells_eq (s : ByteArray) : Lib.strCells s = (bytesL s).map (Value.int .u8) := by
  simp [Lib.strCells, bytesL]
theorem elemStr : Elem1 Try.prog 9 (.string ⟨#[]⟩) 16 := ⟨by kernel_rfl, rfl⟩

set_option maxRecDepth 100000 in
theorem wireBytes (s : ByteArray) (w : World) (hs : s.size ≤ 1000000000) : Calls Try.prog 77 #[.string s] w (MadeBytes w (strB s)) := by
  have hl0 := intB_len s.size (by omega) (by omega)
  go_enter Try.func77, Try.ntmps77
  go_wp2_with (first | (at_builtin; refine wp_appendStr (.tmp 5) (.tmp 6) 44 9 5 elemByte rfl rfl Try.underlying44 Try.underlying9 w.heap.size _ _ s rfl ho1 rfl (by rw [List.length_map]; omega) hb1.size ?_; intro v' w' hown' hb') | (go_at_call 75; refine (wireInt _ _ (by omega) (by omega)).mono ?_; rintro e w1 ⟨v1, rfl, ho1, hb1⟩))
  go_ret
  exact ⟨_, rfl, by rw [strB, List.map_append, ← strCells_eq]; exact hown', hb1.trans hb'⟩

set_option maxRecDepth 100000 in
theorem refBytes (s : ByteArray) (w : World) (hs : s.size ≤ 1000000000) : Calls Try.prog 96 #[.string s] w (MadeBytes w (strB s)) := by
  have hl0 := intB_len s.size (by omega) (by omega)
  go_enter Try.func96, Try.ntmps96
  go_wp2_with (first | (at_builtin; refine wp_appendStr (.tmp 5) (.tmp 6) 44 9 5 elemByte rfl rfl Try.underlying44 Try.underlying9 w.heap.size _ _ s rfl ho1 rfl (by rw [List.length_map]; omega) hb1.size ?_; intro v' w' hown' hb') | (go_at_call 95; refine (refInt _ _ (by omega) (by omega)).mono ?_; rintro e w1 ⟨v1, rfl, ho1, hb1⟩))
  go_ret
  exact ⟨_, rfl, by rw [strB, List.map_append, ← strCells_eq]; exact hown', hb1.trans hb'⟩

theorem callBytes (args : Array Value) (w : World) : (callFunc 77 args).run Try.prog w = .ok (.enter 77 args) w := by kernel_rfl
theorem StrsOpen {w : World} {v : Value} {l : List ByteArray} (h : Rd w v (l.map Value.string)) : ∃ a cap b off, v = .slice a l.length cap ∧ l.length ≤ cap ∧ cap ≤ maxLen ∧
    (0 < l.length → a = some ⟨b, off, none⟩) ∧ Hid (∀ j x, l[j]? = some x → w.cell? ⟨b, off + j, none⟩ = some (.string x)) := by
  obtain ⟨a, cap, b, off, h1, h2, h3, h4, h5⟩ := h
  simp only [List.length_map] at h1 h2 h4
  exact ⟨a, cap, b, off, h1, h2, h3, h4, fun j x hx => h5 j _ (by simp [hx])⟩

set_option maxRecDepth 100000 in
set_option maxHeartbeats 1000000 in
theorem wireListS (v : Value) (zs : List ByteArray) (w : World) (hv : Rd w v (zs.map Value.string)) (hf : SmallStrs zs) (hl : zs.length ≤ 1000000) : Calls Try.prog 76 #[v, .func (.func 77) #[] #[]] w (MadeBytes w (strsB zs)) := by
  obtain ⟨a, cap, b, off, rfl, hcap, hm, ha, hc⟩ := StrsOpen hv
  have HF := Hid.mk hf
  have hl0 := intB_len zs.length (by omega) (by omega)
  clear hv
  go_enter Try.func76, Try.ntmps76
  go_wp2_with (go_at_call 75; refine (wireInt _ _ (by omega) (by omega)).mono ?_; rintro e w1 ⟨v1, rfl, ho1, hb1⟩)
  go_loopw [5, 13] (fun o i wr => ∃ k : Nat, k ≤ zs.length ∧ i = .int .i64 k ∧ Own w.heap.size 5 wr o ((intB zs.length ++ ((zs.take k).map strB).flatten).map (Value.int .u8)) ∧ Below w.heap.size w wr) (fun _ i _ => zs.length - (intOf i).toNat)
  case atStart => exact ⟨0, by omega, rfl, by simpa using ho1, hb1⟩
  case round =>
    obtain ⟨k, hk, rfl, hown, hb⟩ := hrel
    have HB := Hid.mk hb
    clear hb
    have hb2 := HB.out.size
    by_cases hlt : k < zs.length
    · obtain ⟨y, hy⟩ := ints_get zs k hlt
      have c1 := below_cell HB.out (hc.out k y hy)
      have y1 := HF.out y (List.mem_of_getElem? hy)
      have hl1 := strB_len y y1
      have hl2 := strs_len (zs.take k) (fun z hz => HF.out z (List.mem_of_mem_take hz))
      have hl3 : (zs.take k).length ≤ zs.length := by rw [List.length_take]; omega
      obtain rfl := ha (by omega)
      have T := Hid.mk (strs_take zs k y hy)
      clear ha hy
      go_wp2_with (first | (at_builtin; refine wp_append (.tmp 17) (.tmp 20) 44 5 1 _ elemByte rfl rfl Try.underlying44 w.heap.size _ _ _ _ rfl (hown.kept hb3) rfl ho3.rd (by simp only [List.length_map]; omega) (oneCells _ _) (by simp only [List.length_map, List.length_append, maxLen]; omega) (by simp only [List.length_map, List.length_append]; omega) (by have := hb3.size; omega) ?_; intro v' w' hown' hb') | (go_at_call 77; refine (wireBytes _ _ (by omega)).mono ?_; rintro e w3 ⟨v3, rfl, ho3, hb3⟩))
      go_roundw
      case rel => exact ⟨k + 1, by omega, by go_num, by rw [T.out, ← List.append_assoc, List.map_append]; exact hown', (HB.out.trans (hb3.mono hb2)).trans hb'⟩
      case measure => simp [intOf]; omega
    · have e : zs.take k = zs := List.take_of_length_le (by omega)
      rw [e] at hown
      go_wp2
      go_ret
      exact ⟨_, rfl, hown, HB.out⟩

theorem wireStrings (v : Value) (zs : List ByteArray) (w : World) (hv : Rd w v (zs.map Value.string)) (hf : SmallStrs zs) (hl : zs.length ≤ 1000000) : Calls Try.prog 54 #[v] w (MadeBytes w (strsB zs)) := by
  go_enter Try.func54, Try.ntmps54
  go_wp2_with (go_at_call 76; refine (wireListS _ zs _ hv hf hl).mono ?_; rintro e w1 ⟨v1, rfl, ho1, hb1⟩)
  go_ret
  exact ⟨_, rfl, ho1, hb1⟩

set_option maxRecDepth 100000 in
set_option maxHeartbeats 1000000 in
theorem refStrings (v : Value) (zs : List ByteArray) (w : World) (hv : Rd w v (zs.map Value.string)) (hf : SmallStrs zs) (hl : zs.length ≤ 1000000) : Calls Try.prog 92 #[v] w (MadeBytes w (strsB zs)) := by
  obtain ⟨a, cap, b, off, rfl, hcap, hm, ha, hc⟩ := StrsOpen hv
  have HF := Hid.mk hf
  have hl0 := intB_len zs.length (by omega) (by omega)
  clear hv
  go_enter Try.func92, Try.ntmps92
  go_wp2_with (go_at_call 95; refine (refInt _ _ (by omega) (by omega)).mono ?_; rintro e w1 ⟨v1, rfl, ho1, hb1⟩)
  go_loopw [3, 4] (fun o i wr => ∃ k : Nat, k ≤ zs.length ∧ i = .int .i64 k ∧ Own w.heap.size 5 wr o ((intB zs.length ++ ((zs.take k).map strB).flatten).map (Value.int .u8)) ∧ Below w.heap.size w wr) (fun _ i _ => zs.length - (intOf i).toNat)
  case atStart => exact ⟨0, by omega, rfl, by simpa using ho1, hb1⟩
  case round =>
    obtain ⟨k, hk, rfl, hown, hb⟩ := hrel
    have HB := Hid.mk hb
    clear hb
    have hb2 := HB.out.size
    by_cases hlt : k < zs.length
    · obtain ⟨y, hy⟩ := ints_get zs k hlt
      have c1 := below_cell HB.out (hc.out k y hy)
      have y1 := HF.out y (List.mem_of_getElem? hy)
      have hl1 := strB_len y y1
      have hl2 := strs_len (zs.take k) (fun z hz => HF.out z (List.mem_of_mem_take hz))
      have hl3 : (zs.take k).length ≤ zs.length := by rw [List.length_take]; omega
      obtain rfl := ha (by omega)
      have T := Hid.mk (strs_take zs k y hy)
      clear ha hy
      go_wp2_with (first | (at_builtin; refine wp_append (.tmp 14) (.tmp 19) 44 5 1 _ elemByte rfl rfl Try.underlying44 w.heap.size _ _ _ _ rfl (hown.kept hb3) rfl ho3.rd (by simp only [List.length_map]; omega) (oneCells _ _) (by simp only [List.length_map, List.length_append, maxLen]; omega) (by simp only [List.length_map, List.length_append]; omega) (by have := hb3.size; omega) ?_; intro v' w' hown' hb') | (go_at_call 96; refine (refBytes _ _ (by omega)).mono ?_; rintro e w3 ⟨v3, rfl, ho3, hb3⟩))
      go_roundw
      case rel => exact ⟨k + 1, by omega, by go_num, by rw [T.out, ← List.append_assoc, List.map_append]; exact hown', (HB.out.trans (hb3.mono hb2)).trans hb'⟩
      case measure => simp [intOf]; omega
    · have e : zs.take k = zs := List.take_of_length_le (by omega)
      rw [e] at hown
      go_wp2
      go_ret
      exact ⟨_, rfl, hown, HB.out⟩

end Go.Proofs.Ytnjopfjmepbpoaa

/- The walks of wire and antiquaryref01: byte strings, decoded. -/
namespace Go.Proofs.Ytnjopfjmepbpoaa
set_option linter.unusedSimpArgs false
set_option linter.unusedVariables false
set_option linter.unnecessarySimpa false
open Go.RowKit

/-- The call returns a new list, and two numbers. -/
def MadeStrsN (w : World) (r : List ByteArray × Int × Int) (e : Ending) (w' : World) : Prop :=
  ∃ v, e = .returned (.tuple #[v, .int .i64 r.2.1, .int .i64 r.2.2]) ∧ Own w.heap.size 9 w' v (r.1.map Value.string) ∧ Below w.heap.size w w'
theorem MadeStrsN.mk {w w' : World} {r : List ByteArray × Int × Int} {l : List ByteArray} {x y : Int} {v : Value} (h : r = (l, x, y)) (ho : Own w.heap.size 9 w' v (l.map Value.string)) (hb : Below w.heap.size w w') :
    MadeStrsN w r (.returned (.tuple #[v, .int .i64 x, .int .i64 y])) w' := by
  subst h; exact ⟨v, rfl, ho, hb⟩

/-- A call returns a string and two numbers. -/
def RetS3 (w : World) (r : ByteArray × Int × Int) (e : Ending) (w' : World) : Prop :=
  e = .returned (.tuple #[.string r.1, .int .i64 r.2.1, .int .i64 r.2.2]) ∧ Still w w'
theorem RetS3.mk {w w' : World} {r : ByteArray × Int × Int} {x : ByteArray} {y z : Int} (h : r = (x, y, z)) (hs : Still w w') : RetS3 w r (.returned (.tuple #[.string x, .int .i64 y, .int .i64 z])) w' := by
  subst h; exact ⟨rfl, hs⟩

theorem Bytes.mid {w : World} {bs : List Int} {cap b off m n : Nat} (hcap : bs.length ≤ cap) (hm : cap ≤ maxLen) (hc : ∀ (j : Nat) (x : Int), bs[j]? = some x → w.cell? ⟨b, off + j, none⟩ = some (.int .u8 x)) (hle : m + n ≤ bs.length) :
    Bytes w (.slice (some ⟨b, off + m, none⟩) n (cap - m)) ((bs.drop m).take n) := by
  have hl : ((bs.drop m).take n).length = n := by rw [List.length_take, List.length_drop]; omega
  refine ⟨_, cap - m, b, off + m, by rw [List.length_map, hl], by rw [List.length_map, hl]; omega, by omega, fun _ => rfl, fun j u hu => ?_⟩
  rw [List.getElem?_map] at hu
  obtain ⟨x, hx, rfl⟩ := Option.map_eq_some_iff.1 hu
  rw [List.getElem?_take] at hx
  split at hx
  · rw [List.getElem?_drop] at hx
    rw [Nat.add_assoc]; exact hc _ _ hx
  · cases hx
theorem Bytes.empty {w : World} {a : Option Addr} {c : Nat} (hc : c ≤ maxLen) : Bytes w (.slice a 0 c) [] :=
  ⟨a, c, 0, 0, rfl, by simp, hc, fun h => by simp at h, fun j u hu => by simp at hu⟩

set_option maxRecDepth 100000 in
set_option maxHeartbeats 1000000 in
theorem wireGetBytes (v : Value) (bs : List Int) (w : World) (hv : Bytes w v bs) (hby : Byte bs) : Calls Try.prog 71 #[v] w (RetS3 w (getS bs)) := by
  obtain ⟨a, cap, b, off, hvv, hcap, hm, ha, hc⟩ := hv.open
  have ok := Hid.mk (lenL_ok bs 1 hby.all)
  obtain ⟨n, u, er, hr⟩ : ∃ n u er, lenL bs 1 = (n, u, er) := ⟨_, _, _, rfl⟩
  have L : Hid (getS bs = if er ≠ 0 then (ByteArray.empty, 0, er) else (strOf ((bs.drop u.toNat).take n.toNat), u + n, 0)) := by
    rw [Hid, getS, hr]
  have HR := Hid.mk hr
  rw [hr] at ok
  clear hr
  subst hvv
  by_cases g : er = 0
  · obtain rfl := g
    obtain ⟨o1, o2, o3, o4⟩ := ok.out rfl
    simp only [Int.ediv_one] at o1 o2 o3 o4
    obtain ⟨N, rfl⟩ : ∃ N : Nat, n = N := ⟨n.toNat, by omega⟩
    obtain ⟨U, rfl⟩ : ∃ N : Nat, u = N := ⟨u.toNat, by omega⟩
    have L2 : Hid (getS bs = (strOf ((bs.drop U).take N), (U : Int) + (N : Int), 0)) := by rw [Hid, L.out, if_neg (by simp)]; simp
    obtain rfl := ha (by omega)
    have HV := Hid.mk hv
    have HC := Hid.mk (fun (k : Nat) => Bytes.mid (w := w.drewN k) (m := U) (n := N) hcap hm (fun j x hx => hc.out j x hx) (by omega))
    have HM := hm
    unfold maxLen at hm
    clear ha L ok hc hv
    by_cases ec : cap = U
    · subst ec
      obtain rfl : N = 0 := by omega
      have cv : ∀ k, (convert 44 9 (.slice (some ⟨b, off, none⟩) 0 0)).run Try.prog (w.drewN k) = .ok (.string (strOf [])) (w.drewN k) := fun k => conv_bytes (Bytes.empty (by unfold maxLen; omega))
      have L3 : Hid (getS bs = (strOf [], (cap : Int), 0)) := by rw [Hid, L2.out]; simp
      clear HM HC
      generalize strOf [] = st at *
      go_enter Try.func71, Try.ntmps71
      go_wp2_with (go_at_call 93; refine (wireLength _ bs _ _ HV.out hby (by omega) (by omega)).mono ?_; rintro e w' ⟨rfl, k, rfl⟩; rw [HR.out])
      go_ret3
      exact RetS3.mk L3.out (Still.one _ _)
    · have cv : ∀ k, (convert 44 9 (.slice (some ⟨b, off + U, none⟩) N (cap - U))).run Try.prog (w.drewN k) = .ok (.string (strOf ((bs.drop U).take N))) (w.drewN k) := fun k => conv_bytes (HC.out k)
      clear HM HC
      generalize strOf ((bs.drop U).take N) = st at *
      go_enter Try.func71, Try.ntmps71
      go_wp2_with (go_at_call 93; refine (wireLength _ bs _ _ HV.out hby (by omega) (by omega)).mono ?_; rintro e w' ⟨rfl, k, rfl⟩; rw [HR.out])
      go_ret3
      exact RetS3.mk L2.out (Still.one _ _)
  · have g' : (er == 0) = false := by simpa using g
    have L2 : Hid (getS bs = (ByteArray.empty, 0, er)) := by rw [Hid, L.out, if_pos g]
    go_enter Try.func71, Try.ntmps71
    go_wp2_with (go_at_call 93; refine (wireLength _ bs _ _ hv hby (by omega) (by omega)).mono ?_; rintro e w' ⟨rfl, k, rfl⟩; rw [HR.out])
    go_ret3
    exact RetS3.mk L2.out (Still.one _ _)

theorem callGetBytes (args : Array Value) (w : World) : (callFunc 71 args).run Try.prog w = .ok (.enter 71 args) w := by kernel_rfl

set_option maxRecDepth 100000 in
set_option maxHeartbeats 1000000 in
theorem wireGetSt (v : Value) (bs : List Int) (w : World) (hv : Bytes w v bs) (hby : Byte bs) (hl : bs.length ≤ 1000000000) : Calls Try.prog 70 #[v, .int .i64 1, .func (.func 71) #[] #[]] w (MadeStrsN w (getStrs bs)) := by
  obtain ⟨a, cap, b, off, hvv, hcap, hm, ha, hc⟩ := hv.open
  have ok := Hid.mk (lenL_ok bs 1 hby.all)
  obtain ⟨n, u, er, hr⟩ : ∃ n u er, lenL bs 1 = (n, u, er) := ⟨_, _, _, rfl⟩
  have L : Hid (getStrs bs = if er ≠ 0 then ([], 0, er) else andThenS [] u (getNS n.toNat (bs.drop u.toNat))) := by
    rw [Hid, getStrs, hr]
  have HR := Hid.mk hr
  rw [hr] at ok
  clear hr
  subst hvv
  by_cases g : er = 0
  · obtain rfl := g
    obtain ⟨o1, o2, o3, o4⟩ := ok.out rfl
    simp only [Int.ediv_one] at o1 o2 o3 o4
    obtain ⟨N, rfl⟩ : ∃ N : Nat, n = N := ⟨n.toNat, by omega⟩
    obtain ⟨U, rfl⟩ : ∃ N : Nat, u = N := ⟨u.toNat, by omega⟩
    have L2 : Hid (getStrs bs = andThenS [] U (getNS N (bs.drop U))) := by rw [Hid, L.out, if_neg (by simp)]; rfl
    obtain rfl := ha (by omega)
    clear ha L ok
    go_enter Try.func70, Try.ntmps70
    go_wp2_with (go_at_call 93; refine (wireLength _ bs _ _ hv hby (by omega) (by omega)).mono ?_; rintro e w' ⟨rfl, k, rfl⟩; rw [HR.out])
    go_loopw [10, 12, 27] (fun p o i wr => ∃ (j m : Nat) (out : List ByteArray), j ≤ N ∧ U ≤ m ∧ m ≤ bs.length ∧ out.length = j ∧ i = .int .i64 j ∧ p = .int .i64 m ∧ Own w.heap.size 9 wr o (out.map Value.string) ∧ Below w.heap.size w wr ∧ Hid (getStrs bs = andThenS out m (getNS (N - j) (bs.drop m)))) (fun _ _ i _ => N - (intOf i).toNat)
    case atStart => exact ⟨0, U, [], by omega, by omega, by omega, rfl, rfl, rfl, Own.nil _ _ _, (Still.one _ _).below _, L2⟩
    case round =>
      obtain ⟨j, m, out, hj, hUm, hmb, ho, rfl, rfl, hown, hb, hh⟩ := hrel
      have HB := Hid.mk hb
      have hb2 := hb.size
      have HO := Hid.mk ho
      clear hb ho
      by_cases hlt : j < N
      · have hv' : Bytes wr (.slice (some (if cap = m then ⟨b, off, none⟩ else ⟨b, off + m, none⟩)) (bs.length - m) (cap - m)) (bs.drop m) := by
          split
          · rw [show bs.length - m = 0 by omega]; exact Bytes.dropEnd (by omega) (by omega)
          · exact Bytes.dropAt hcap hm (fun j x hx => below_cell HB.out (hc.out j x hx)) hmb
        have ok := Hid.mk (getS_ok (bs.drop m) (hby.drop m).all)
        obtain ⟨x, us, e2, hr2⟩ : ∃ x us e2, getS (bs.drop m) = (x, us, e2) := ⟨_, _, _, rfl⟩
        have HV := Hid.mk hv'
        have HR2 := Hid.mk hr2
        have NX : Hid (N - j = (N - (j+1)) + 1) := by rw [Hid]; omega
        rw [hr2] at ok
        clear hr2 hv'
        by_cases g2 : e2 = 0
        · obtain rfl := g2
          obtain ⟨p1, p2⟩ := ok.out rfl
          simp only [List.length_drop] at p1 p2
          obtain ⟨us, rfl⟩ : ∃ N : Nat, us = N := ⟨us.toNat, by omega⟩
          have ST : Hid (getStrs bs = andThenS (out ++ [x]) (m + us) (getNS (N - (j+1)) (bs.drop (m + us)))) := by
            rw [Hid, hh.out, NX.out, andThenS_step out m _ _ _ HR2.out rfl]; simp
          have LO : out.length ≤ N := by rw [HO.out]; omega
          clear ok hh NX
          have ec : ¬ cap = m := by omega
          all_goals have HV' := HV.out
          all_goals first | rw [if_pos ec] at HV' | rw [if_neg ec] at HV'
          all_goals have HVV := Hid.mk HV'
          all_goals clear HV'
          all_goals
            go_wp2_with (first | (at_builtin; refine wp_push (.tmp 41) (.tmp 43) 51 _ 9 16 _ elemStr rfl rfl Try.underlying51 w.heap.size _ (.string x) _ rfl hown.drewN rfl rfl (by simp [maxLen]; omega) (by simp; omega) hb2 ?_; intro v' w' hown' hb') | (go_at_call 71; refine (wireGetBytes _ (bs.drop m) _ (by first | exact HVV.out | (have h := HVV.out; simp [ec] at h ⊢; exact h)) (hby.drop m)).mono ?_; rintro e w' ⟨rfl, q, rfl⟩; rw [HR2.out]))
            go_roundw
            case rel => exact ⟨j + 1, m + us, out ++ [x], by omega, by omega, by omega, by simp [HO.out], by go_num, by go_num, by simpa using hown', (HB.out.trans ((Still.one _ _).below _)).trans hb', ST⟩
            case measure => simp [intOf]; omega
        · have g2' : (e2 == 0) = false := by simpa using g2
          have ST : Hid (getStrs bs = ([], 0, e2)) := by
            rw [Hid, hh.out, NX.out, andThenS_err out m _ _ _ HR2.out g2]
          clear ok hh NX
          by_cases ec : cap = m
          all_goals have HV' := HV.out
          all_goals first | rw [if_pos ec] at HV' | rw [if_neg ec] at HV'
          all_goals have HVV := Hid.mk HV'
          all_goals clear HV'
          all_goals
            go_wp2_with (go_at_call 71; refine (wireGetBytes _ (bs.drop m) _ (by first | exact HVV.out | (have h := HVV.out; simp [ec] at h ⊢; exact h)) (hby.drop m)).mono ?_; rintro e w' ⟨rfl, q, rfl⟩; rw [HR2.out])
            go_ret3
            exact MadeStrsN.mk ST.out (Own.nil _ _ _) (HB.out.trans ((Still.one _ _).below _))
      · have DN : Hid (getStrs bs = (out, (m : Int), 0)) := by
          rw [Hid, hh.out, show N - j = 0 by omega, andThenS_done]
        go_wp2
        go_ret3
        exact MadeStrsN.mk DN.out hown HB.out
  · have g' : (er == 0) = false := by simpa using g
    have L2 : Hid (getStrs bs = ([], 0, er)) := by rw [Hid, L.out, if_pos g]
    go_enter Try.func70, Try.ntmps70
    go_wp2_with (go_at_call 93; refine (wireLength _ bs _ _ hv hby (by omega) (by omega)).mono ?_; rintro e w' ⟨rfl, k, rfl⟩; rw [HR.out])
    go_ret3
    exact MadeStrsN.mk L2.out (Own.nil _ _ _) ((Still.one _ _).below _)

theorem wireGetStrings (v : Value) (bs : List Int) (w : World) (hv : Bytes w v bs) (hby : Byte bs) (hl : bs.length ≤ 1000000000) : Calls Try.prog 49 #[v] w (MadeStrsN w (getStrs bs)) := by
  go_enter Try.func49, Try.ntmps49
  go_wp2_with (go_at_call 70; refine (wireGetSt _ bs _ hv hby hl).mono ?_; rintro e w1 ⟨v1, rfl, ho1, hb1⟩)
  go_ret3
  exact ⟨_, rfl, ho1, hb1⟩

end Go.Proofs.Ytnjopfjmepbpoaa

/- Pure states: contracts over memory as contracts over pure values. -/
namespace Go.Proofs.Ytnjopfjmepbpoaa
set_option linter.unusedSimpArgs false
set_option linter.unusedVariables false
set_option linter.unnecessarySimpa false
open Go.RowKit

def pbyte (z : Int) : PV := .val (.int .u8 z)
def pbytes (bs : List Int) : PV := .sl bs.length 1 (bs.map pbyte) none
def pattrL (a : PAttr) : List PV := [pstr a.name, pint a.kind, pint a.n, pstr a.s]
def pattrs (l : List PAttr) : PV := .sl l.length 4 (l.flatMap pattrL) none
def pdefL (d : PDef) : List PV := [pstr d.name, pint d.kind, pint d.lo, pint d.hi, pstrs d.words]
def pdefs (l : List PDef) : PV := .sl l.length 5 (l.flatMap pdefL) none
def pschema (s : PSchema) : PV := .agg [pint s.dims, pint s.metric, pdefs s.defs]
def pentry (e : PEntry) : PV := .agg [pint e.id, pint e.ver, pint e.owner, pint e.filed, pint e.frm, pint e.to, pint e.born, pints e.vec, pattrs e.attrs]

theorem low_mapI {n k : Nat} {l : List Int} {o : Option TypeId} : Low (.sl n k (l.map pint) o) := .sl _ _ _ _ (fun c hc => by obtain ⟨z, -, rfl⟩ := List.mem_map.1 hc; exact .val _)
theorem low_mapS {n k : Nat} {l : List ByteArray} {o : Option TypeId} : Low (.sl n k (l.map pstr) o) := .sl _ _ _ _ (fun c hc => by obtain ⟨z, -, rfl⟩ := List.mem_map.1 hc; exact .val _)
theorem low_mapB {n k : Nat} {l : List Int} {o : Option TypeId} : Low (.sl n k (l.map pbyte) o) := .sl _ _ _ _ (fun c hc => by obtain ⟨z, -, rfl⟩ := List.mem_map.1 hc; exact .val _)
theorem sl_eq {n n' k : Nat} {cs cs' : List PV} {o : Option TypeId} (h1 : n = n') (h2 : cs = cs') : PV.sl n k cs o = .sl n' k cs' o := by rw [h1, h2]
theorem one_pint (l : List Int) : (l.map pint).all PV.one = true := by rw [List.all_map, List.all_eq_true]; intro x _; rfl
theorem one_pstr (l : List ByteArray) : (l.map pstr).all PV.one = true := by rw [List.all_map, List.all_eq_true]; intro x _; rfl
theorem one_pbyte (l : List Int) : (l.map pbyte).all PV.one = true := by rw [List.all_map, List.all_eq_true]; intro x _; rfl
theorem one_pattrs (l : List PAttr) : (l.flatMap pattrL).all PV.one = true := by
  rw [List.all_eq_true]
  intro c hc
  obtain ⟨a, -, h⟩ := List.mem_flatMap.1 hc
  simp [pattrL] at h
  rcases h with rfl | rfl | rfl | rfl <;> rfl
theorem low_pbyte (z : Int) : Low (pbyte z) ↔ True := low_val _
theorem low_pbytes (zs : List Int) : Low (pbytes zs) ↔ True := ⟨fun _ => trivial, fun _ => .sl _ _ _ _ (fun c hc => by obtain ⟨z, -, rfl⟩ := List.mem_map.1 hc; exact .val _)⟩
theorem low_pattrL (a : PAttr) : ∀ c ∈ pattrL a, Low c := by intro c hc; simp [pattrL] at hc; rcases hc with rfl | rfl | rfl | rfl <;> exact .val _
theorem low_pattrs (l : List PAttr) : Low (pattrs l) ↔ True := ⟨fun _ => trivial, fun _ => .sl _ _ _ _ (fun c hc => by obtain ⟨a, -, h⟩ := List.mem_flatMap.1 hc; exact low_pattrL a c h)⟩
theorem low_pdefL (d : PDef) : ∀ c ∈ pdefL d, Low c := by
  intro c hc; simp [pdefL] at hc
  rcases hc with rfl | rfl | rfl | rfl | rfl
  · exact .val _
  · exact .val _
  · exact .val _
  · exact .val _
  · exact (low_pstrs _).2 trivial
theorem low_pdefs (l : List PDef) : Low (pdefs l) ↔ True := ⟨fun _ => trivial, fun _ => .sl _ _ _ _ (fun c hc => by obtain ⟨a, -, h⟩ := List.mem_flatMap.1 hc; exact low_pdefL a c h)⟩
theorem low_pschema (s : PSchema) : Low (pschema s) ↔ True := ⟨fun _ => trivial, fun _ => .agg _ (by
  intro c hc; simp at hc
  rcases hc with rfl | rfl | rfl
  · exact .val _
  · exact .val _
  · exact (low_pdefs _).2 trivial)⟩
theorem low_pentry (s : PEntry) : Low (pentry s) ↔ True := ⟨fun _ => trivial, fun _ => .agg _ (by
  intro c hc; simp at hc
  rcases hc with rfl | rfl | rfl | rfl | rfl | rfl | rfl | rfl | rfl
  · exact .val _
  · exact .val _
  · exact .val _
  · exact .val _
  · exact .val _
  · exact .val _
  · exact .val _
  · exact (low_pints _).2 trivial
  · exact (low_pattrs _).2 trivial)⟩

section
variable {Φ : Imm} {μ : Nat → Option Nat} {w : World} (himm : ∀ b o u, Φ b o = some u → w.cell? ⟨b, o, none⟩ = some u)
include himm

theorem rd_of_rep {α : Type} {f : α → Value} {l : List α} {n : Nat} {own : Option TypeId} {v : Value} (h : Rep Φ μ (.sl n 1 (l.map fun x => .val (f x)) own) v) : Rd w v (l.map f) := by
  obtain ⟨a, b, off, cap, us, rfl, h1, h2, h3, h4, h5, h6⟩ := h.sl_inv
  have hn : n = l.length := by simpa using h3.symm
  subst hn
  refine ⟨a, cap, b, off, by simp, by simpa using h1, h2, by simpa using h4, fun j u hu => ?_⟩
  have hj : j < l.length := by have := (List.getElem?_eq_some_iff.1 hu).1; simpa using this
  have hr := h6 j (.val (f l[j])) (by simp [hj])
  obtain ⟨e, -⟩ := hr.val_inv
  have := himm _ _ _ (h5 j (by simpa using hj))
  rw [this, e]
  simp [hj] at hu
  rw [hu]
theorem ints_of_rep {zs : List Int} {v : Value} (h : Rep Φ μ (pints zs) v) : Ints w v zs := rd_of_rep himm h
theorem strs_of_rep {zs : List ByteArray} {v : Value} (h : Rep Φ μ (pstrs zs) v) : Strs w v zs := rd_of_rep himm h
theorem bytes_of_rep {zs : List Int} {v : Value} (h : Rep Φ μ (pbytes zs) v) : Bytes w v zs := rd_of_rep himm h

theorem rdS_of_rep {α : Type} {c : α → List Value} {k : Nat} (hk : ∀ x, (c x).length = k) {l : List α} {own : Option TypeId} {v : Value} (h : Rep Φ μ (.sl l.length k (l.flatMap fun x => (c x).map .val) own) v) : RdS w v k (l.map c) := by
  obtain ⟨a, b, off, cap, us, rfl, h1, h2, h3, h4, h5, h6⟩ := h.sl_inv
  refine ⟨a, cap, b, off, by simp, by simpa using h1, h2, by simpa using h4, fun i j r u hr hu => ?_⟩
  rw [List.getElem?_map] at hr
  obtain ⟨x, hx, rfl⟩ := Option.map_eq_some_iff.1 hr
  have hget := flatMap_get (f := fun x => (c x).map PV.val) (k := k) (by intro x; simp [hk]) hx (m := j) (c := .val u) (by simp [hu])
  have hlt := (List.getElem?_eq_some_iff.1 hget).1
  obtain ⟨e, -⟩ := (h6 _ _ hget).val_inv
  have := himm _ _ _ (h5 _ hlt)
  rw [← Nat.add_assoc] at this
  rw [this, e]
theorem attrs_of_rep {l : List PAttr} {v : Value} (h : Rep Φ μ (pattrs l) v) : Attrs w v l := rdS_of_rep himm (c := attrC) (fun _ => rfl) h

theorem defs_of_rep {l : List PDef} {v : Value} (h : Rep Φ μ (pdefs l) v) : Defs w v l := by
  obtain ⟨a, b, off, cap, us, rfl, h1, h2, h3, h4, h5, h6⟩ := h.sl_inv
  refine ⟨a, cap, b, off, rfl, h1, h2, h4, fun i d hd => ?_⟩
  have cell : ∀ (m : Nat) (c : PV), (pdefL d)[m]? = some c → w.cell? ⟨b, off + i * 5 + m, none⟩ = some (us (i * 5 + m)) ∧ Rep Φ μ c (us (i * 5 + m)) := by
    intro m c hc
    have hget := flatMap_get (f := pdefL) (k := 5) (fun _ => rfl) hd hc
    have hlt := (List.getElem?_eq_some_iff.1 hget).1
    have := himm _ _ _ (h5 _ hlt)
    rw [← Nat.add_assoc] at this
    exact ⟨this, h6 _ _ hget⟩
  obtain ⟨c0, r0⟩ := cell 0 _ rfl
  obtain ⟨c1, r1⟩ := cell 1 _ rfl
  obtain ⟨c2, r2⟩ := cell 2 _ rfl
  obtain ⟨c3, r3⟩ := cell 3 _ rfl
  obtain ⟨c4, r4⟩ := cell 4 _ rfl
  refine ⟨us (i * 5 + 4), ⟨by rw [Nat.add_zero] at c0; rw [c0, r0.val_inv.1], by rw [c1, r1.val_inv.1], by rw [c2, r2.val_inv.1], by rw [c3, r3.val_inv.1], c4⟩, strs_of_rep himm r4⟩
theorem schema_of_rep {s : PSchema} {v : Value} (h : Rep Φ μ (pschema s) v) : SchemaV w v s := by
  obtain ⟨us, rfl, hr⟩ := h.agg_inv
  match us, hr with
  | [a, b, c], hr =>
    have h0 := (hr.2 0 _ _ rfl rfl).val_inv.1
    have h1 := (hr.2 1 _ _ rfl rfl).val_inv.1
    have h2 := hr.2 2 _ _ rfl rfl
    subst h0 h1
    exact ⟨c, rfl, defs_of_rep himm h2⟩
  | [], hr => exact absurd hr.1 (by simp)
  | [_], hr => exact absurd hr.1 (by simp)
  | [_, _], hr => exact absurd hr.1 (by simp)
  | _ :: _ :: _ :: _ :: _, hr => exact absurd hr.1 (by simp)
theorem entry_of_rep {e : PEntry} {v : Value} (h : Rep Φ μ (pentry e) v) : EntryV w v e := by
  obtain ⟨us, rfl, hr⟩ := h.agg_inv
  have hl := hr.1
  simp only [List.length_cons, List.length_nil] at hl
  have g : ∀ j (h : j < 9), us[j]? = some (us[j]'(by omega)) := fun j h => by simp [hl, h]
  obtain ⟨x0, x1, x2, x3, x4, x5, x6, x7, x8, rfl⟩ : ∃ x0 x1 x2 x3 x4 x5 x6 x7 x8, us = [x0, x1, x2, x3, x4, x5, x6, x7, x8] := by
    match us, hl with
    | [x0, x1, x2, x3, x4, x5, x6, x7, x8], _ => exact ⟨x0, x1, x2, x3, x4, x5, x6, x7, x8, rfl⟩
  have h0 := (hr.2 0 _ _ rfl rfl).val_inv.1
  have h1 := (hr.2 1 _ _ rfl rfl).val_inv.1
  have h2 := (hr.2 2 _ _ rfl rfl).val_inv.1
  have h3 := (hr.2 3 _ _ rfl rfl).val_inv.1
  have h4 := (hr.2 4 _ _ rfl rfl).val_inv.1
  have h5 := (hr.2 5 _ _ rfl rfl).val_inv.1
  have h6 := (hr.2 6 _ _ rfl rfl).val_inv.1
  have h7 := hr.2 7 _ _ rfl rfl
  have h8 := hr.2 8 _ _ rfl rfl
  subst h0 h1 h2 h3 h4 h5 h6
  exact ⟨x7, x8, rfl, ints_of_rep himm h7, attrs_of_rep himm h8⟩

theorem post_flat {w' : World} {post : PV → Prop} {r : PV} {v : Value} (hr : Rep Φ mu0 r v) (hf : r.ownB = false) (hp : post r) (hb : Below w.heap.size w w') : CallPost Φ w post (.returned v) w' := by
  refine ⟨r, v, Φ, rfl, hp, hr, fun b o u e => below_cell hb (himm b o u e), fun _ _ _ => rfl, hb, fun n k cs E e => ?_⟩
  rw [e] at hf; simp [PV.ownB] at hf

/-- A new slice as a pure value. -/
theorem own_rep {w' : World} {E : TypeId} {v : Value} {α : Type} {f : α → Value} {l : List α} (hplain : ∀ x, plainV (f x) = true) (ho : Own w.heap.size E w' v (l.map f)) (hb : Below w.heap.size w w') :
    ∃ Φ' : Imm, (∀ b o u, Φ' b o = some u → w'.cell? ⟨b, o, none⟩ = some u) ∧ (∀ b o, b < w.heap.size → Φ' b o = Φ b o) ∧ Rep Φ' mu0 (.sl l.length 1 (l.map fun x => .val (f x)) (some E)) v ∧ OwnAt w.heap.size Φ' (fun _ => some (.tmp 0)) w' (.tmp 0) l.length 1 E v := by
  have himm' : ∀ b o u, Φ b o = some u → w'.cell? ⟨b, o, none⟩ = some u := fun b o u e => below_cell hb (himm b o u e)
  have hfr : ∀ b o u, Φ b o = some u → b < w.heap.size := fun b o u e => World.block_lt_of_cell? _ _ (himm b o u e)
  rcases ho.2 with ⟨rfl, hn⟩ | ⟨g, cap, cur, rfl, hBg, hgg, hc, hm, hs, ht⟩
  · have hl : l = [] := List.eq_nil_of_length_eq_zero (by simpa using hn)
    subst hl
    exact ⟨Φ, himm', fun _ _ _ => rfl, .sl0 _ _ _ _ (by unfold maxLen; omega), .inl ⟨rfl, rfl⟩⟩
  · simp only [List.length_map, Nat.mul_one] at hc ht hs
    refine ⟨fun b o => if b = g then (l.map f)[o]? else Φ b o, ?_, ?_, ?_, ?_⟩
    · intro b o u e
      by_cases hbg : b = g
      · subst hbg
        simp only [if_true] at e
        rw [← ht, List.getElem?_take] at e
        split at e
        · simp only [World.cell?, hgg]; simpa using e
        · cases e
      · simp only [if_neg hbg] at e; exact himm' b o u e
    · intro b o hbo; simp only; rw [if_neg (by omega)]
    · have hlen : (Value.slice (some ⟨g, 0, none⟩) (l.map f).length cap) = .slice (some ⟨g, 0, none⟩) l.length cap := by simp
      rw [hlen]
      refine .sl _ _ _ _ g 0 cap (fun j => ((l.map f)[j]?).getD undef) (by simp) hc hm (fun j hj => ?_) (fun j c hcj => ?_)
      · have hj' : j < l.length := by simpa using hj
        simp [hj']
      · rw [List.getElem?_map] at hcj
        obtain ⟨x, hx, rfl⟩ := Option.map_eq_some_iff.1 hcj
        simp only [List.getElem?_map, hx, Option.map_some, Option.getD_some]
        exact .val _ (hplain x)
    · refine .inr ⟨g, cap, cur, by simp, hBg, hgg, hc, hm, by simpa using hs, rfl, fun j hj => ?_⟩
      simp only [if_true]
      rw [List.getElem?_eq_none (by simp; omega)]

theorem post_own {w' : World} {E : TypeId} {v : Value} {α : Type} {f : α → Value} {l : List α} (hplain : ∀ x, plainV (f x) = true) (ho : Own w.heap.size E w' v (l.map f)) (hb : Below w.heap.size w w') : CallPost Φ w (· = .sl l.length 1 (l.map fun x => .val (f x)) (some E)) (.returned v) w' := by
  obtain ⟨Φ', h1, h2, h3, h4⟩ := own_rep himm hplain ho hb
  refine ⟨_, v, Φ', rfl, rfl, h3, h1, h2, hb, fun n k cs E' e => ?_⟩
  cases e
  exact h4

theorem post_tup3 {w' : World} {E : TypeId} {v : Value} {α : Type} {f : α → Value} {l : List α} {x y : Int} (hplain : ∀ x, plainV (f x) = true) (ho : Own w.heap.size E w' v (l.map f)) (hb : Below w.heap.size w w') :
    CallPost Φ w (· = .tup [.sl l.length 1 (l.map fun x => .val (f x)) none, pint x, pint y]) (.returned (.tuple #[v, .int .i64 x, .int .i64 y])) w' := by
  obtain ⟨Φ', h1, h2, h3, h4⟩ := own_rep himm hplain ho hb
  exact ⟨_, _, Φ', rfl, rfl, (RepL.cons h3.bare (RepL.cons (.val _ rfl) (RepL.cons (.val _ rfl) RepL.nil))).tup, h1, h2, hb, fun n k cs E' e => by cases e⟩
end

/-- A contract over memory as one over pure values: one argument. -/
theorem pcalls1 {P : Program} {f : FuncId} {p : PV} {post : PV → Prop} (hc : callB P f = true) (h : ∀ (Φ : Imm) (μ : Nat → Option Nat) (w : World) (v : Value), (∀ b o u, Φ b o = some u → w.cell? ⟨b, o, none⟩ = some u) → Rep Φ μ p v → Calls P f #[v] w (CallPost Φ w post)) : PCalls P f [p] post := by
  refine ⟨hc, fun Φ μ w vs himm hr => ?_⟩
  match vs, hr with
  | [v], hr => exact h Φ μ w v himm (hr.2 0 _ _ rfl rfl)
  | [], hr => exact absurd hr.1 (by simp)
  | _ :: _ :: _, hr => exact absurd hr.1 (by simp)
theorem pcalls2 {P : Program} {f : FuncId} {p q : PV} {post : PV → Prop} (hc : callB P f = true) (h : ∀ (Φ : Imm) (μ : Nat → Option Nat) (w : World) (v u : Value), (∀ b o u, Φ b o = some u → w.cell? ⟨b, o, none⟩ = some u) → Rep Φ μ p v → Rep Φ μ q u → Calls P f #[v, u] w (CallPost Φ w post)) : PCalls P f [p, q] post := by
  refine ⟨hc, fun Φ μ w vs himm hr => ?_⟩
  match vs, hr with
  | [v, u], hr => exact h Φ μ w v u himm (hr.2 0 _ _ rfl rfl) (hr.2 1 _ _ rfl rfl)
  | [], hr => exact absurd hr.1 (by simp)
  | [_], hr => exact absurd hr.1 (by simp)
  | _ :: _ :: _ :: _, hr => exact absurd hr.1 (by simp)
end Go.Proofs.Ytnjopfjmepbpoaa

/- The walks of slices.Grow, Concat. -/
namespace Go.Proofs.Ytnjopfjmepbpoaa
set_option linter.unusedSimpArgs false
set_option linter.unusedVariables false
set_option linter.unnecessarySimpa false
open Go.RowKit

/-- slices.Grow of nil. -/
theorem zeroCells_sizeI (z : Value) (n : Nat) : (Builtin.zeroCells #[z] n).size = n := by simp [Builtin.zeroCells]

set_option maxRecDepth 100000 in
theorem slicesGrowI (n : Nat) (w : World) (hn : n ≤ 1000000000) :
    Calls Try.prog 72 #[.slice none 0 0, .int .i64 n] w (MadeRow 3 w []) := by
  by_cases h0 : n = 0
  · subst h0
    go_enter Try.func72, Try.ntmps72
    go_wp2
    go_ret
    exact ⟨_, rfl, Own.nil _ _ _, Below.refl _ _⟩
  · obtain ⟨i0, hi, hz0, hz1, hz2⟩ := info_parts (elemInt).info
    have hg0 : decide (0 < n) = true := by simp; omega
    have HI := Lib.hid hi
    have HZ0 := Lib.hid hz0
    have HZ1 := Lib.hid hz1
    have HZ2 := Lib.hid hz2
    clear hi hz0 hz1 hz2
    go_enter Try.func72, Try.ntmps72
    go_wp2_with (at_builtin; refine Lib.wpList_append_run w rfl (.tmp 20) (.tmp 21) 25 3 rfl (.slice none 0 0) (.int .i64 n) rfl rfl _ _ (Lib.run_append_nil_zeros w 25 3 _ 3 i0 _ .i64 .i64 Try.underlying25 Try.underlying3 HI.out HZ0.out n (by omega) (by rw [HZ1.out]; omega) (by omega) (by rw [HZ2.out]; omega)) ?_)
    go_ret
    refine ⟨_, rfl, ?_, (Below.refl _ _).drew.alloc (Nat.le_refl _) _⟩
    have hge := grownCap_ge w n 0 3
    refine World.ownsRow_made w.drew _ _ (Nat.le_refl _) (grownCap_le_maxLen w n 0 _ (by unfold maxLen; omega)) ?_
    rw [Array.size_append, zeroCells_sizeI, zeroCells_sizeI]
    omega

/-- What lies in the slots of a variadic list of slices. -/
theorem slotsI {w : World} {v : Value} {vs : List Value} (h : Rd w v vs) : ∃ a cap b off, v = .slice a vs.length cap ∧ vs.length ≤ cap ∧ cap ≤ maxLen ∧ (0 < vs.length → a = some ⟨b, off, none⟩) ∧ Hid (∀ j u, vs[j]? = some u → w.cell? ⟨b, off + j, none⟩ = some u) := h

theorem flat_stepI (ls : List (List Int)) (k : Nat) (l : List Int) (h : ls[k]? = some l) : (ls.take (k+1)).flatten = (ls.take k).flatten ++ l := by
  rw [List.take_add_one, h]; simp
theorem flat_bdI (ls : List (List Int)) (k : Nat) : (ls.take k).flatten.length ≤ ls.flatten.length := by
  have h : ls.flatten = (ls.take k).flatten ++ (ls.drop k).flatten := by rw [← List.flatten_append, List.take_append_drop]
  rw [h, List.length_append]; omega

set_option maxRecDepth 100000 in
set_option maxHeartbeats 1000000 in
theorem slicesConcatI (v : Value) (vs : List Value) (ls : List (List Int)) (w : World) (hv : Rd w v vs) (hln : vs.length = ls.length) (hvl : vs.length ≤ 1000000)
    (hd : Hid (∀ (i : Nat) (u : Value) (l : List Int), vs[i]? = some u → ls[i]? = some l → Rd w u (l.map (Value.int .i64)))) (hl : ls.flatten.length ≤ 1000000000) :
    Calls Try.prog 51 #[v] w (MadeRow 3 w (ls.flatten.map (Value.int .i64))) := by
  obtain ⟨a, cap, b, off, rfl, hcap, hm, ha, hc⟩ := slotsI hv
  clear hv
  go_enter Try.func51, Try.ntmps51
  go_wp2
  go_loop [3, 11] (fun s i => ∃ k : Nat, k ≤ vs.length ∧ i = .int .i64 k ∧ s = .int .i64 ((ls.take k).flatten.length : Nat)) (fun _ i => vs.length - (intOf i).toNat)
  case atStart => exact ⟨0, by omega, rfl, by simp⟩
  case round =>
    obtain ⟨k, hk, rfl, rfl⟩ := hrel
    by_cases hlt : k < vs.length
    · obtain ⟨y, hy⟩ := ints_get vs k (by omega)
      obtain ⟨l, hl'⟩ := ints_get ls k (by omega)
      have c0 := hc.out k y hy
      obtain ⟨a2, cap2, b2, off2, rfl, -⟩ := hd.out k y l hy hl'
      rw [List.length_map] at *
      obtain rfl := ha (by omega)
      have F := Lib.hid (flat_stepI ls k l hl')
      have B := flat_bdI ls (k+1)
      rw [F.out, List.length_append] at B
      clear hy hl' ha hc hd
      generalize (ls.take k).flatten = tk at *
      go_wp2
      go_round
      case rel => exact ⟨k + 1, by omega, by go_num, by rw [F.out, List.length_append]; go_num⟩
      case measure => simp [intOf]; omega
    · have e : ls.take k = ls := List.take_of_length_le (by omega)
      rw [e]
      obtain ⟨N, hN⟩ : ∃ N : Nat, ls.flatten.length = N := ⟨_, rfl⟩
      have HN := Lib.hid hN
      rw [hN]
      have hl2 : N ≤ 1000000000 := by omega
      clear hN e
      go_wp2_with (go_at_call 72; refine (slicesGrowI N _ hl2).mono ?_; rintro e w1 ⟨v1, rfl, ho1, hb1⟩)
      go_loopw [6, 27] (fun o i wr => ∃ k : Nat, k ≤ vs.length ∧ i = .int .i64 k ∧ Own w.heap.size 3 wr o ((ls.take k).flatten.map (Value.int .i64)) ∧ Below w.heap.size w wr) (fun _ i _ => vs.length - (intOf i).toNat)
      case atStart => exact ⟨0, by omega, rfl, by simpa using ho1, hb1⟩
      case round =>
        obtain ⟨k, hk, rfl, hown, hb⟩ := hrel
        have HB := Hid.mk hb
        clear hb
        have hb2 := HB.out.size
        by_cases hlt : k < vs.length
        · obtain ⟨y, hy⟩ := ints_get vs k (by omega)
          obtain ⟨l, hl'⟩ := ints_get ls k (by omega)
          have c0 := below_cell HB.out (hc.out k y hy)
          have D := Lib.hid (Rd.below (hd.out k y l hy hl') HB.out)
          have hbl := World.block_lt_of_cell? _ _ c0
          obtain ⟨a2, cap2, b2, off2, rfl, -⟩ := D.out
          rw [List.length_map] at *
          obtain rfl := ha (by omega)
          have F := Lib.hid (flat_stepI ls k l hl')
          have B := flat_bdI ls (k+1)
          rw [F.out, List.length_append] at B
          clear hy hl' ha hc hd
          go_wp2_with (at_builtin; refine wp_appendR (.tmp 31) (.tmp 32) 25 3 8 _ (elemInt) rfl rfl Try.underlying25 w.heap.size _ _ _ _ rfl hown rfl D.out (oneCells _ _) (by simp only [List.length_map, maxLen]; omega) (by simp only [List.length_map]; omega) hb2 ?_; intro v' w' hown' hb')
          go_roundw
          case rel => exact ⟨k + 1, by omega, by go_num, by rw [F.out, List.map_append]; exact hown', HB.out.trans hb'⟩
          case measure => simp [intOf]; omega
        · have e : ls.take k = ls := List.take_of_length_le (by omega)
          rw [e] at hown
          clear hc hd ha
          go_wp2
          go_ret
          exact ⟨_, rfl, hown, HB.out⟩

/-- slices.Grow of nil. -/
theorem zeroCells_sizeB (z : Value) (n : Nat) : (Builtin.zeroCells #[z] n).size = n := by simp [Builtin.zeroCells]

set_option maxRecDepth 100000 in
theorem slicesGrowB (n : Nat) (w : World) (hn : n ≤ 1000000000) :
    Calls Try.prog 73 #[.slice none 0 0, .int .i64 n] w (MadeRow 5 w []) := by
  by_cases h0 : n = 0
  · subst h0
    go_enter Try.func73, Try.ntmps73
    go_wp2
    go_ret
    exact ⟨_, rfl, Own.nil _ _ _, Below.refl _ _⟩
  · obtain ⟨i0, hi, hz0, hz1, hz2⟩ := info_parts (elemByte).info
    have hg0 : decide (0 < n) = true := by simp; omega
    have HI := Lib.hid hi
    have HZ0 := Lib.hid hz0
    have HZ1 := Lib.hid hz1
    have HZ2 := Lib.hid hz2
    clear hi hz0 hz1 hz2
    go_enter Try.func73, Try.ntmps73
    go_wp2_with (at_builtin; refine Lib.wpList_append_run w rfl (.tmp 20) (.tmp 21) 44 3 rfl (.slice none 0 0) (.int .i64 n) rfl rfl _ _ (Lib.run_append_nil_zeros w 44 3 _ 5 i0 _ .i64 .i64 Try.underlying44 Try.underlying3 HI.out HZ0.out n (by omega) (by rw [HZ1.out]; omega) (by omega) (by rw [HZ2.out]; omega)) ?_)
    go_ret
    refine ⟨_, rfl, ?_, (Below.refl _ _).drew.alloc (Nat.le_refl _) _⟩
    have hge := grownCap_ge w n 0 5
    refine World.ownsRow_made w.drew _ _ (Nat.le_refl _) (grownCap_le_maxLen w n 0 _ (by unfold maxLen; omega)) ?_
    rw [Array.size_append, zeroCells_sizeB, zeroCells_sizeB]
    omega

/-- What lies in the slots of a variadic list of slices. -/
theorem slotsB {w : World} {v : Value} {vs : List Value} (h : Rd w v vs) : ∃ a cap b off, v = .slice a vs.length cap ∧ vs.length ≤ cap ∧ cap ≤ maxLen ∧ (0 < vs.length → a = some ⟨b, off, none⟩) ∧ Hid (∀ j u, vs[j]? = some u → w.cell? ⟨b, off + j, none⟩ = some u) := h

theorem flat_stepB (ls : List (List Int)) (k : Nat) (l : List Int) (h : ls[k]? = some l) : (ls.take (k+1)).flatten = (ls.take k).flatten ++ l := by
  rw [List.take_add_one, h]; simp
theorem flat_bdB (ls : List (List Int)) (k : Nat) : (ls.take k).flatten.length ≤ ls.flatten.length := by
  have h : ls.flatten = (ls.take k).flatten ++ (ls.drop k).flatten := by rw [← List.flatten_append, List.take_append_drop]
  rw [h, List.length_append]; omega

set_option maxRecDepth 100000 in
set_option maxHeartbeats 1000000 in
theorem slicesConcatB (v : Value) (vs : List Value) (ls : List (List Int)) (w : World) (hv : Rd w v vs) (hln : vs.length = ls.length) (hvl : vs.length ≤ 1000000)
    (hd : Hid (∀ (i : Nat) (u : Value) (l : List Int), vs[i]? = some u → ls[i]? = some l → Rd w u (l.map (Value.int .u8)))) (hl : ls.flatten.length ≤ 1000000000) :
    Calls Try.prog 52 #[v] w (MadeRow 5 w (ls.flatten.map (Value.int .u8))) := by
  obtain ⟨a, cap, b, off, rfl, hcap, hm, ha, hc⟩ := slotsB hv
  clear hv
  go_enter Try.func52, Try.ntmps52
  go_wp2
  go_loop [3, 11] (fun s i => ∃ k : Nat, k ≤ vs.length ∧ i = .int .i64 k ∧ s = .int .i64 ((ls.take k).flatten.length : Nat)) (fun _ i => vs.length - (intOf i).toNat)
  case atStart => exact ⟨0, by omega, rfl, by simp⟩
  case round =>
    obtain ⟨k, hk, rfl, rfl⟩ := hrel
    by_cases hlt : k < vs.length
    · obtain ⟨y, hy⟩ := ints_get vs k (by omega)
      obtain ⟨l, hl'⟩ := ints_get ls k (by omega)
      have c0 := hc.out k y hy
      obtain ⟨a2, cap2, b2, off2, rfl, -⟩ := hd.out k y l hy hl'
      rw [List.length_map] at *
      obtain rfl := ha (by omega)
      have F := Lib.hid (flat_stepB ls k l hl')
      have B := flat_bdB ls (k+1)
      rw [F.out, List.length_append] at B
      clear hy hl' ha hc hd
      generalize (ls.take k).flatten = tk at *
      go_wp2
      go_round
      case rel => exact ⟨k + 1, by omega, by go_num, by rw [F.out, List.length_append]; go_num⟩
      case measure => simp [intOf]; omega
    · have e : ls.take k = ls := List.take_of_length_le (by omega)
      rw [e]
      obtain ⟨N, hN⟩ : ∃ N : Nat, ls.flatten.length = N := ⟨_, rfl⟩
      have HN := Lib.hid hN
      rw [hN]
      have hl2 : N ≤ 1000000000 := by omega
      clear hN e
      go_wp2_with (go_at_call 73; refine (slicesGrowB N _ hl2).mono ?_; rintro e w1 ⟨v1, rfl, ho1, hb1⟩)
      go_loopw [6, 27] (fun o i wr => ∃ k : Nat, k ≤ vs.length ∧ i = .int .i64 k ∧ Own w.heap.size 5 wr o ((ls.take k).flatten.map (Value.int .u8)) ∧ Below w.heap.size w wr) (fun _ i _ => vs.length - (intOf i).toNat)
      case atStart => exact ⟨0, by omega, rfl, by simpa using ho1, hb1⟩
      case round =>
        obtain ⟨k, hk, rfl, hown, hb⟩ := hrel
        have HB := Hid.mk hb
        clear hb
        have hb2 := HB.out.size
        by_cases hlt : k < vs.length
        · obtain ⟨y, hy⟩ := ints_get vs k (by omega)
          obtain ⟨l, hl'⟩ := ints_get ls k (by omega)
          have c0 := below_cell HB.out (hc.out k y hy)
          have D := Lib.hid (Rd.below (hd.out k y l hy hl') HB.out)
          have hbl := World.block_lt_of_cell? _ _ c0
          obtain ⟨a2, cap2, b2, off2, rfl, -⟩ := D.out
          rw [List.length_map] at *
          obtain rfl := ha (by omega)
          have F := Lib.hid (flat_stepB ls k l hl')
          have B := flat_bdB ls (k+1)
          rw [F.out, List.length_append] at B
          clear hy hl' ha hc hd
          go_wp2_with (at_builtin; refine wp_appendR (.tmp 31) (.tmp 32) 44 5 1 _ (elemByte) rfl rfl Try.underlying44 w.heap.size _ _ _ _ rfl hown rfl D.out (oneCells _ _) (by simp only [List.length_map, maxLen]; omega) (by simp only [List.length_map]; omega) hb2 ?_; intro v' w' hown' hb')
          go_roundw
          case rel => exact ⟨k + 1, by omega, by go_num, by rw [F.out, List.map_append]; exact hown', HB.out.trans hb'⟩
          case measure => simp [intOf]; omega
        · have e : ls.take k = ls := List.take_of_length_le (by omega)
          rw [e] at hown
          clear hc hd ha
          go_wp2
          go_ret
          exact ⟨_, rfl, hown, HB.out⟩

end Go.Proofs.Ytnjopfjmepbpoaa

/- Walks: slices.Clone of ints. -/
namespace Go.Proofs.Ytnjopfjmepbpoaa
set_option linter.unusedSimpArgs false
set_option linter.unusedVariables false
set_option linter.unnecessarySimpa false
open Go.RowKit

set_option maxRecDepth 100000 in
set_option maxHeartbeats 1000000 in
theorem slicesCloneI (v : Value) (zs : List Int) (w : World) (hv : Ints w v zs) (hl : zs.length ≤ 1000000000) : Calls Try.prog 50 #[v] w (MadeInts 3 w zs) := by
  have HV := Lib.hid hv
  obtain ⟨a, cap, b, off, rfl, hcap, hm, ha, hc⟩ := hv.open
  clear hv hc
  cases a with
  | none =>
    have hz : zs = [] := List.eq_nil_of_length_eq_zero (by
      rcases Nat.eq_zero_or_pos zs.length with h | h
      · exact h
      · have := ha h; cases this)
    subst hz
    clear ha
    have he := fun (w : World) => Lib.run_eql_slice_nil (P := Try.prog) w 25 3 none 0 cap 0 0 (by kernel_rfl)
    go_enter Try.func50, Try.ntmps50
    simp only [Option.isNone_none] at he
    go_wp2
    go_ret
    exact ⟨_, rfl, Own.nil _ _ _, Below.refl _ _⟩
  | some ad =>
    clear ha
    have he := fun (w : World) => Lib.run_eql_slice_nil (P := Try.prog) w 25 3 (some ad) zs.length cap 0 0 (by kernel_rfl)
    go_enter Try.func50, Try.ntmps50
    simp only [Option.isNone_some] at he
    have h0 := Lib.hid (show Own w.heap.size 3 (w.alloc (.cells #[] 3)) (.slice (some ⟨w.heap.size, 0, none⟩) 0 0) [] from Own.lit w [] 3 w.heap.size (Nat.le_refl _) (by simp [maxLen]))
    have h1 := Lib.hid (show Rd (w.alloc (.cells #[] 3)) (.slice (some ad) zs.length cap) (zs.map (Value.int .i64)) from HV.out.below ((Below.refl _ _).alloc (Nat.le_refl _) _))
    go_wp2_with (at_builtin; refine wp_appendR _ _ 25 3 8 _ elemInt rfl rfl (by kernel_rfl) w.heap.size _ _ [] (zs.map (Value.int .i64)) rfl h0.out rfl h1.out (by intro c hc; obtain ⟨z, -, rfl⟩ := List.mem_map.1 hc; rfl) (by simp [maxLen]; omega) (by simp; omega) (by simp) ?_; intro v' w' ho hb)
    go_ret
    exact ⟨_, rfl, by simpa using ho, ((Below.refl _ _).alloc (Nat.le_refl _) _).trans hb⟩
end Go.Proofs.Ytnjopfjmepbpoaa

/- The table of the program's types, as far as it matters. -/
namespace Go.Proofs.Ytnjopfjmepbpoaa
open Go.RowKit
set_option linter.unusedSimpArgs false
def typeTab : Tab := [
  none,
  some { size := 1, agg := false, kind := .other, zero := [.val .nilFunc], eqs := [] },
  some { size := 1, agg := false, kind := .int .i64, zero := [.val (.int .i64 0)], eqs := [] },
  some { size := 1, agg := false, kind := .int .i64, zero := [.val (.int .i64 0)], eqs := [] },
  some { size := 1, agg := false, kind := .bool, zero := [.val (.bool false)], eqs := [] },
  some { size := 1, agg := false, kind := .int .u8, zero := [.val (.int .u8 0)], eqs := [] },
  some { size := 1, agg := false, kind := .int .u8, zero := [.val (.int .u8 0)], eqs := [] },
  some { size := 4, agg := true, kind := .struct [(0, 1, false), (1, 1, false), (2, 1, false), (3, 1, false)], zero := [.val (.int .i64 0), .val (.int .i64 0), .val (.bool false), .val (.int .u8 0)], eqs := [.int, .int, .bool, .int] },
  some { size := 4, agg := true, kind := .struct [(0, 1, false), (1, 1, false), (2, 1, false), (3, 1, false)], zero := [.val (.int .i64 0), .val (.int .i64 0), .val (.bool false), .val (.int .u8 0)], eqs := [.int, .int, .bool, .int] },
  some { size := 1, agg := false, kind := .str, zero := [.val (.string { data := { toList := [] } })], eqs := [] },
  some { size := 1, agg := false, kind := .str, zero := [.val (.string { data := { toList := [] } })], eqs := [] },
  some { size := 1, agg := false, kind := .str, zero := [.val (.string { data := { toList := [] } })], eqs := [] },
  some { size := 1, agg := false, kind := .int .u64, zero := [.val (.int .u64 0)], eqs := [] },
  some { size := 2, agg := true, kind := .struct [(0, 1, false), (1, 1, false)], zero := [.val (.string { data := { toList := [] } }), .val (.int .u64 0)], eqs := [] },
  some { size := 2, agg := true, kind := .struct [(0, 1, false), (1, 1, false)], zero := [.val (.string { data := { toList := [] } }), .val (.int .u64 0)], eqs := [] },
  some { size := 1, agg := false, kind := .other, zero := [.val (.pointer none)], eqs := [] },
  some { size := 1, agg := false, kind := .other, zero := [.val (.pointer none)], eqs := [] },
  some { size := 1, agg := false, kind := .other, zero := [.val (.pointer none)], eqs := [] },
  some { size := 1, agg := true, kind := .struct [(0, 1, false)], zero := [.val (.pointer none)], eqs := [] },
  some { size := 1, agg := true, kind := .struct [(0, 1, false)], zero := [.val (.pointer none)], eqs := [] },
  some { size := 1, agg := false, kind := .other, zero := [.val .nilIface], eqs := [] },
  some { size := 1, agg := false, kind := .int .i32, zero := [.val (.int .i32 0)], eqs := [] },
  some { size := 1, agg := false, kind := .slice 53 5 64 [.val (.string { data := { toList := [] } }), .val (.int .i64 0), .val (.int .i64 0), .val (.int .i64 0), .nilsl], zero := [.nilsl], eqs := [] },
  some { size := 3, agg := true, kind := .struct [(0, 1, false), (1, 1, false), (2, 1, false)], zero := [.val (.int .i64 0), .val (.int .i64 0), .nilsl], eqs := [] },
  some { size := 3, agg := true, kind := .struct [(0, 1, false), (1, 1, false), (2, 1, false)], zero := [.val (.int .i64 0), .val (.int .i64 0), .nilsl], eqs := [] },
  some { size := 1, agg := false, kind := .slice 3 1 8 [.val (.int .i64 0)], zero := [.nilsl], eqs := [] },
  some { size := 1, agg := false, kind := .slice 35 4 48 [.val (.string { data := { toList := [] } }), .val (.int .i64 0), .val (.int .i64 0), .val (.string { data := { toList := [] } })], zero := [.nilsl], eqs := [] },
  some { size := 9, agg := true, kind := .struct [(0, 1, false), (1, 1, false), (2, 1, false), (3, 1, false), (4, 1, false), (5, 1, false), (6, 1, false), (7, 1, false), (8, 1, false)], zero := [.val (.int .i64 0), .val (.int .i64 0), .val (.int .i64 0), .val (.int .i64 0), .val (.int .i64 0), .val (.int .i64 0), .val (.int .i64 0), .nilsl, .nilsl], eqs := [] },
  some { size := 9, agg := true, kind := .struct [(0, 1, false), (1, 1, false), (2, 1, false), (3, 1, false), (4, 1, false), (5, 1, false), (6, 1, false), (7, 1, false), (8, 1, false)], zero := [.val (.int .i64 0), .val (.int .i64 0), .val (.int .i64 0), .val (.int .i64 0), .val (.int .i64 0), .val (.int .i64 0), .val (.int .i64 0), .nilsl, .nilsl], eqs := [] },
  some { size := 1, agg := false, kind := .other, zero := [.val .nilFunc], eqs := [] },
  some { size := 1, agg := false, kind := .int .i64, zero := [.val (.int .i64 0)], eqs := [] },
  some { size := 1, agg := false, kind := .other, zero := [.val .nilFunc], eqs := [] },
  some { size := 1, agg := false, kind := .other, zero := [.val .nilFunc], eqs := [] },
  some { size := 1, agg := false, kind := .other, zero := [.val .nilFunc], eqs := [] },
  some { size := 4, agg := true, kind := .struct [(0, 1, false), (1, 1, false), (2, 1, false), (3, 1, false)], zero := [.val (.string { data := { toList := [] } }), .val (.int .i64 0), .val (.int .i64 0), .val (.string { data := { toList := [] } })], eqs := [.str, .int, .int, .str] },
  some { size := 4, agg := true, kind := .struct [(0, 1, false), (1, 1, false), (2, 1, false), (3, 1, false)], zero := [.val (.string { data := { toList := [] } }), .val (.int .i64 0), .val (.int .i64 0), .val (.string { data := { toList := [] } })], eqs := [.str, .int, .int, .str] },
  none,
  some { size := 1, agg := false, kind := .other, zero := [.val .nilFunc], eqs := [] },
  some { size := 5, agg := true, kind := .struct [(0, 4, true), (4, 1, false)], zero := [.val (.string { data := { toList := [] } }), .val (.int .i64 0), .val (.int .i64 0), .val (.string { data := { toList := [] } }), .val (.bool false)], eqs := [] },
  some { size := 5, agg := true, kind := .struct [(0, 4, true), (4, 1, false)], zero := [.val (.string { data := { toList := [] } }), .val (.int .i64 0), .val (.int .i64 0), .val (.string { data := { toList := [] } }), .val (.bool false)], eqs := [] },
  some { size := 1, agg := false, kind := .other, zero := [.val .nilFunc], eqs := [] },
  some { size := 1, agg := false, kind := .other, zero := [.val .nilFunc], eqs := [] },
  some { size := 1, agg := false, kind := .other, zero := [.val .nilFunc], eqs := [] },
  some { size := 1, agg := false, kind := .other, zero := [.val .nilFunc], eqs := [] },
  some { size := 1, agg := false, kind := .slice 5 1 1 [.val (.int .u8 0)], zero := [.nilsl], eqs := [] },
  none,
  some { size := 1, agg := false, kind := .other, zero := [.val .nilFunc], eqs := [] },
  some { size := 1, agg := false, kind := .other, zero := [.val .nilFunc], eqs := [] },
  some { size := 1, agg := false, kind := .other, zero := [.val .nilFunc], eqs := [] },
  some { size := 1, agg := false, kind := .other, zero := [.val .nilFunc], eqs := [] },
  some { size := 1, agg := false, kind := .other, zero := [.val .nilFunc], eqs := [] },
  some { size := 1, agg := false, kind := .slice 9 1 16 [.val (.string { data := { toList := [] } })], zero := [.nilsl], eqs := [] },
  some { size := 5, agg := true, kind := .struct [(0, 1, false), (1, 1, false), (2, 1, false), (3, 1, false), (4, 1, false)], zero := [.val (.string { data := { toList := [] } }), .val (.int .i64 0), .val (.int .i64 0), .val (.int .i64 0), .nilsl], eqs := [] },
  some { size := 5, agg := true, kind := .struct [(0, 1, false), (1, 1, false), (2, 1, false), (3, 1, false), (4, 1, false)], zero := [.val (.string { data := { toList := [] } }), .val (.int .i64 0), .val (.int .i64 0), .val (.int .i64 0), .nilsl], eqs := [] },
  some { size := 1, agg := false, kind := .other, zero := [.val .nilFunc], eqs := [] },
  some { size := 1, agg := false, kind := .other, zero := [.val .nilFunc], eqs := [] },
  some { size := 1, agg := false, kind := .other, zero := [.val .nilFunc], eqs := [] },
  some { size := 1, agg := false, kind := .other, zero := [.val .nilFunc], eqs := [] },
  some { size := 1, agg := false, kind := .other, zero := [.val .nilFunc], eqs := [] },
  some { size := 1, agg := false, kind := .other, zero := [.val .nilFunc], eqs := [] },
  some { size := 1, agg := false, kind := .other, zero := [.val .nilFunc], eqs := [] },
  some { size := 1, agg := false, kind := .other, zero := [.val .nilFunc], eqs := [] },
  some { size := 1, agg := false, kind := .other, zero := [.val .nilFunc], eqs := [] },
  some { size := 1, agg := false, kind := .other, zero := [.val .nilFunc], eqs := [] },
  some { size := 1, agg := false, kind := .other, zero := [.val .nilFunc], eqs := [] },
  some { size := 2, agg := true, kind := .struct [(0, 1, false), (1, 1, false)], zero := [.val .nilFunc, .val (.int .i64 0)], eqs := [] },
  some { size := 2, agg := true, kind := .struct [(0, 1, false), (1, 1, false)], zero := [.val .nilFunc, .val (.int .i64 0)], eqs := [] },
  some { size := 1, agg := false, kind := .other, zero := [.val .nilFunc], eqs := [] },
  some { size := 1, agg := false, kind := .other, zero := [.val .nilFunc], eqs := [] },
  some { size := 1, agg := false, kind := .other, zero := [.val .nilFunc], eqs := [] },
  none,
  some { size := 1, agg := false, kind := .other, zero := [.val .nilFunc], eqs := [] },
  none,
  some { size := 1, agg := false, kind := .other, zero := [.val .nilFunc], eqs := [] },
  some { size := 1, agg := false, kind := .other, zero := [.val .nilFunc], eqs := [] },
  some { size := 1, agg := false, kind := .other, zero := [.val .nilFunc], eqs := [] },
  some { size := 1, agg := false, kind := .other, zero := [.val .nilFunc], eqs := [] },
  some { size := 1, agg := false, kind := .other, zero := [.val .nilFunc], eqs := [] },
  some { size := 1, agg := false, kind := .other, zero := [.val .nilFunc], eqs := [] },
  some { size := 7, agg := true, kind := .arr 7 3 1 false, zero := [.val (.int .i64 0), .val (.int .i64 0), .val (.int .i64 0), .val (.int .i64 0), .val (.int .i64 0), .val (.int .i64 0), .val (.int .i64 0)], eqs := [.int, .int, .int, .int, .int, .int, .int] },
  some { size := 1, agg := false, kind := .other, zero := [.val .nilFunc], eqs := [] },
  some { size := 1, agg := false, kind := .other, zero := [.val .nilFunc], eqs := [] },
  some { size := 1, agg := false, kind := .other, zero := [.val .nilFunc], eqs := [] },
  some { size := 1, agg := false, kind := .other, zero := [.val .nilFunc], eqs := [] },
  some { size := 1, agg := false, kind := .slice 66 2 16 [.val .nilFunc, .val (.int .i64 0)], zero := [.nilsl], eqs := [] },
  some { size := 1, agg := false, kind := .other, zero := [.val .nilFunc], eqs := [] },
  some { size := 1, agg := false, kind := .other, zero := [.val .nilFunc], eqs := [] },
  some { size := 1, agg := false, kind := .other, zero := [.val .nilFunc], eqs := [] },
  some { size := 1, agg := false, kind := .other, zero := [.val .nilFunc], eqs := [] },
  some { size := 1, agg := false, kind := .other, zero := [.val .nilFunc], eqs := [] },
  some { size := 1, agg := false, kind := .other, zero := [.val .nilFunc], eqs := [] },
  some { size := 1, agg := false, kind := .other, zero := [.val .nilFunc], eqs := [] },
  some { size := 1, agg := false, kind := .slice 25 1 24 [.nilsl], zero := [.nilsl], eqs := [] },
  some { size := 1, agg := false, kind := .other, zero := [.val .nilFunc], eqs := [] },
  some { size := 1, agg := false, kind := .slice 44 1 24 [.nilsl], zero := [.nilsl], eqs := [] },
  some { size := 1, agg := false, kind := .other, zero := [.val .nilFunc], eqs := [] },
  some { size := 1, agg := false, kind := .other, zero := [.val .nilFunc], eqs := [] },
  some { size := 1, agg := false, kind := .other, zero := [.val .nilFunc], eqs := [] },
  some { size := 1, agg := false, kind := .other, zero := [.val .nilFunc], eqs := [] },
  some { size := 1, agg := false, kind := .other, zero := [.val .nilFunc], eqs := [] },
  some { size := 1, agg := false, kind := .other, zero := [.val .nilFunc], eqs := [] },
  some { size := 1, agg := false, kind := .other, zero := [.val .nilFunc], eqs := [] },
  some { size := 1, agg := false, kind := .other, zero := [.val .nilFunc], eqs := [] },
  none,
  some { size := 1, agg := false, kind := .other, zero := [.val .nilFunc], eqs := [] },
  some { size := 1, agg := false, kind := .int .u64, zero := [.val (.int .u64 0)], eqs := [] },
  some { size := 1, agg := false, kind := .int .u64, zero := [.val (.int .u64 0)], eqs := [] },
  none,
  some { size := 1, agg := false, kind := .other, zero := [.val .nilFunc], eqs := [] },
  some { size := 1, agg := false, kind := .other, zero := [.val .nilFunc], eqs := [] },
  some { size := 4, agg := true, kind := .struct [(0, 1, false), (1, 1, false), (2, 1, false), (3, 1, false)], zero := [.val (.pointer none), .val (.pointer none), .val (.pointer none), .val (.string { data := { toList := [] } })], eqs := [] },
  some { size := 4, agg := true, kind := .struct [(0, 1, false), (1, 1, false), (2, 1, false), (3, 1, false)], zero := [.val (.pointer none), .val (.pointer none), .val (.pointer none), .val (.string { data := { toList := [] } })], eqs := [] },
  some { size := 0, agg := true, kind := .arr 0 16 1 false, zero := [], eqs := [] },
  some { size := 0, agg := true, kind := .struct [(0, 0, true)], zero := [], eqs := [] },
  some { size := 0, agg := true, kind := .struct [(0, 0, true)], zero := [], eqs := [] },
  some { size := 1, agg := false, kind := .other, zero := [.val .nilFunc], eqs := [] },
  some { size := 1, agg := false, kind := .int .u32, zero := [.val (.int .u32 0)], eqs := [] },
  some { size := 1, agg := false, kind := .int .u8, zero := [.val (.int .u8 0)], eqs := [] },
  some { size := 1, agg := false, kind := .int .u8, zero := [.val (.int .u8 0)], eqs := [] },
  some { size := 1, agg := false, kind := .other, zero := [.val .nilFunc], eqs := [] },
  some { size := 1, agg := false, kind := .other, zero := [.val (.pointer none)], eqs := [] },
  some { size := 1, agg := false, kind := .int .i32, zero := [.val (.int .i32 0)], eqs := [] },
  some { size := 1, agg := false, kind := .int .i32, zero := [.val (.int .i32 0)], eqs := [] },
  some { size := 11, agg := true, kind := .struct [(0, 1, false), (1, 1, false), (2, 1, false), (3, 1, false), (4, 1, false), (5, 1, false), (6, 1, false), (7, 1, false), (8, 1, false), (9, 1, false), (10, 1, false)], zero := [.val (.int .u64 0), .val (.int .u64 0), .val (.int .u32 0), .val (.int .u8 0), .val (.int .u8 0), .val (.int .u8 0), .val (.int .u8 0), .val .nilFunc, .val (.pointer none), .val (.int .i32 0), .val (.int .i32 0)], eqs := [] },
  some { size := 11, agg := true, kind := .struct [(0, 1, false), (1, 1, false), (2, 1, false), (3, 1, false), (4, 1, false), (5, 1, false), (6, 1, false), (7, 1, false), (8, 1, false), (9, 1, false), (10, 1, false)], zero := [.val (.int .u64 0), .val (.int .u64 0), .val (.int .u32 0), .val (.int .u8 0), .val (.int .u8 0), .val (.int .u8 0), .val (.int .u8 0), .val .nilFunc, .val (.pointer none), .val (.int .i32 0), .val (.int .i32 0)], eqs := [] },
  some { size := 1, agg := false, kind := .other, zero := [.val (.pointer none)], eqs := [] }]
theorem typeTab_ok : typeTab = tabOf Try.prog := by kernel_rfl
end Go.Proofs.Ytnjopfjmepbpoaa

/- Walks over pure states. -/
namespace Go.Proofs.Ytnjopfjmepbpoaa
set_option linter.unusedSimpArgs false
set_option linter.unusedVariables false
set_option linter.unnecessarySimpa false
open Go.RowKit
theorem PW.condT {P : Program} {M : Nat} {Q : Exit → PS → Prop} {σ : PS} {c : Operand} {x y : Code} (hc : pev σ c = .val (.bool true)) (h : PW P M x Q σ) : PW P M (.cond c x y) Q σ := PW.cond hc (fun _ => h) (fun e => by cases e)
theorem PW.condF {P : Program} {M : Nat} {Q : Exit → PS → Prop} {σ : PS} {c : Operand} {x y : Code} (hc : pev σ c = .val (.bool false)) (h : PW P M y Q σ) : PW P M (.cond c x y) Q σ := PW.cond hc (fun e => by cases e) (fun _ => h)

set_option maxRecDepth 10000 in
set_option maxHeartbeats 1000000 in
theorem pw_equalI (l r : List Int) (hl : l.length ≤ 1000000000000) (hr : r.length ≤ 1000000000000) : PCalls Try.prog 56 [pints l, pints r] (· = pbool (decide (l = r))) := by
  refine pcalls_of_pw typeTab_ok Try.func56 rfl (by kernel_rfl) (by simp [low_pints]) (by simp [pints, PV.ownB]) (by rw [Try.ntmps56]; simp) ?_
  rw [Try.ntmps56, Try.results56]
  by_cases hlen : l.length = r.length
  · (repeat (first | (with_reducible first | refine PW.seq ?_ | refine PW.block ?_ | refine PW.skip ?_ | refine PW.exit ?_ | refine PW.ret ?_ | refine thenP ?_ | refine thenP_exit ?_ | refine thenP_ret ?_ | refine blockP ?_ | refine blockP_exit ?_ | refine blockP_ret ?_ | refine loopP_exit ?_ | refine loopP_ret ?_) | (first | refine PW.region typeTab_ok (by kernel_rfl) ?_ | refine PW.draw typeTab_ok (by kernel_rfl) (by kernel_rfl) (by kernel_rfl) ?_ | refine PW.condT rfl ?_ | refine PW.condF rfl ?_ | refine blockP_other (by decide) ?_) | (first | refine PWops.done ?_ | refine PWops.pass rfl rfl ?_ | refine PWops.boolK true rfl rfl rfl rfl (by (first | rfl | assumption | (simp only [decide_eq_true_eq, decide_eq_false_iff_not, bne_iff_ne, beq_iff_eq, beq_eq_false_iff_ne, bne_eq_false_iff_eq, ne_eq] ; omega))) rfl ?_ | refine PWops.boolK false rfl rfl rfl rfl (by (first | rfl | assumption | (simp only [decide_eq_true_eq, decide_eq_false_iff_not, bne_iff_ne, beq_iff_eq, beq_eq_false_iff_ne, bne_eq_false_iff_eq, ne_eq] ; omega))) rfl ?_ | refine PWops.fitsK rfl rfl rfl rfl (by omega) (by omega) rfl ?_ | refine PWops.lit rfl rfl rfl rfl rfl ?_ | refine PWops.app rfl rfl rfl rfl rfl rfl rfl (by omega) (by omega) (by first | rfl | exact one_pint _ | exact one_pstr _ | exact one_pbyte _ | exact one_pattrs _) ?_ | refine PWops.app0 rfl rfl rfl rfl rfl rfl rfl (by omega) (by omega) (by first | rfl | exact one_pint _ | exact one_pstr _ | exact one_pbyte _ | exact one_pattrs _) ?_ | refine PWops.idx1 rfl rfl rfl rfl rfl rfl rfl rfl (by omega) ?_ | refine PWops.idx rfl rfl rfl rfl rfl rfl rfl rfl (by omega) ?_ | refine PWops.val rfl rfl rfl rfl ?_ | refine PWops.own rfl rfl rfl rfl rfl ?_ | refine PWops.var rfl rfl rfl rfl ?_ | refine PWops.store rfl rfl rfl rfl ?_ | refine PWops.storeO rfl rfl rfl rfl rfl ?_ | refine PWops.ld rfl rfl rfl rfl rfl rfl rfl (by assumption) rfl ?_ | refine PWops.ldA rfl rfl rfl rfl rfl rfl (by omega) (by assumption) ?_ | refine PWops.str rfl rfl rfl rfl rfl rfl rfl rfl rfl rfl rfl ?_)))
    refine PW.loop (fun k : Nat => ((((bot.put 0 (pints l)).put 1 (pints r)).put 4 (pbool false)).put 12 (pint l.length)).put 13 (pint k)) (fun k => k ≤ l.length ∧ l.take k = r.take k) (fun k => l.length - k) 0 ⟨by omega, by simp⟩ ?_ ?_
    · (refine Sub.nobox (fun _ => rfl) (fun _ => rfl) ?_ ; (repeat (first | exact sub_bot | refine sub_put ?_ (.inl rfl) | refine sub_put ?_ (.inr (.inl rfl)) | refine sub_put ?_ (.inr (.inr ⟨_, _, rfl, rfl⟩)))))
    · rintro k ⟨hk, heq⟩
      by_cases hlt : k < l.length
      · obtain ⟨x, hx⟩ := ints_get l k hlt
        obtain ⟨y, hy⟩ := ints_get r k (by omega)
        have hx' := map_get (f := pint) hx
        have hy' := map_get (f := pint) hy
        by_cases hxy : x = y
        · (repeat (first | (with_reducible first | refine PW.seq ?_ | refine PW.block ?_ | refine PW.skip ?_ | refine PW.exit ?_ | refine PW.ret ?_ | refine thenP ?_ | refine thenP_exit ?_ | refine thenP_ret ?_ | refine blockP ?_ | refine blockP_exit ?_ | refine blockP_ret ?_ | refine loopP_exit ?_ | refine loopP_ret ?_) | (first | refine PW.region typeTab_ok (by kernel_rfl) ?_ | refine PW.draw typeTab_ok (by kernel_rfl) (by kernel_rfl) (by kernel_rfl) ?_ | refine PW.condT rfl ?_ | refine PW.condF rfl ?_ | refine blockP_other (by decide) ?_) | (first | refine PWops.done ?_ | refine PWops.pass rfl rfl ?_ | refine PWops.boolK true rfl rfl rfl rfl (by (first | rfl | assumption | (simp only [decide_eq_true_eq, decide_eq_false_iff_not, bne_iff_ne, beq_iff_eq, beq_eq_false_iff_ne, bne_eq_false_iff_eq, ne_eq] ; omega))) rfl ?_ | refine PWops.boolK false rfl rfl rfl rfl (by (first | rfl | assumption | (simp only [decide_eq_true_eq, decide_eq_false_iff_not, bne_iff_ne, beq_iff_eq, beq_eq_false_iff_ne, bne_eq_false_iff_eq, ne_eq] ; omega))) rfl ?_ | refine PWops.fitsK rfl rfl rfl rfl (by omega) (by omega) rfl ?_ | refine PWops.lit rfl rfl rfl rfl rfl ?_ | refine PWops.app rfl rfl rfl rfl rfl rfl rfl (by omega) (by omega) (by first | rfl | exact one_pint _ | exact one_pstr _ | exact one_pbyte _ | exact one_pattrs _) ?_ | refine PWops.app0 rfl rfl rfl rfl rfl rfl rfl (by omega) (by omega) (by first | rfl | exact one_pint _ | exact one_pstr _ | exact one_pbyte _ | exact one_pattrs _) ?_ | refine PWops.idx1 rfl rfl rfl rfl rfl rfl rfl rfl (by omega) ?_ | refine PWops.idx rfl rfl rfl rfl rfl rfl rfl rfl (by omega) ?_ | refine PWops.val rfl rfl rfl rfl ?_ | refine PWops.own rfl rfl rfl rfl rfl ?_ | refine PWops.var rfl rfl rfl rfl ?_ | refine PWops.store rfl rfl rfl rfl ?_ | refine PWops.storeO rfl rfl rfl rfl rfl ?_ | refine PWops.ld rfl rfl rfl rfl rfl rfl rfl (by assumption) rfl ?_ | refine PWops.ldA rfl rfl rfl rfl rfl rfl (by omega) (by assumption) ?_ | refine PWops.str rfl rfl rfl rfl rfl rfl rfl rfl rfl rfl rfl ?_)))
          refine loopP (k + 1) ⟨by omega, ?_⟩ (by omega) ?_
          · rw [List.take_add_one, List.take_add_one, heq, hx, hy, hxy]
          · (refine Sub.nobox (fun _ => rfl) (fun _ => rfl) ?_ ; (repeat (first | exact sub_bot | refine sub_put ?_ (.inl rfl) | refine sub_put ?_ (.inr (.inl rfl)) | refine sub_put ?_ (.inr (.inr ⟨_, _, rfl, rfl⟩)))))
        · (repeat (first | (with_reducible first | refine PW.seq ?_ | refine PW.block ?_ | refine PW.skip ?_ | refine PW.exit ?_ | refine PW.ret ?_ | refine thenP ?_ | refine thenP_exit ?_ | refine thenP_ret ?_ | refine blockP ?_ | refine blockP_exit ?_ | refine blockP_ret ?_ | refine loopP_exit ?_ | refine loopP_ret ?_) | (first | refine PW.region typeTab_ok (by kernel_rfl) ?_ | refine PW.draw typeTab_ok (by kernel_rfl) (by kernel_rfl) (by kernel_rfl) ?_ | refine PW.condT rfl ?_ | refine PW.condF rfl ?_ | refine blockP_other (by decide) ?_) | (first | refine PWops.done ?_ | refine PWops.pass rfl rfl ?_ | refine PWops.boolK true rfl rfl rfl rfl (by (first | rfl | assumption | (simp only [decide_eq_true_eq, decide_eq_false_iff_not, bne_iff_ne, beq_iff_eq, beq_eq_false_iff_ne, bne_eq_false_iff_eq, ne_eq] ; omega))) rfl ?_ | refine PWops.boolK false rfl rfl rfl rfl (by (first | rfl | assumption | (simp only [decide_eq_true_eq, decide_eq_false_iff_not, bne_iff_ne, beq_iff_eq, beq_eq_false_iff_ne, bne_eq_false_iff_eq, ne_eq] ; omega))) rfl ?_ | refine PWops.fitsK rfl rfl rfl rfl (by omega) (by omega) rfl ?_ | refine PWops.lit rfl rfl rfl rfl rfl ?_ | refine PWops.app rfl rfl rfl rfl rfl rfl rfl (by omega) (by omega) (by first | rfl | exact one_pint _ | exact one_pstr _ | exact one_pbyte _ | exact one_pattrs _) ?_ | refine PWops.app0 rfl rfl rfl rfl rfl rfl rfl (by omega) (by omega) (by first | rfl | exact one_pint _ | exact one_pstr _ | exact one_pbyte _ | exact one_pattrs _) ?_ | refine PWops.idx1 rfl rfl rfl rfl rfl rfl rfl rfl (by omega) ?_ | refine PWops.idx rfl rfl rfl rfl rfl rfl rfl rfl (by omega) ?_ | refine PWops.val rfl rfl rfl rfl ?_ | refine PWops.own rfl rfl rfl rfl rfl ?_ | refine PWops.var rfl rfl rfl rfl ?_ | refine PWops.store rfl rfl rfl rfl ?_ | refine PWops.storeO rfl rfl rfl rfl rfl ?_ | refine PWops.ld rfl rfl rfl rfl rfl rfl rfl (by assumption) rfl ?_ | refine PWops.ldA rfl rfl rfl rfl rfl rfl (by omega) (by assumption) ?_ | refine PWops.str rfl rfl rfl rfl rfl rfl rfl rfl rfl rfl rfl ?_)))
          refine retP rfl (by (first | exact low_mapI | exact low_mapS | exact low_mapB | simp [low_val, low_nilsl, low_sl, low_ep, low_agg, low_tup, low_fn, low_pint, low_pstr, low_pbool, low_pints, low_pstrs, low_pbyte, low_pbytes, low_pattrs, low_pdefs, low_pschema, low_pentry])) ?_
          have : l ≠ r := by rintro rfl; rw [hx] at hy; simp at hy; exact hxy hy
          simp [pbool, this]
      · (repeat (first | (with_reducible first | refine PW.seq ?_ | refine PW.block ?_ | refine PW.skip ?_ | refine PW.exit ?_ | refine PW.ret ?_ | refine thenP ?_ | refine thenP_exit ?_ | refine thenP_ret ?_ | refine blockP ?_ | refine blockP_exit ?_ | refine blockP_ret ?_ | refine loopP_exit ?_ | refine loopP_ret ?_) | (first | refine PW.region typeTab_ok (by kernel_rfl) ?_ | refine PW.draw typeTab_ok (by kernel_rfl) (by kernel_rfl) (by kernel_rfl) ?_ | refine PW.condT rfl ?_ | refine PW.condF rfl ?_ | refine blockP_other (by decide) ?_) | (first | refine PWops.done ?_ | refine PWops.pass rfl rfl ?_ | refine PWops.boolK true rfl rfl rfl rfl (by (first | rfl | assumption | (simp only [decide_eq_true_eq, decide_eq_false_iff_not, bne_iff_ne, beq_iff_eq, beq_eq_false_iff_ne, bne_eq_false_iff_eq, ne_eq] ; omega))) rfl ?_ | refine PWops.boolK false rfl rfl rfl rfl (by (first | rfl | assumption | (simp only [decide_eq_true_eq, decide_eq_false_iff_not, bne_iff_ne, beq_iff_eq, beq_eq_false_iff_ne, bne_eq_false_iff_eq, ne_eq] ; omega))) rfl ?_ | refine PWops.fitsK rfl rfl rfl rfl (by omega) (by omega) rfl ?_ | refine PWops.lit rfl rfl rfl rfl rfl ?_ | refine PWops.app rfl rfl rfl rfl rfl rfl rfl (by omega) (by omega) (by first | rfl | exact one_pint _ | exact one_pstr _ | exact one_pbyte _ | exact one_pattrs _) ?_ | refine PWops.app0 rfl rfl rfl rfl rfl rfl rfl (by omega) (by omega) (by first | rfl | exact one_pint _ | exact one_pstr _ | exact one_pbyte _ | exact one_pattrs _) ?_ | refine PWops.idx1 rfl rfl rfl rfl rfl rfl rfl rfl (by omega) ?_ | refine PWops.idx rfl rfl rfl rfl rfl rfl rfl rfl (by omega) ?_ | refine PWops.val rfl rfl rfl rfl ?_ | refine PWops.own rfl rfl rfl rfl rfl ?_ | refine PWops.var rfl rfl rfl rfl ?_ | refine PWops.store rfl rfl rfl rfl ?_ | refine PWops.storeO rfl rfl rfl rfl rfl ?_ | refine PWops.ld rfl rfl rfl rfl rfl rfl rfl (by assumption) rfl ?_ | refine PWops.ldA rfl rfl rfl rfl rfl rfl (by omega) (by assumption) ?_ | refine PWops.str rfl rfl rfl rfl rfl rfl rfl rfl rfl rfl rfl ?_)))
        refine retP rfl (by (first | exact low_mapI | exact low_mapS | exact low_mapB | simp [low_val, low_nilsl, low_sl, low_ep, low_agg, low_tup, low_fn, low_pint, low_pstr, low_pbool, low_pints, low_pstrs, low_pbyte, low_pbytes, low_pattrs, low_pdefs, low_pschema, low_pentry])) ?_
        have : l = r := by rw [List.take_of_length_le (by omega), List.take_of_length_le (by omega)] at heq; exact heq
        simp [pbool, this]
  · (repeat (first | (with_reducible first | refine PW.seq ?_ | refine PW.block ?_ | refine PW.skip ?_ | refine PW.exit ?_ | refine PW.ret ?_ | refine thenP ?_ | refine thenP_exit ?_ | refine thenP_ret ?_ | refine blockP ?_ | refine blockP_exit ?_ | refine blockP_ret ?_ | refine loopP_exit ?_ | refine loopP_ret ?_) | (first | refine PW.region typeTab_ok (by kernel_rfl) ?_ | refine PW.draw typeTab_ok (by kernel_rfl) (by kernel_rfl) (by kernel_rfl) ?_ | refine PW.condT rfl ?_ | refine PW.condF rfl ?_ | refine blockP_other (by decide) ?_) | (first | refine PWops.done ?_ | refine PWops.pass rfl rfl ?_ | refine PWops.boolK true rfl rfl rfl rfl (by (first | rfl | assumption | (simp only [decide_eq_true_eq, decide_eq_false_iff_not, bne_iff_ne, beq_iff_eq, beq_eq_false_iff_ne, bne_eq_false_iff_eq, ne_eq] ; omega))) rfl ?_ | refine PWops.boolK false rfl rfl rfl rfl (by (first | rfl | assumption | (simp only [decide_eq_true_eq, decide_eq_false_iff_not, bne_iff_ne, beq_iff_eq, beq_eq_false_iff_ne, bne_eq_false_iff_eq, ne_eq] ; omega))) rfl ?_ | refine PWops.fitsK rfl rfl rfl rfl (by omega) (by omega) rfl ?_ | refine PWops.lit rfl rfl rfl rfl rfl ?_ | refine PWops.app rfl rfl rfl rfl rfl rfl rfl (by omega) (by omega) (by first | rfl | exact one_pint _ | exact one_pstr _ | exact one_pbyte _ | exact one_pattrs _) ?_ | refine PWops.app0 rfl rfl rfl rfl rfl rfl rfl (by omega) (by omega) (by first | rfl | exact one_pint _ | exact one_pstr _ | exact one_pbyte _ | exact one_pattrs _) ?_ | refine PWops.idx1 rfl rfl rfl rfl rfl rfl rfl rfl (by omega) ?_ | refine PWops.idx rfl rfl rfl rfl rfl rfl rfl rfl (by omega) ?_ | refine PWops.val rfl rfl rfl rfl ?_ | refine PWops.own rfl rfl rfl rfl rfl ?_ | refine PWops.var rfl rfl rfl rfl ?_ | refine PWops.store rfl rfl rfl rfl ?_ | refine PWops.storeO rfl rfl rfl rfl rfl ?_ | refine PWops.ld rfl rfl rfl rfl rfl rfl rfl (by assumption) rfl ?_ | refine PWops.ldA rfl rfl rfl rfl rfl rfl (by omega) (by assumption) ?_ | refine PWops.str rfl rfl rfl rfl rfl rfl rfl rfl rfl rfl rfl ?_)))
    refine retP rfl (by (first | exact low_mapI | exact low_mapS | exact low_mapB | simp [low_val, low_nilsl, low_sl, low_ep, low_agg, low_tup, low_fn, low_pint, low_pstr, low_pbool, low_pints, low_pstrs, low_pbyte, low_pbytes, low_pattrs, low_pdefs, low_pschema, low_pentry])) ?_
    have : l ≠ r := by rintro rfl; exact hlen rfl
    simp [pbool, this]
end Go.Proofs.Ytnjopfjmepbpoaa

/- Walks: Fits of attr. -/
namespace Go.Proofs.Ytnjopfjmepbpoaa
set_option linter.unusedSimpArgs false
set_option linter.unusedVariables false
set_option linter.unnecessarySimpa false
open Go.RowKit

theorem fits1 (g : Nat) (d : PDef) (wv : Value) (a : PAttr) (w : World) (c5 : w.cell? ⟨g, 0, none⟩ = some (.string a.name)) :
    Calls Try.prog 31 #[defV d wv, .pointer (some ⟨g, 0, none⟩)] w (RetB w (eqB d.name a.name)) := by
  have hlt := World.block_lt_of_cell? _ _ c5
  unfold defV
  go_enter Try.func31, Try.ntmps31
  go_wp2
  go_ret
  exact RetB.mk rfl (below_alloc _ _)

theorem fits2 (g h : Nat) (a : PAttr) (bf : ByteArray) (w : World) (ha : AttrAt w g 0 a) (c5 : w.cell? ⟨h, 0, none⟩ = some (.string bf)) :
    Calls Try.prog 33 #[.pointer (some ⟨g, 0, none⟩), .pointer (some ⟨h, 0, none⟩)] w (RetB w (leqB a.name bf)) := by
  obtain ⟨c0, c1, c2, c3⟩ := ha
  go_enter Try.func33, Try.ntmps33
  go_wp2
  go_ret
  exact RetB.mk rfl (Below.refl _ _)

theorem fits3 (g h : Nat) (a : PAttr) (d : PDef) (wv : Value) (w : World) (ha : AttrAt w g 0 a) (hd : DefAt w h 0 d wv) :
    Calls Try.prog 34 #[.pointer (some ⟨g, 0, none⟩), .pointer (some ⟨h, 0, none⟩)] w (RetB w (a.kind != d.kind)) := by
  obtain ⟨c0, c1, c2, c3⟩ := ha
  obtain ⟨d0, d1, d2, d3, d4⟩ := hd
  go_enter Try.func34, Try.ntmps34
  go_wp2
  go_ret
  exact RetB.mk rfl (Below.refl _ _)

def formA (a : PAttr) : Bool := if a.kind == 1 then !a.s.toList.isEmpty else a.n != 0
def rangeA (d : PDef) (a : PAttr) : Bool := (a.kind == 1) && (decide (a.n < d.lo) || decide (d.hi < a.n))
def wordA (d : PDef) (a : PAttr) : Bool := !(a.kind == 1) && !hasB d.words a.s

theorem fits4 (g h : Nat) (a : PAttr) (w : World) (ha : AttrAt w g 0 a) (c5 : w.cell? ⟨h, 0, none⟩ = some (.bool (a.kind == 1))) :
    Calls Try.prog 35 #[.pointer (some ⟨h, 0, none⟩), .pointer (some ⟨g, 0, none⟩)] w (RetB w (formA a)) := by
  obtain ⟨c0, c1, c2, c3⟩ := ha
  unfold formA
  cases e : (a.kind == 1)
  · rw [e] at c5
    go_enter Try.func35, Try.ntmps35
    go_wp2
    go_ret
    exact RetB.mk (by simp) (Below.refl _ _)
  · rw [e] at c5
    cases e2 : a.s.toList.isEmpty
    all_goals
      go_enter Try.func35, Try.ntmps35
      go_wp2
      go_ret
      exact RetB.mk (by simp_all) (Below.refl _ _)

theorem fits5 (g h k : Nat) (a : PAttr) (d : PDef) (wv : Value) (w : World) (ha : AttrAt w g 0 a) (hd : DefAt w k 0 d wv) (c5 : w.cell? ⟨h, 0, none⟩ = some (.bool (a.kind == 1))) :
    Calls Try.prog 36 #[.pointer (some ⟨h, 0, none⟩), .pointer (some ⟨g, 0, none⟩), .pointer (some ⟨k, 0, none⟩)] w (RetB w (rangeA d a)) := by
  obtain ⟨c0, c1, c2, c3⟩ := ha
  obtain ⟨d0, d1, d2, d3, d4⟩ := hd
  unfold rangeA
  cases e : (a.kind == 1)
  · rw [e] at c5
    go_enter Try.func36, Try.ntmps36
    go_wp2
    go_ret
    exact RetB.mk (by simp) (Below.refl _ _)
  · rw [e] at c5
    cases e2 : decide (a.n < d.lo)
    all_goals
      go_enter Try.func36, Try.ntmps36
      go_wp2
      go_ret
      exact RetB.mk (by simp) (Below.refl _ _)

theorem fits6 (g h k : Nat) (a : PAttr) (d : PDef) (wv : Value) (w : World) (ha : AttrAt w g 0 a) (hd : DefAt w k 0 d wv) (hs : Strs w wv d.words) (hl : d.words.length ≤ 1000) (c5 : w.cell? ⟨h, 0, none⟩ = some (.bool (a.kind == 1))) :
    Calls Try.prog 37 #[.pointer (some ⟨h, 0, none⟩), .pointer (some ⟨k, 0, none⟩), .pointer (some ⟨g, 0, none⟩)] w (RetB w (wordA d a)) := by
  have HS := Lib.hid hs
  obtain ⟨c0, c1, c2, c3⟩ := ha
  obtain ⟨d0, d1, d2, d3, d4⟩ := hd
  clear hs
  unfold wordA
  cases e : (a.kind == 1)
  · rw [e] at c5
    go_enter Try.func37, Try.ntmps37
    go_wp2_with fail
    refine (slicesContainsS _ d.words a.s _ HS.out (by omega)).mono ?_
    rintro e w' ⟨rfl, rfl⟩
    go_wp2
    go_ret
    exact RetB.mk (by simp) (Below.refl _ _)
  · rw [e] at c5
    go_enter Try.func37, Try.ntmps37
    go_wp2
    go_ret
    exact RetB.mk (by simp) (Below.refl _ _)

theorem cF1 : CallOk 31 := fun _ _ => by kernel_rfl
theorem cF2 : CallOk 33 := fun _ _ => by kernel_rfl
theorem cF3 : CallOk 34 := fun _ _ => by kernel_rfl
theorem cF4 : CallOk 35 := fun _ _ => by kernel_rfl
theorem cF5 : CallOk 36 := fun _ _ => by kernel_rfl
theorem cF6 : CallOk 37 := fun _ _ => by kernel_rfl

/-- What the rules of an attribute find: the attribute, the name before, the definition, whether it is a number. -/
structure EnvF (a : PAttr) (d : PDef) (wv : Value) (bf : ByteArray) (g h k q : Nat) (w : World) : Prop where
  at_ : AttrAt w g 0 a
  bf : w.cell? ⟨h, 0, none⟩ = some (.string bf)
  df : DefAt w k 0 d wv
  ws : Strs w wv d.words
  nm : w.cell? ⟨q, 0, none⟩ = some (.bool (a.kind == 1))
theorem EnvF.below {a : PAttr} {d : PDef} {wv : Value} {bf : ByteArray} {g h k q : Nat} {w w' : World} (e : EnvF a d wv bf g h k q w) (hb : Below w.heap.size w w') : EnvF a d wv bf g h k q w' :=
  ⟨e.at_.below hb, below_cell hb e.bf, e.df.below hb, e.ws.below hb, below_cell hb e.nm⟩

def rulesF (a : PAttr) (d : PDef) (bf : ByteArray) (g h k q : Nat) : List Rule := [⟨33, #[.pointer (some ⟨g, 0, none⟩), .pointer (some ⟨h, 0, none⟩)], leqB a.name bf, 6⟩,
  ⟨34, #[.pointer (some ⟨g, 0, none⟩), .pointer (some ⟨k, 0, none⟩)], a.kind != d.kind, 130⟩,
  ⟨35, #[.pointer (some ⟨q, 0, none⟩), .pointer (some ⟨g, 0, none⟩)], formA a, 3⟩,
  ⟨36, #[.pointer (some ⟨q, 0, none⟩), .pointer (some ⟨g, 0, none⟩), .pointer (some ⟨k, 0, none⟩)], rangeA d a, 131⟩,
  ⟨37, #[.pointer (some ⟨q, 0, none⟩), .pointer (some ⟨k, 0, none⟩), .pointer (some ⟨g, 0, none⟩)], wordA d a, 131⟩]

def fitR (d : PDef) (bf : ByteArray) (a : PAttr) : List (Bool × Int) := [(leqB a.name bf, 6), (a.kind != d.kind, 130), (formA a, 3), (rangeA d a, 131), (wordA d a, 131)]

theorem runF {a : PAttr} {d : PDef} {wv : Value} {bf : ByteArray} {g h k q : Nat} {w : World} (e : EnvF a d wv bf g h k q w) (hl : d.words.length ≤ 1000) (v : Value) (hv : Rules w v (rulesF a d bf g h k q)) :
    Calls Try.prog 32 #[v] w (RetI w (firstE (fitR d bf a))) := by
  refine attrFirst v (rulesF a d bf g h k q) w hv (Nat.le_of_ble_eq_true rfl) ?_ ?_
  · intro r hr
    simp only [rulesF, List.mem_cons, List.not_mem_nil, or_false] at hr
    rcases hr with rfl | rfl | rfl | rfl | rfl
    · exact cF2
    · exact cF3
    · exact cF4
    · exact cF5
    · exact cF6
  · intro r hr w' hb
    have e' := e.below hb
    simp only [rulesF, List.mem_cons, List.not_mem_nil, or_false] at hr
    rcases hr with rfl | rfl | rfl | rfl | rfl
    · exact fits2 g h a bf w' e'.at_ e'.bf
    · exact fits3 g k a d wv w' e'.at_ e'.df
    · exact fits4 g q a w' e'.at_ e'.nm
    · exact fits5 g q k a d wv w' e'.at_ e'.df e'.nm
    · exact fits6 g q k a d wv w' e'.at_ e'.df e'.ws hl e'.nm

/-- The rules say what the specification says. -/
theorem fitR_eq (d : PDef) (bf : ByteArray) (a : PAttr) : firstE (fitR d bf a) = if leqB a.name bf then 6 else valueE d a := by
  have he := eqB_empty a.s
  unfold fitR firstE
  cases leqB a.name bf
  · simp only [Bool.false_eq_true, if_false]
    unfold firstE valueE
    by_cases h1 : a.kind = d.kind
    · by_cases h2 : a.kind = 1
      · have e2 : (a.kind == 1) = true := by simp [h2]
        rw [if_neg (show ¬ (a.kind != d.kind) = true by simp [h1]), if_neg (show ¬ a.kind ≠ d.kind from fun h => h h1), if_pos h2]
        simp only [firstE, formA, rangeA, wordA, e2, if_true, Bool.true_and, Bool.not_true, Bool.false_and, Bool.false_eq_true, if_false, he]
        cases a.s.toList.isEmpty
        · simp
        · simp
      · have e2 : (a.kind == 1) = false := by simp [h2]
        rw [if_neg (show ¬ (a.kind != d.kind) = true by simp [h1]), if_neg (show ¬ a.kind ≠ d.kind from fun h => h h1), if_neg h2]
        simp only [firstE, formA, rangeA, wordA, e2, Bool.false_eq_true, if_false, Bool.false_and, Bool.not_false, Bool.true_and]
        by_cases h3 : a.n = 0
        · simp [h3]; cases hasB d.words a.s <;> simp
        · simp [h3]
    · rw [if_pos (show (a.kind != d.kind) = true by simp [h1]), if_pos h1]
  · rfl

theorem fitsGo_drop (ds : List PDef) (l : List PAttr) (k : Nat) (b : ByteArray) (a : PAttr) (h : l[k]? = some a) : fitsGo ds b false (l.drop k) = if fitE ds b false a ≠ 0 then fitE ds b false a else fitsGo ds a.name false (l.drop (k+1)) := by
  obtain ⟨hk, rfl⟩ := List.getElem?_eq_some_iff.1 h
  rw [List.drop_eq_getElem_cons (by omega), fitsGo]
theorem fitsGo_end (ds : List PDef) (l : List PAttr) (k : Nat) (b : ByteArray) (f : Bool) (h : l.length ≤ k) : fitsGo ds b f (l.drop k) = 0 := by
  rw [List.drop_eq_nil_of_le h, fitsGo]

theorem fitE_none (ds : List PDef) (b : ByteArray) (f : Bool) (a : PAttr) (h : findI ds a.name < 0) : fitE ds b f a = 5 := by rw [fitE, if_pos h]
theorem fitE_some (ds : List PDef) (b : ByteArray) (a : PAttr) (k : Nat) (d : PDef) (h : findI ds a.name = k) (hd : ds[k]? = some d) : fitE ds b false a = firstE (fitR d b a) := by
  rw [fitE, if_neg (by omega), fitR_eq, h, Int.toNat_natCast, hd]; rfl

end Go.Proofs.Ytnjopfjmepbpoaa

/- Walks: Fits of attr. -/
namespace Go.Proofs.Ytnjopfjmepbpoaa
set_option linter.unusedSimpArgs false
set_option linter.unusedVariables false
set_option linter.unnecessarySimpa false
open Go.RowKit

theorem findI_cases (ds : List PDef) (nm : ByteArray) : findI ds nm = -1 ∨ ∃ (k : Nat) (d : PDef), findI ds nm = k ∧ ds[k]? = some d := by
  by_cases h : findI ds nm < 0
  · left; have := idxB_ge (ds.map fun d => eqB d.name nm); unfold findI at *; omega
  · right
    have h1 := idxB_lt (ds.map fun d => eqB d.name nm) (by unfold findI at h; omega)
    rw [List.length_map] at h1
    refine ⟨(findI ds nm).toNat, ds[(findI ds nm).toNat]'(by unfold findI at *; omega), by omega, by simp⟩

theorem EnvF.box1 {a : PAttr} {d : PDef} {wv : Value} {bf : ByteArray} {g h : Nat} {w : World} (ha : AttrAt w g 0 a) (hb : w.cell? ⟨h, 0, none⟩ = some (.string bf)) (hs : Strs w wv d.words) (o : Obj) :
    EnvF a d wv bf g h w.heap.size (w.heap.size + 1) (((w.alloc (.cells #[.string d.name, .int .i64 d.kind, .int .i64 d.lo, .int .i64 d.hi, wv] 53)).alloc (.cells #[.bool (a.kind == 1)] 4)).alloc o) := by
  refine EnvF.below ⟨ha.below (below_two _ _ _), below_cell (below_two _ _ _) hb, (DefAt.box w d wv _).below (below_alloc _ _), hs.below (below_two _ _ _), ?_⟩ (below_alloc _ _)
  simp
theorem EnvF.box2 {a : PAttr} {d : PDef} {wv : Value} {bf : ByteArray} {g h : Nat} {w : World} (ha : AttrAt w g 0 a) (hb : w.cell? ⟨h, 0, none⟩ = some (.string bf)) (hs : Strs w wv d.words) (o : Obj) :
    EnvF a d wv bf g h (w.heap.size + 1) w.heap.size (((w.alloc (.cells #[.bool (a.kind == 1)] 4)).alloc (.cells #[.string d.name, .int .i64 d.kind, .int .i64 d.lo, .int .i64 d.hi, wv] 53)).alloc o) := by
  refine EnvF.below ⟨ha.below (below_two _ _ _), below_cell (below_two _ _ _) hb, ?_, hs.below (below_two _ _ _), below_cell (below_alloc _ _) (by simp)⟩ (below_alloc _ _)
  have := DefAt.box (w.alloc (.cells #[.bool (a.kind == 1)] 4)) d wv 53
  simpa using this

theorem below_drew1 {w w' : World} (h : Below w.heap.size w w') : Below w.heap.size w w'.drew := h.drew
theorem EnvF.drew {a : PAttr} {d : PDef} {wv : Value} {bf : ByteArray} {g h k q : Nat} {w : World} (e : EnvF a d wv bf g h k q w) : EnvF a d wv bf g h k q w.drew := e.below ((Below.refl _ _).drew)
theorem Rules.drew {w : World} {v : Value} {rs : List Rule} (h : Rules w v rs) : Rules w.drew v rs := h

theorem runF1 {a : PAttr} {d : PDef} {wv : Value} {bf : ByteArray} {g h n : Nat} {T : TypeId} {cs : Array Value} {w : World} (ha : AttrAt w g 0 a) (hb : w.cell? ⟨h, 0, none⟩ = some (.string bf)) (hs : Strs w wv d.words) (hl : d.words.length ≤ 1000)
    (hn : n = w.heap.size + 1 + 1) (hcs : cs = ((rulesF a d bf g h w.heap.size (w.heap.size + 1)).map ruleC).flatten.toArray) :
    Calls Try.prog 32 #[.slice (some ⟨n, 0, none⟩) 5 5] (((w.alloc (.cells #[.string d.name, .int .i64 d.kind, .int .i64 d.lo, .int .i64 d.hi, wv] 53)).alloc (.cells #[.bool (a.kind == 1)] 4)).alloc (.cells cs T)).drew (RetI w (firstE (fitR d bf a))) := by
  refine (runF ((EnvF.box1 ha hb hs _).drew) hl _ (Rules.drew (Rules.mk (rulesF a d bf _ _ _ _) (Nat.le_of_ble_eq_true rfl) (by simp [hn]) rfl hcs))).mono ?_
  rintro e w' ⟨rfl, hb'⟩
  exact ⟨rfl, blift (below_drew1 (below_three _ _ _ _)) hb'⟩
theorem runF2 {a : PAttr} {d : PDef} {wv : Value} {bf : ByteArray} {g h n : Nat} {T : TypeId} {cs : Array Value} {w : World} (ha : AttrAt w g 0 a) (hb : w.cell? ⟨h, 0, none⟩ = some (.string bf)) (hs : Strs w wv d.words) (hl : d.words.length ≤ 1000)
    (hn : n = w.heap.size + 1 + 1) (hcs : cs = ((rulesF a d bf g h (w.heap.size + 1) w.heap.size).map ruleC).flatten.toArray) :
    Calls Try.prog 32 #[.slice (some ⟨n, 0, none⟩) 5 5] (((w.alloc (.cells #[.bool (a.kind == 1)] 4)).alloc (.cells #[.string d.name, .int .i64 d.kind, .int .i64 d.lo, .int .i64 d.hi, wv] 53)).alloc (.cells cs T)).drew (RetI w (firstE (fitR d bf a))) := by
  refine (runF ((EnvF.box2 ha hb hs _).drew) hl _ (Rules.drew (Rules.mk (rulesF a d bf _ _ _ _) (Nat.le_of_ble_eq_true rfl) (by simp [hn]) rfl hcs))).mono ?_
  rintro e w' ⟨rfl, hb'⟩
  exact ⟨rfl, blift (below_drew1 (below_three _ _ _ _)) hb'⟩

set_option maxRecDepth 100000 in
set_option maxHeartbeats 1000000 in
theorem attrFits (v u : Value) (s : PSchema) (l : List PAttr) (w : World) (hv : SchemaV w v s) (hu : Attrs w u l) (hsm : SmallS s) (hl : l.length ≤ 1000000) :
    Calls Try.prog 13 #[v, u] w (RetI w (fitsGo s.defs ByteArray.empty false l)) := by
  obtain ⟨dv, rfl, hd⟩ := hv
  obtain ⟨s1, s2⟩ := hsm
  have S2 : Hid (∀ d ∈ s.defs, SmallD d) := s2
  have HB := Lib.hid (SchAt.box w s dv 24 hd)
  have hw0 : Below w.heap.size w (w.alloc (.cells #[.int .i64 s.dims, .int .i64 s.metric, dv] 24)) := below_alloc _ _
  have HU := Lib.hid (hu.below hw0)
  obtain ⟨a, cap, b, off, rfl, hcap, hm, ha, hc⟩ := HU.out.open
  clear s2 hd hu
  go_enter Try.func13, Try.ntmps13
  go_wp2
  generalize hw : w.alloc (.cells #[.int .i64 s.dims, .int .i64 s.metric, dv] 24) = w0 at *
  have hsz : w.heap.size + 1 = w0.heap.size := by rw [← hw]; simp
  simp only [hsz]
  have hsz' : w.heap.size < w0.heap.size := by omega
  clear hw hsz
  have hda := HB.out.2.2.2.open
  go_loopw [14] (fun i wr => ∃ (k : Nat) (bf : ByteArray), k ≤ l.length ∧ i = .int .i64 k ∧ Below w0.heap.size w0 wr ∧ w0.heap.size < wr.heap.size ∧ wr.cell? ⟨w0.heap.size, 0, none⟩ = some (.string bf) ∧ wr.frozen? ⟨w0.heap.size, 0, none⟩ = false ∧ Hid (fitsGo s.defs ByteArray.empty false l = fitsGo s.defs bf false (l.drop k))) (fun i _ => l.length - (intOf i).toNat)
  case atStart => exact ⟨0, ByteArray.empty, by omega, rfl, below_alloc _ _, by simp, by simp; rfl, by simp, rfl⟩
  case round =>
    obtain ⟨k, bf, hk, rfl, hb, hlt5, c5, f5, hh⟩ := hrel
    obtain ⟨a2, cap2, b2, off2, rfl, hcap2, hm2, ha2, hc2⟩ := hda
    have HS := Lib.hid (HB.out.below hb)
    have c2 := HS.out.2.2.1
    by_cases hlt : k < l.length
    · obtain ⟨y, hy⟩ := ints_get l k (by omega)
      have hy0 := hc.out k y hy
      have hbl : b < w0.heap.size := hy0.lt
      obtain ⟨d0, d1, d2, d3⟩ := hy0.below hb
      have hbw := hb.size
      have hlt6 : w.heap.size < wr.heap.size := by omega
      have hbl2 : b < wr.heap.size := by omega
      have H := Lib.hid (fitsGo_drop s.defs l k bf y hy)
      obtain rfl := ha (by omega)
      clear hc hy ha hy0
      go_wp2_with fail
      have hba := below_alloc wr (.cells #[.string y.name, .int .i64 y.kind, .int .i64 y.n, .string y.s] 35)
      have AT := Lib.hid (AttrAt.box wr y 35)
      have hga : wr.heap.size < (wr.alloc (.cells #[.string y.name, .int .i64 y.kind, .int .i64 y.n, .string y.s] 35)).heap.size := by simp
      clear d0 d1 d2 d3
      generalize wr.alloc (.cells #[.string y.name, .int .i64 y.kind, .int .i64 y.n, .string y.s] 35) = wa at *
      refine (indexDef _ s.defs _ _ (fun d => eqB d.name y.name) wa (HS.out.below hba).2.2.2 (by omega) cF1 (fun x hx wv w' hb' => fits1 _ x wv y w' (AT.out.below hb').1)).mono ?_
      rintro e w1 ⟨rfl, hb1⟩
      have hbr := blift hba hb1
      have hb2 := blift hb hbr
      have AT1 := Lib.hid (AT.out.below hb1)
      have c5' := below_cell hbr c5
      have f5' : w1.frozen? ⟨w0.heap.size, 0, none⟩ = false := by rw [hbr.frozen hlt5, f5]
      have c2' := below_cell hbr c2
      have hs1 := hb1.size
      have g1 : wr.heap.size < w1.heap.size := by omega
      clear c5 f5 c2 AT HS hba hb1 hbr hga hs1
      rcases findI_cases s.defs y.name with hf | ⟨q, d, hf, hd⟩
      · have F := Lib.hid (fitE_none s.defs bf false y (by omega))
        unfold findI at hf
        rw [hf]
        clear hf hc2 ha2
        go_wp2
        go_ret
        exact RetI.mk (by rw [hh.out, H.out, F.out]; rfl) (blift hw0 hb2)
      · have F := Lib.hid (fitE_some s.defs bf y q d hf hd)
        unfold findI at hf
        rw [hf]
        have hq : q < s.defs.length := (List.getElem?_eq_some_iff.1 hd).1
        obtain ⟨wv, hdd, hds⟩ := hc2.out q d hd
        obtain ⟨e0, e1, e2, e3, e4⟩ := hdd.below hb2
        have DS := Lib.hid (hds.below hb2)
        have hw := (S2.out d (List.mem_of_getElem? hd)).2.1
        have hb2l : b2 < w1.heap.size := World.block_lt_of_cell? _ _ e0
        obtain rfl := ha2 (by omega)
        obtain ⟨a0, a1, a2', a3⟩ := AT1.out
        clear hf hd hc2 ha2 hdd hds
        obtain ⟨a5, cap5, b5, off5, rfl, -, -, -, -⟩ := DS.out.open
        have g2 : w.heap.size < w1.heap.size := by omega
        have g3 : w0.heap.size < w1.heap.size := by omega
        have hq2 : decide ((q : Int) < 0) = false := by simp only [decide_eq_false_iff_not]; omega
        go_wp2
        go_region
        all_goals (try go_wp2_with fail)
        all_goals
          first
          | refine (runF1 AT1.out c5' DS.out hw rfl rfl).mono ?_
          | refine (runF2 AT1.out c5' DS.out hw rfl rfl).mono ?_
          rintro e w2 ⟨rfl, hb4⟩
          have hs4 := hb4.size
          have c6 := below_cell hb4 c5'
          have f6 : w2.frozen? ⟨w0.heap.size, 0, none⟩ = false := by rw [hb4.frozen g3, f5']
          have a6 := below_cell hb4 a0
          have hb5 := blift hb2 hb4
          clear hb4 c5' f5' a0 a1 a2' a3 e0 e1 e2 e3 e4 c2'
          by_cases hz : firstE (fitR d bf y) = 0
          · rw [hz] at F ⊢
            go_wp2
            go_roundw
            case rel =>
              refine ⟨k + 1, y.name, by omega, by go_num, hb5.setCell (Nat.le_refl _) _, ?_, ?_, ?_, by rw [Hid, hh.out, H.out, F.out]; rfl⟩
              · simp only [World.setCell, Array.size_modify]; omega
              · exact World.cell?_setCell_same _ _ _ c6
              · rw [World.frozen?_setCell]; exact f6
            case measure => simp [intOf]; omega
          · have hz' : (firstE (fitR d bf y) != 0) = true := by simp [hz]
            have HZ := Lib.hid hz
            generalize firstE (fitR d bf y) = x at *
            clear hz
            go_wp2
            go_ret
            exact RetI.mk (by rw [hh.out, H.out, F.out, if_pos HZ.out]) (blift hw0 hb5)
    · clear hc ha hc2 ha2
      go_wp2
      go_ret
      exact RetI.mk (by rw [hh.out, fitsGo_end _ _ _ _ _ (by omega)]) (blift hw0 hb)

end Go.Proofs.Ytnjopfjmepbpoaa

/- Walks: Valid of vector and antiquaryref04. -/
namespace Go.Proofs.Ytnjopfjmepbpoaa
set_option linter.unusedSimpArgs false
set_option linter.unusedVariables false
set_option linter.unnecessarySimpa false
open Go.RowKit

def inV (x : Int) : Bool := decide (-1000 ≤ x) && decide (x ≤ 1000)
theorem validV_eq (v : List Int) : validV v = (v.all inV && (decide (1 ≤ v.length) && decide (v.length ≤ 32))) := rfl

theorem all_drop {α : Type} (l : List α) (p : α → Bool) (k : Nat) (x : α) (h : l[k]? = some x) : (l.drop k).all p = (p x && (l.drop (k+1)).all p) := by
  obtain ⟨hk, rfl⟩ := List.getElem?_eq_some_iff.1 h
  rw [List.drop_eq_getElem_cons (by omega), List.all_cons]
theorem all_end {α : Type} (l : List α) (p : α → Bool) (k : Nat) (h : l.length ≤ k) : (l.drop k).all p = true := by
  rw [List.drop_eq_nil_of_le h]; rfl

theorem valid1 (b : Bool) (x : Int) (w : World) : Calls Try.prog 67 #[.bool b, .int .i64 x] w (fun e w' => e = .returned (.bool (b && inV x)) ∧ w = w') := by
  unfold inV
  cases b
  · go_enter Try.func67, Try.ntmps67
    go_wp2
    go_ret
    exact ⟨rfl, rfl⟩
  · cases e : decide (-1000 ≤ x)
    all_goals
      go_enter Try.func67, Try.ntmps67
      go_wp2
      go_ret
      exact ⟨ret_bool (by simp), rfl⟩

set_option maxRecDepth 100000 in
set_option maxHeartbeats 400000 in
theorem foldValid (v : Value) (l : List Int) (w : World) (hv : Ints w v l) (hl : l.length ≤ 1000000000) :
    Calls Try.prog 66 #[v, .bool true, .func (.func 67) #[] #[]] w (fun e w' => e = .returned (.bool (l.all inV)) ∧ w = w') := by
  obtain ⟨a, cap, b, off, rfl, hcap, hm, ha, hc⟩ := hv.open
  clear hv
  go_enter Try.func66, Try.ntmps66
  go_wp2
  go_loop [1, 11] (fun t i => ∃ (k : Nat) (b : Bool), k ≤ l.length ∧ t = .bool b ∧ i = .int .i64 k ∧ Hid (l.all inV = (b && (l.drop k).all inV))) (fun _ i => l.length - (intOf i).toNat)
  case atStart => exact ⟨0, true, by omega, rfl, rfl, by simp [Hid]⟩
  case round =>
    obtain ⟨k, b, hk, rfl, rfl, hh⟩ := hrel
    by_cases hlt : k < l.length
    · obtain ⟨y, hy⟩ := ints_get l k (by omega)
      have c0 := hc.out k y hy
      have H := Lib.hid (all_drop l inV k y hy)
      obtain rfl := ha (by omega)
      clear hy ha hc
      go_wp2_with fail
      refine (valid1 b y _).mono ?_
      rintro e w' ⟨rfl, rfl⟩
      go_wp2
      go_round
      case rel => exact ⟨k + 1, _, by omega, rfl, by go_num, by rw [Hid, hh.out, H.out, Bool.and_assoc]⟩
      case measure => simp [intOf]; omega
    · clear hc ha
      go_wp2
      go_ret
      exact ⟨ret_bool (by rw [hh.out, all_end _ _ _ (by omega)]; simp), rfl⟩

set_option maxRecDepth 100000 in
set_option maxHeartbeats 400000 in
theorem vectorValid (v : Value) (l : List Int) (w : World) (hv : Ints w v l) (hl : l.length ≤ 1000000000) :
    Calls Try.prog 46 #[v] w (fun e w' => e = .returned (.bool (validV l)) ∧ w = w') := by
  have HV := Lib.hid hv
  obtain ⟨a, cap, b, off, rfl, hcap, hm, ha, hc⟩ := hv.open
  unfold maxLen at hm
  clear hv ha hc
  rw [validV_eq]
  cases e : l.all inV
  · have E := Lib.hid e
    clear e
    go_enter Try.func46, Try.ntmps46
    go_wp2_with fail
    refine (foldValid _ l _ HV.out (by omega)).mono ?_
    rintro e w' ⟨rfl, rfl⟩
    rw [E.out]
    go_wp2
    go_ret
    exact ⟨ret_bool (by simp), rfl⟩
  · have E := Lib.hid e
    clear e
    have e1 : decide ((1 : Int) ≤ (l.length : Int)) = decide (1 ≤ l.length) := by rw [Bool.eq_iff_iff]; simp only [decide_eq_true_eq]; omega
    have e2 : decide ((l.length : Int) ≤ 32) = decide (l.length ≤ 32) := by rw [Bool.eq_iff_iff]; simp only [decide_eq_true_eq]; omega
    cases f1 : decide (1 ≤ l.length) <;> cases f2 : decide (l.length ≤ 32)
    all_goals
      rw [f1] at e1
      rw [f2] at e2
      clear f1 f2
      go_enter Try.func46, Try.ntmps46
      go_wp2_with fail
      refine (foldValid _ l _ HV.out (by omega)).mono ?_
      rintro e w' ⟨rfl, rfl⟩
      rw [E.out]
      go_wp2
      go_ret
      exact ⟨ret_bool (by simp), rfl⟩

set_option maxRecDepth 100000 in
set_option maxHeartbeats 400000 in
theorem ref04Valid (v : Value) (l : List Int) (w : World) (hv : Ints w v l) (hl : l.length ≤ 1000000000) :
    Calls Try.prog 47 #[v] w (fun e w' => e = .returned (.bool (validV l)) ∧ w = w') := by
  obtain ⟨a, cap, b, off, rfl, hcap, hm, ha, hc⟩ := hv.open
  unfold maxLen at hm
  clear hv
  rw [validV_eq]
  go_enter Try.func47, Try.ntmps47
  go_wp2
  go_loop [3] (fun i => ∃ (k : Nat), k ≤ l.length ∧ i = .int .i64 k ∧ Hid (l.all inV = (l.drop k).all inV)) (fun i => l.length - (intOf i).toNat)
  case atStart => exact ⟨0, by omega, rfl, rfl⟩
  case round =>
    obtain ⟨k, hk, rfl, hh⟩ := hrel
    by_cases hlt : k < l.length
    · obtain ⟨y, hy⟩ := ints_get l k (by omega)
      have c0 := hc.out k y hy
      have H := Lib.hid (all_drop l inV k y hy)
      obtain rfl := ha (by omega)
      clear hy ha hc
      cases e1 : decide (y < -1000)
      · cases e2 : decide (1000 < y)
        · have I := Lib.hid (show inV y = true by simp [inV] at *; omega)
          go_wp2
          go_round
          case rel => exact ⟨k + 1, by omega, by go_num, by rw [Hid, hh.out, H.out, I.out]; simp⟩
          case measure => simp [intOf]; omega
        · have I := Lib.hid (show inV y = false by simp [inV] at *; omega)
          go_wp2
          go_ret
          exact ⟨ret_bool (by rw [hh.out, H.out, I.out]; simp), rfl⟩
      · have I := Lib.hid (show inV y = false by simp [inV] at *; omega)
        go_wp2
        go_ret
        exact ⟨ret_bool (by rw [hh.out, H.out, I.out]; simp), rfl⟩
    · clear hc ha
      have E := Lib.hid (show l.all inV = true by rw [hh.out, all_end _ _ _ (by omega)])
      have e1 : decide ((1 : Int) ≤ (l.length : Int)) = decide (1 ≤ l.length) := by rw [Bool.eq_iff_iff]; simp only [decide_eq_true_eq]; omega
      have e2 : decide ((l.length : Int) ≤ 32) = decide (l.length ≤ 32) := by rw [Bool.eq_iff_iff]; simp only [decide_eq_true_eq]; omega
      cases f1 : decide (1 ≤ l.length) <;> cases f2 : decide (l.length ≤ 32)
      all_goals
        rw [f1] at e1
        rw [f2] at e2
        have F1 := Lib.hid f1
        have F2 := Lib.hid f2
        clear f1 f2
        go_wp2
        go_ret
        exact ⟨ret_bool (by rw [E.out, F1.out, F2.out]; try simp), rfl⟩

end Go.Proofs.Ytnjopfjmepbpoaa

/- Walks: Fits of antiquaryref13. -/
namespace Go.Proofs.Ytnjopfjmepbpoaa
set_option linter.unusedSimpArgs false
set_option linter.unusedVariables false
set_option linter.unnecessarySimpa false
open Go.RowKit

/-- The name before place k; empty ahead of the first. -/
def befN (l : List PAttr) (k : Nat) : ByteArray := match k with | 0 => ByteArray.empty | j+1 => match l[j]? with | some a => a.name | none => ByteArray.empty

theorem fitsGo_dropT (ds : List PDef) (l : List PAttr) (k : Nat) (a : PAttr) (h : l[k]? = some a) : fitsGo ds (befN l k) (k == 0) (l.drop k) = if fitE ds (befN l k) (k == 0) a ≠ 0 then fitE ds (befN l k) (k == 0) a else fitsGo ds (befN l (k+1)) (k + 1 == 0) (l.drop (k+1)) := by
  obtain ⟨hk, rfl⟩ := List.getElem?_eq_some_iff.1 h
  have e : befN l (k+1) = l[k].name := by simp only [befN, h]
  rw [List.drop_eq_getElem_cons (by omega), fitsGo, e]; rfl

theorem fitE_first (ds : List PDef) (b : ByteArray) (a : PAttr) (k : Nat) (d : PDef) (h : findI ds a.name = k) (hd : ds[k]? = some d) : fitE ds b true a = valueE d a := by
  rw [fitE, if_neg (by omega), h, Int.toNat_natCast, hd]; simp
theorem fitE_later (ds : List PDef) (b : ByteArray) (a : PAttr) (k : Nat) (d : PDef) (h : findI ds a.name = k) (hd : ds[k]? = some d) : fitE ds b false a = if leqB a.name b then 6 else valueE d a := by
  rw [fitE, if_neg (by omega), h, Int.toNat_natCast, hd]; simp

set_option maxRecDepth 100000 in
set_option maxHeartbeats 1000000 in
theorem refFits (v u : Value) (s : PSchema) (l : List PAttr) (w : World) (hv : SchemaV w v s) (hu : Attrs w u l) (hsm : SmallS s) (hl : l.length ≤ 1000000) :
    Calls Try.prog 14 #[v, u] w (RetI w (fitsE s l)) := by
  obtain ⟨dv, rfl, hd⟩ := hv
  obtain ⟨s1, s2⟩ := hsm
  have S2 : Hid (∀ d ∈ s.defs, SmallD d) := s2
  have HB := Lib.hid (SchAt.box w s dv 24 hd)
  have hw0 : Below w.heap.size w (w.alloc (.cells #[.int .i64 s.dims, .int .i64 s.metric, dv] 24)) := below_alloc _ _
  have HU := Lib.hid (hu.below hw0)
  obtain ⟨a, cap, b, off, rfl, hcap, hm, ha, hc⟩ := HU.out.open
  clear s2 hd hu
  go_enter Try.func14, Try.ntmps14
  go_wp2
  generalize hw : w.alloc (.cells #[.int .i64 s.dims, .int .i64 s.metric, dv] 24) = w0 at *
  have hsz' : w.heap.size < w0.heap.size := by rw [← hw]; simp
  clear hw
  have hda := HB.out.2.2.2.open
  go_loopw [5] (fun i wr => ∃ (k : Nat), k ≤ l.length ∧ i = .int .i64 k ∧ Below w0.heap.size w0 wr ∧ Hid (fitsE s l = fitsGo s.defs (befN l k) (k == 0) (l.drop k))) (fun i _ => l.length - (intOf i).toNat)
  case atStart => exact ⟨0, by omega, rfl, Below.refl _ _, rfl⟩
  case round =>
    obtain ⟨k, hk, rfl, hb, hh⟩ := hrel
    obtain ⟨a2, cap2, b2, off2, rfl, hcap2, hm2, ha2, hc2⟩ := hda
    have HS := Lib.hid (HB.out.below hb)
    obtain ⟨s0, s1', c2, -⟩ := HS.out
    by_cases hlt : k < l.length
    · obtain ⟨y, hy⟩ := ints_get l k (by omega)
      have hy0 := hc.out k y hy
      obtain ⟨d0, d1, d2, d3⟩ := hy0.below hb
      have H := Lib.hid (fitsGo_dropT s.defs l k y hy)
      obtain rfl := ha (by omega)
      have HYY := Lib.hid hy
      clear hy ha hy0
      go_wp2
      go_still_tail 6, (by kernel_rfl)
      change wpList _ _ _ _ _ wr.drew
      have HD := Lib.hid (HS.out.below ((Below.refl _ _).drew))
      have hbd : Below w0.heap.size w0 wr.drew := hb.drew
      clear HS s0 s1' c2 d0 d1 d2 d3
      generalize wr.drew = wd at *
      go_wp2_with fail
      refine (refFind _ s y.name _ ⟨_, rfl, HD.out.2.2.2⟩ (by omega)).mono ?_
      rintro e w1 ⟨rfl, hb1⟩
      have hb2 := blift hbd hb1
      have HS := Lib.hid (HD.out.below hb1)
      clear hbd hb1 HD
      rcases findI_cases s.defs y.name with hf | ⟨q, d, hf, hd⟩
      · have F := Lib.hid (fitE_none s.defs (befN l k) (k == 0) y (by omega))
        rw [hf]
        clear hf hc2 ha2
        go_wp2
        go_ret
        exact RetI.mk (by rw [hh.out, H.out, F.out]; rfl) (blift hw0 hb2)
      · rw [hf]
        have hq : q < s.defs.length := (List.getElem?_eq_some_iff.1 hd).1
        obtain ⟨wv, hdd, hds⟩ := hc2.out q d hd
        have DD := Lib.hid (hdd.below hb2)
        have DS := Lib.hid (hds.below hb2)
        obtain ⟨e0, e1, e2, e3, e4⟩ := DD.out
        have hw := (S2.out d (List.mem_of_getElem? hd)).2.1
        obtain rfl := ha2 (by omega)
        obtain ⟨s0, s1', c2, -⟩ := HS.out
        have HY := Lib.hid (hc.out k y HYY.out)
        obtain ⟨d0, d1, d2, d3⟩ := HY.out.below hb2
        have hq2 : decide ((q : Int) < 0) = false := by simp only [decide_eq_false_iff_not]; omega
        by_cases hk0 : k = 0
        · have F := Lib.hid (fitE_first s.defs (befN l k) y q d hf hd)
          have K0 := Lib.hid (show (k == 0) = true by simp [hk0])
          have hk1 : decide (0 < k) = false := by simp only [decide_eq_false_iff_not]; omega
          clear hc2 ha2 hdd hds hf hd hc hk0
          go_wp2
          go_quiet (fail)
          go_wp2
          have hq3 : Below w0.heap.size w0 (w1.drewN nq) := blift hb2 (below_drewN _ _)
          have DS3 := Lib.hid (DS.out.below (below_drewN w1 nq))
          have DD3 := DD.out.below (below_drewN w1 nq)
          have HS3 := HS.out.below (below_drewN w1 nq)
          have HY3 := HY.out.below hq3
          clear s0 s1' c2 d0 d1 d2 d3 e0 e1 e2 e3 e4 DS DD HS hb2
          generalize w1.drewN nq = wq at *
          obtain ⟨e0, e1, e2, e3, e4⟩ := DD3
          obtain ⟨s0, s1', c2, -⟩ := HS3
          obtain ⟨d0, d1, d2, d3⟩ := HY3
          go_still_tail 9, (by kernel_rfl)
          change wpList _ _ _ _ _ wq.drew
          have hb3 : Below w0.heap.size w0 wq.drew := hq3.drew
          have DT := Lib.hid (DS3.out.below ((Below.refl _ _).drew))
          clear s0 s1' c2 d0 d1 d2 d3 e0 e1 e2 e3 e4 DS3 hq3
          generalize wq.drew = w3 at *
          go_wp2_with fail
          refine (refValue d wv y w3 DT.out hw).mono ?_
          rintro e w4 ⟨rfl, hb4⟩
          have hb5 := blift hb3 hb4
          clear hb3 hb4 DT
          by_cases hz : valueE d y = 0
          · rw [hz] at F ⊢
            go_wp2
            go_roundw
            case rel => exact ⟨k + 1, by omega, by go_num, hb5, by rw [Hid, hh.out, H.out, K0.out, F.out]; rfl⟩
            case measure => simp [intOf]; omega
          · have hz' : (valueE d y != 0) = true := by simp [hz]
            have HZ := Lib.hid hz
            generalize valueE d y = x at *
            clear hz
            go_wp2
            go_ret
            exact RetI.mk (by rw [hh.out, H.out, K0.out, F.out, if_pos HZ.out]) (blift hw0 hb5)
        · have K0 := Lib.hid (show (k == 0) = false by simp [hk0])
          have hk1 : decide (0 < k) = true := by simp only [decide_eq_true_eq]; omega
          obtain ⟨z, hz⟩ := ints_get l (k - 1) (by omega)
          have hbf := Lib.hid (show befN l k = z.name by obtain ⟨j, rfl⟩ : ∃ j, k = j + 1 := ⟨k - 1, by omega⟩; simp only [befN]; rw [show j = j + 1 - 1 by omega, hz])
          have F0 := fitE_later s.defs (befN l k) y q d hf hd
          rw [hbf.out] at F0
          have HZ0 := Lib.hid (hc.out (k - 1) z hz)
          obtain ⟨z0, z1, z2, z3⟩ := HZ0.out.below hb2
          have ez : ((k : Int) - 1) = ((k - 1 : Nat) : Int) := by omega
          clear hc2 ha2 hdd hds hf hd hc hz z1 z2 z3 hk0
          cases hq3 : leqB y.name z.name
          · have hq4 : (Op.bytesLess y.name.toList z.name.toList || y.name.toList == z.name.toList) = false := hq3
            rw [hq3] at F0
            have F := Lib.hid (show fitE s.defs (befN l k) false y = valueE d y by rw [hbf.out]; simpa using F0)
            clear F0
            go_wp2
            go_quiet (fail)
            go_wp2
            have hq3 : Below w0.heap.size w0 (w1.drewN nq) := blift hb2 (below_drewN _ _)
            have DS3 := Lib.hid (DS.out.below (below_drewN w1 nq))
            have DD3 := DD.out.below (below_drewN w1 nq)
            have HS3 := HS.out.below (below_drewN w1 nq)
            have HY3 := HY.out.below hq3
            clear s0 s1' c2 d0 d1 d2 d3 e0 e1 e2 e3 e4 DS DD HS hb2 z0
            generalize w1.drewN nq = wq at *
            obtain ⟨e0, e1, e2, e3, e4⟩ := DD3
            obtain ⟨s0, s1', c2, -⟩ := HS3
            obtain ⟨d0, d1, d2, d3⟩ := HY3
            go_still_tail 9, (by kernel_rfl)
            change wpList _ _ _ _ _ wq.drew
            have hb3 : Below w0.heap.size w0 wq.drew := hq3.drew
            have DT := Lib.hid (DS3.out.below ((Below.refl _ _).drew))
            clear s0 s1' c2 d0 d1 d2 d3 e0 e1 e2 e3 e4 DS3 hq3
            generalize wq.drew = w3 at *
            go_wp2_with fail
            refine (refValue d wv y w3 DT.out hw).mono ?_
            rintro e w4 ⟨rfl, hb4⟩
            have hb5 := blift hb3 hb4
            clear hb3 hb4 DT
            by_cases hz : valueE d y = 0
            · rw [hz] at F ⊢
              go_wp2
              go_roundw
              case rel => exact ⟨k + 1, by omega, by go_num, hb5, by rw [Hid, hh.out, H.out, K0.out, F.out]; rfl⟩
              case measure => simp [intOf]; omega
            · have hz' : (valueE d y != 0) = true := by simp [hz]
              have HZ := Lib.hid hz
              generalize valueE d y = x at *
              clear hz
              go_wp2
              go_ret
              exact RetI.mk (by rw [hh.out, H.out, K0.out, F.out, if_pos HZ.out]) (blift hw0 hb5)
          · have hq4 : (Op.bytesLess y.name.toList z.name.toList || y.name.toList == z.name.toList) = true := hq3
            rw [hq3] at F0
            have F := Lib.hid (show fitE s.defs (befN l k) false y = 6 by rw [hbf.out]; simpa using F0)
            clear F0
            go_wp2
            go_quiet (fail)
            go_wp2
            go_ret
            exact RetI.mk (by rw [hh.out, H.out, K0.out, F.out]; rfl) (blift hw0 (blift hb2 (below_drewN _ _)))
    · clear hc ha hc2 ha2
      go_wp2
      go_ret
      exact RetI.mk (by rw [hh.out, fitsGo_end _ _ _ _ _ (by omega)]) (blift hw0 hb)

end Go.Proofs.Ytnjopfjmepbpoaa

/- Walks: the rules of Entry, Entry of attr. -/
namespace Go.Proofs.Ytnjopfjmepbpoaa
set_option linter.unusedSimpArgs false
set_option linter.unusedVariables false
set_option linter.unnecessarySimpa false
open Go.RowKit

def idBad (e : PEntry) : Bool := decide (e.id < 1) || (decide (1073741824 < e.id) || (decide (e.owner < 1) || (decide (1073741824 < e.owner) || (decide (e.ver < 1) || (decide (1073741824 < e.ver))))))
theorem entry1 (g : Nat) (e : PEntry) (vv av : Value) (w : World) (h : EntAt w g e vv av) : Calls Try.prog 41 #[.pointer (some ⟨g, 0, none⟩)] w (RetB w (idBad e)) := by
  obtain ⟨c0, c1, c2, c3, c4, c5, c6, c7, c8, -, -⟩ := h
  cases h0 : decide (e.id < 1)
  case true =>
    go_enter Try.func41, Try.ntmps41
    go_wp2
    go_ret
    exact RetB.mk (by simp [idBad, h0]) (Below.refl _ _)
  cases h1 : decide (1073741824 < e.id)
  case true =>
    go_enter Try.func41, Try.ntmps41
    go_wp2
    go_ret
    exact RetB.mk (by simp [idBad, h0, h1]) (Below.refl _ _)
  cases h2 : decide (e.owner < 1)
  case true =>
    go_enter Try.func41, Try.ntmps41
    go_wp2
    go_ret
    exact RetB.mk (by simp [idBad, h0, h1, h2]) (Below.refl _ _)
  cases h3 : decide (1073741824 < e.owner)
  case true =>
    go_enter Try.func41, Try.ntmps41
    go_wp2
    go_ret
    exact RetB.mk (by simp [idBad, h0, h1, h2, h3]) (Below.refl _ _)
  cases h4 : decide (e.ver < 1)
  case true =>
    go_enter Try.func41, Try.ntmps41
    go_wp2
    go_ret
    exact RetB.mk (by simp [idBad, h0, h1, h2, h3, h4]) (Below.refl _ _)
  cases h5 : decide (1073741824 < e.ver)
  case true =>
    go_enter Try.func41, Try.ntmps41
    go_wp2
    go_ret
    exact RetB.mk (by simp [idBad, h0, h1, h2, h3, h4, h5]) (Below.refl _ _)
  go_enter Try.func41, Try.ntmps41
  go_wp2
  go_ret
  exact RetB.mk (by simp [idBad, h0, h1, h2, h3, h4, h5]) (Below.refl _ _)
theorem cE1 : CallOk 41 := fun _ _ => by kernel_rfl

def fromBad (e : PEntry) : Bool := decide (e.filed < 0) || (decide (e.frm < e.filed) || (decide (1048576 < e.frm)))
theorem entry2 (g : Nat) (e : PEntry) (vv av : Value) (w : World) (h : EntAt w g e vv av) : Calls Try.prog 42 #[.pointer (some ⟨g, 0, none⟩)] w (RetB w (fromBad e)) := by
  obtain ⟨c0, c1, c2, c3, c4, c5, c6, c7, c8, -, -⟩ := h
  cases h0 : decide (e.filed < 0)
  case true =>
    go_enter Try.func42, Try.ntmps42
    go_wp2
    go_ret
    exact RetB.mk (by simp [fromBad, h0]) (Below.refl _ _)
  cases h1 : decide (e.frm < e.filed)
  case true =>
    go_enter Try.func42, Try.ntmps42
    go_wp2
    go_ret
    exact RetB.mk (by simp [fromBad, h0, h1]) (Below.refl _ _)
  cases h2 : decide (1048576 < e.frm)
  case true =>
    go_enter Try.func42, Try.ntmps42
    go_wp2
    go_ret
    exact RetB.mk (by simp [fromBad, h0, h1, h2]) (Below.refl _ _)
  go_enter Try.func42, Try.ntmps42
  go_wp2
  go_ret
  exact RetB.mk (by simp [fromBad, h0, h1, h2]) (Below.refl _ _)
theorem cE2 : CallOk 42 := fun _ _ => by kernel_rfl

def toBad (e : PEntry) : Bool := decide (e.to ≤ e.frm) || (decide (1048577 < e.to))
theorem entry3 (g : Nat) (e : PEntry) (vv av : Value) (w : World) (h : EntAt w g e vv av) : Calls Try.prog 43 #[.pointer (some ⟨g, 0, none⟩)] w (RetB w (toBad e)) := by
  obtain ⟨c0, c1, c2, c3, c4, c5, c6, c7, c8, -, -⟩ := h
  cases h0 : decide (e.to ≤ e.frm)
  case true =>
    go_enter Try.func43, Try.ntmps43
    go_wp2
    go_ret
    exact RetB.mk (by simp [toBad, h0]) (Below.refl _ _)
  cases h1 : decide (1048577 < e.to)
  case true =>
    go_enter Try.func43, Try.ntmps43
    go_wp2
    go_ret
    exact RetB.mk (by simp [toBad, h0, h1]) (Below.refl _ _)
  go_enter Try.func43, Try.ntmps43
  go_wp2
  go_ret
  exact RetB.mk (by simp [toBad, h0, h1]) (Below.refl _ _)
theorem cE3 : CallOk 43 := fun _ _ => by kernel_rfl

def bornBad (e : PEntry) : Bool := decide (e.born < 1) || (decide (1073741824 < e.born))
theorem entry4 (g : Nat) (e : PEntry) (vv av : Value) (w : World) (h : EntAt w g e vv av) : Calls Try.prog 44 #[.pointer (some ⟨g, 0, none⟩)] w (RetB w (bornBad e)) := by
  obtain ⟨c0, c1, c2, c3, c4, c5, c6, c7, c8, -, -⟩ := h
  cases h0 : decide (e.born < 1)
  case true =>
    go_enter Try.func44, Try.ntmps44
    go_wp2
    go_ret
    exact RetB.mk (by simp [bornBad, h0]) (Below.refl _ _)
  cases h1 : decide (1073741824 < e.born)
  case true =>
    go_enter Try.func44, Try.ntmps44
    go_wp2
    go_ret
    exact RetB.mk (by simp [bornBad, h0, h1]) (Below.refl _ _)
  go_enter Try.func44, Try.ntmps44
  go_wp2
  go_ret
  exact RetB.mk (by simp [bornBad, h0, h1]) (Below.refl _ _)
theorem cE4 : CallOk 44 := fun _ _ => by kernel_rfl

def vecBad (s : PSchema) (e : PEntry) : Bool := ((e.vec.length : Int) != s.dims) || !validV e.vec
theorem entry5 (g h : Nat) (e : PEntry) (vv av : Value) (s : PSchema) (dv : Value) (w : World) (he : EntAt w g e vv av) (hs : SchAt w h s dv) (hl : e.vec.length ≤ 1000000) :
    Calls Try.prog 45 #[.pointer (some ⟨g, 0, none⟩), .pointer (some ⟨h, 0, none⟩)] w (RetB w (vecBad s e)) := by
  obtain ⟨c0, c1, c2, c3, c4, c5, c6, c7, c8, hi, -⟩ := he
  obtain ⟨s0, -, -, -⟩ := hs
  have HI := Lib.hid hi
  obtain ⟨a, cap, b, off, rfl, -⟩ := hi.open
  clear hi
  cases h0 : ((e.vec.length : Int) != s.dims)
  · go_enter Try.func45, Try.ntmps45
    go_wp2_with fail
    refine (vectorValid _ e.vec _ HI.out (by omega)).mono ?_
    rintro e w' ⟨rfl, rfl⟩
    go_wp2
    go_ret
    exact RetB.mk (by simp [vecBad, h0]) (Below.refl _ _)
  · go_enter Try.func45, Try.ntmps45
    go_wp2
    go_ret
    exact RetB.mk (by simp [vecBad, h0]) (Below.refl _ _)
theorem cE5 : CallOk 45 := fun _ _ => by kernel_rfl

def rulesE (s : PSchema) (e : PEntry) (g h : Nat) : List Rule := [⟨41, #[.pointer (some ⟨g, 0, none⟩)], idBad e, 1⟩, ⟨42, #[.pointer (some ⟨g, 0, none⟩)], fromBad e, 9⟩,
  ⟨43, #[.pointer (some ⟨g, 0, none⟩)], toBad e, 9⟩, ⟨44, #[.pointer (some ⟨g, 0, none⟩)], bornBad e, 9⟩, ⟨45, #[.pointer (some ⟨g, 0, none⟩), .pointer (some ⟨h, 0, none⟩)], vecBad s e, 40⟩]
def entR (s : PSchema) (e : PEntry) : List (Bool × Int) := [(idBad e, 1), (fromBad e, 9), (toBad e, 9), (bornBad e, 9), (vecBad s e, 40)]

theorem runE {s : PSchema} {e : PEntry} {vv av dv : Value} {g h : Nat} {w : World} (he : EntAt w g e vv av) (hs : SchAt w h s dv) (hl : e.vec.length ≤ 1000000) (v : Value) (hv : Rules w v (rulesE s e g h)) :
    Calls Try.prog 32 #[v] w (RetI w (firstE (entR s e))) := by
  refine attrFirst v (rulesE s e g h) w hv (Nat.le_of_ble_eq_true rfl) ?_ ?_
  · intro r hr
    simp only [rulesE, List.mem_cons, List.not_mem_nil, or_false] at hr
    rcases hr with rfl | rfl | rfl | rfl | rfl
    · exact cE1
    · exact cE2
    · exact cE3
    · exact cE4
    · exact cE5
  · intro r hr w' hb
    have he' := he.below hb
    have hs' := hs.below hb
    simp only [rulesE, List.mem_cons, List.not_mem_nil, or_false] at hr
    rcases hr with rfl | rfl | rfl | rfl | rfl
    · exact entry1 g e vv av w' he'
    · exact entry2 g e vv av w' he'
    · exact entry3 g e vv av w' he'
    · exact entry4 g e vv av w' he'
    · exact entry5 g h e vv av s dv w' he' hs' hl

/-- What attr.Entry answers. -/
def entryA (s : PSchema) (e : PEntry) : Int := if firstE (entR s e) ≠ 0 then firstE (entR s e) else fitsGo s.defs ByteArray.empty false e.attrs

set_option maxRecDepth 100000 in
set_option maxHeartbeats 1000000 in
theorem attrEntry (v u : Value) (s : PSchema) (x : PEntry) (w : World) (hv : SchemaV w v s) (hu : EntryV w u x) (hsm : SmallS s) (hl : x.vec.length ≤ 1000000) (hl2 : x.attrs.length ≤ 1000000) :
    Calls Try.prog 15 #[v, u] w (RetI w (entryA s x)) := by
  obtain ⟨dv, rfl, hd⟩ := hv
  obtain ⟨vv, av, rfl, hi, hatt⟩ := hu
  have HS := Lib.hid (SchAt.box w s dv 24 hd)
  have hw0 : Below w.heap.size w (w.alloc (.cells #[.int .i64 s.dims, .int .i64 s.metric, dv] 24)) := below_alloc _ _
  have HE := Lib.hid (EntAt.box _ x vv av 28 (hi.below hw0) (hatt.below hw0))
  have hw1 := below_two w (.cells #[.int .i64 s.dims, .int .i64 s.metric, dv] 24) (.cells #[.int .i64 x.id, .int .i64 x.ver, .int .i64 x.owner, .int .i64 x.filed, .int .i64 x.frm, .int .i64 x.to, .int .i64 x.born, vv, av] 28)
  have HS2 := Lib.hid (HS.out.below (below_alloc _ (.cells #[.int .i64 x.id, .int .i64 x.ver, .int .i64 x.owner, .int .i64 x.filed, .int .i64 x.frm, .int .i64 x.to, .int .i64 x.born, vv, av] 28)))
  have hsz : Hid ((w.alloc (.cells #[.int .i64 s.dims, .int .i64 s.metric, dv] 24)).heap.size = w.heap.size + 1) := by simp [Hid]
  have hsz2 : Hid (((w.alloc (.cells #[.int .i64 s.dims, .int .i64 s.metric, dv] 24)).alloc (.cells #[.int .i64 x.id, .int .i64 x.ver, .int .i64 x.owner, .int .i64 x.filed, .int .i64 x.frm, .int .i64 x.to, .int .i64 x.born, vv, av] 28)).heap.size = w.heap.size + 1 + 1) := by simp [Hid]
  rw [hsz.out] at HE
  have HSM := Lib.hid hsm
  clear HS hw0 hi hatt hd hsm hsz
  unfold entryVal
  go_enter Try.func15, Try.ntmps15
  go_wp2_with fail
  generalize (w.alloc (.cells #[.int .i64 s.dims, .int .i64 s.metric, dv] 24)).alloc (.cells #[.int .i64 x.id, .int .i64 x.ver, .int .i64 x.owner, .int .i64 x.filed, .int .i64 x.frm, .int .i64 x.to, .int .i64 x.born, vv, av] 28) = w0 at *
  refine (runE (HE.out.below (below_alloc _ _)) (HS2.out.below (below_alloc _ _)) (by omega) _ (Rules.mk (rulesE s x _ _) (Nat.le_of_ble_eq_true rfl) (hsz2.out.symm) rfl rfl)).mono ?_
  rintro e w1 ⟨rfl, hb⟩
  have hb1 := blift (below_alloc _ _) hb
  have hb2 := blift hw1 hb1
  have HE1 := Lib.hid (HE.out.below hb1)
  have HS1 := Lib.hid (HS2.out.below hb1)
  obtain ⟨-, -, -, -, -, -, -, -, c8, -, -⟩ := HE1.out
  obtain ⟨s0, s1, s2, -⟩ := HS1.out
  clear hb hb1 HE HS2 hsz2
  by_cases hz : firstE (entR s x) = 0
  · have F := Lib.hid (show entryA s x = fitsGo s.defs ByteArray.empty false x.attrs by rw [entryA, if_neg (by simp [hz])])
    rw [hz]
    go_wp2_with fail
    refine (attrFits _ _ s x.attrs w1 ⟨_, rfl, HS1.out.2.2.2⟩ HE1.out.2.2.2.2.2.2.2.2.2.2 HSM.out (by omega)).mono ?_
    rintro e w2 ⟨rfl, hb3⟩
    go_wp2
    go_ret
    exact RetI.mk F.out.symm (blift hb2 hb3)
  · have F := Lib.hid (show entryA s x = firstE (entR s x) by rw [entryA, if_pos hz])
    have hz' : (firstE (entR s x) != 0) = true := by simp [hz]
    generalize firstE (entR s x) = y at *
    clear hz
    go_wp2
    go_ret
    exact RetI.mk F.out.symm hb2

end Go.Proofs.Ytnjopfjmepbpoaa

/- Walks: Entry of antiquaryref13. -/
namespace Go.Proofs.Ytnjopfjmepbpoaa
set_option linter.unusedSimpArgs false
set_option linter.unusedVariables false
set_option linter.unnecessarySimpa false
open Go.RowKit

set_option maxRecDepth 100000 in
set_option maxHeartbeats 4000000 in
theorem refEntry (v u : Value) (s : PSchema) (x : PEntry) (w : World) (hv : SchemaV w v s) (hu : EntryV w u x) (hsm : SmallS s) (hl : x.vec.length ≤ 1000000) (hl2 : x.attrs.length ≤ 1000000) :
    Calls Try.prog 16 #[v, u] w (RetI w (entryE s x)) := by
  obtain ⟨dv, rfl, hd⟩ := hv
  obtain ⟨vv, av, rfl, hi, hatt⟩ := hu
  have HS := Lib.hid (SchAt.box w s dv 24 hd)
  have hw0 : Below w.heap.size w (w.alloc (.cells #[.int .i64 s.dims, .int .i64 s.metric, dv] 24)) := below_alloc _ _
  have HE := Lib.hid (EntAt.box _ x vv av 28 (hi.below hw0) (hatt.below hw0))
  have hw1 := below_two w (.cells #[.int .i64 s.dims, .int .i64 s.metric, dv] 24) (.cells #[.int .i64 x.id, .int .i64 x.ver, .int .i64 x.owner, .int .i64 x.filed, .int .i64 x.frm, .int .i64 x.to, .int .i64 x.born, vv, av] 28)
  have HS2 := Lib.hid (HS.out.below (below_alloc _ (.cells #[.int .i64 x.id, .int .i64 x.ver, .int .i64 x.owner, .int .i64 x.filed, .int .i64 x.frm, .int .i64 x.to, .int .i64 x.born, vv, av] 28)))
  have hsz : Hid ((w.alloc (.cells #[.int .i64 s.dims, .int .i64 s.metric, dv] 24)).heap.size = w.heap.size + 1) := by simp [Hid]
  rw [hsz.out] at HE
  have HSM := Lib.hid hsm
  obtain ⟨a1, cap1, b1, off1, rfl, -⟩ := hi.open
  clear HS hw0 hi hatt hd hsm hsz
  unfold entryVal
  go_enter Try.func16, Try.ntmps16
  go_upto_region 1 with fail
  generalize (w.alloc (.cells #[.int .i64 s.dims, .int .i64 s.metric, dv] 24)).alloc (.cells #[.int .i64 x.id, .int .i64 x.ver, .int .i64 x.owner, .int .i64 x.filed, .int .i64 x.frm, .int .i64 x.to, .int .i64 x.born, .slice a1 x.vec.length cap1, av] 28) = w0 at *
  obtain ⟨c0, c1, c2, c3, c4, c5, c6, c7, c8, -, -⟩ := HE.out
  obtain ⟨s0, s1, s2, -⟩ := HS2.out
  cases h0 : decide (x.id < 1)
  case true =>
    have F := Lib.hid (show entryE s x = 1 by rw [entryE, if_pos (by simp only [decide_eq_true_eq, decide_eq_false_iff_not] at h0; omega)])
    go_wp2
    go_ret
    exact RetI.mk F.out.symm hw1
  cases h1 : decide (1073741824 < x.id)
  case true =>
    have F := Lib.hid (show entryE s x = 1 by rw [entryE, if_pos (by simp only [decide_eq_true_eq, decide_eq_false_iff_not] at h0 h1; omega)])
    go_wp2
    go_ret
    exact RetI.mk F.out.symm hw1
  cases h2 : decide (x.owner < 1)
  case true =>
    have F := Lib.hid (show entryE s x = 1 by rw [entryE, if_pos (by simp only [decide_eq_true_eq, decide_eq_false_iff_not] at h0 h1 h2; omega)])
    go_wp2
    go_ret
    exact RetI.mk F.out.symm hw1
  cases h3 : decide (1073741824 < x.owner)
  case true =>
    have F := Lib.hid (show entryE s x = 1 by rw [entryE, if_pos (by simp only [decide_eq_true_eq, decide_eq_false_iff_not] at h0 h1 h2 h3; omega)])
    go_wp2
    go_ret
    exact RetI.mk F.out.symm hw1
  cases h4 : decide (x.ver < 1)
  case true =>
    have F := Lib.hid (show entryE s x = 1 by rw [entryE, if_pos (by simp only [decide_eq_true_eq, decide_eq_false_iff_not] at h0 h1 h2 h3 h4; omega)])
    go_wp2
    go_ret
    exact RetI.mk F.out.symm hw1
  cases h5 : decide (1073741824 < x.ver)
  case true =>
    have F := Lib.hid (show entryE s x = 1 by rw [entryE, if_pos (by simp only [decide_eq_true_eq, decide_eq_false_iff_not] at h0 h1 h2 h3 h4 h5; omega)])
    go_wp2
    go_ret
    exact RetI.mk F.out.symm hw1
  have NA := Lib.hid (show ¬ (x.id < 1 ∨ 1073741824 < x.id ∨ x.owner < 1 ∨ 1073741824 < x.owner ∨ x.ver < 1 ∨ 1073741824 < x.ver) by simp only [decide_eq_false_iff_not] at h0 h1 h2 h3 h4 h5; omega)
  go_upto_region 3 with fail
  clear h0 h1 h2 h3 h4 h5
  cases h0 : decide (x.filed < 0)
  case true =>
    have F := Lib.hid (show entryE s x = 9 by rw [entryE, if_neg NA.out, if_pos (by simp only [decide_eq_true_eq, decide_eq_false_iff_not] at h0; omega)])
    go_wp2
    go_ret
    exact RetI.mk F.out.symm hw1
  cases h1 : decide (x.frm < x.filed)
  case true =>
    have F := Lib.hid (show entryE s x = 9 by rw [entryE, if_neg NA.out, if_pos (by simp only [decide_eq_true_eq, decide_eq_false_iff_not] at h0 h1; omega)])
    go_wp2
    go_ret
    exact RetI.mk F.out.symm hw1
  cases h2 : decide (x.to ≤ x.frm)
  case true =>
    have F := Lib.hid (show entryE s x = 9 by rw [entryE, if_neg NA.out, if_pos (by simp only [decide_eq_true_eq, decide_eq_false_iff_not] at h0 h1 h2; omega)])
    go_wp2
    go_ret
    exact RetI.mk F.out.symm hw1
  cases h3 : decide (1048577 < x.to)
  case true =>
    have F := Lib.hid (show entryE s x = 9 by rw [entryE, if_neg NA.out, if_pos (by simp only [decide_eq_true_eq, decide_eq_false_iff_not] at h0 h1 h2 h3; omega)])
    go_wp2
    go_ret
    exact RetI.mk F.out.symm hw1
  cases h4 : decide (1048576 < x.frm)
  case true =>
    have F := Lib.hid (show entryE s x = 9 by rw [entryE, if_neg NA.out, if_pos (by simp only [decide_eq_true_eq, decide_eq_false_iff_not] at h0 h1 h2 h3 h4; omega)])
    go_wp2
    go_ret
    exact RetI.mk F.out.symm hw1
  cases h5 : decide (x.born < 1)
  case true =>
    have F := Lib.hid (show entryE s x = 9 by rw [entryE, if_neg NA.out, if_pos (by simp only [decide_eq_true_eq, decide_eq_false_iff_not] at h0 h1 h2 h3 h4 h5; omega)])
    go_wp2
    go_ret
    exact RetI.mk F.out.symm hw1
  cases h6 : decide (1073741824 < x.born)
  case true =>
    have F := Lib.hid (show entryE s x = 9 by rw [entryE, if_neg NA.out, if_pos (by simp only [decide_eq_true_eq, decide_eq_false_iff_not] at h0 h1 h2 h3 h4 h5 h6; omega)])
    go_wp2
    go_ret
    exact RetI.mk F.out.symm hw1
  have NB := Lib.hid (show ¬ (x.filed < 0 ∨ x.frm < x.filed ∨ x.to ≤ x.frm ∨ 1048577 < x.to ∨ 1048576 < x.frm ∨ x.born < 1 ∨ 1073741824 < x.born) by simp only [decide_eq_false_iff_not] at h0 h1 h2 h3 h4 h5 h6; omega)
  go_wp2_with fail
  clear h0 h1 h2 h3 h4 h5 h6
  refine (ref04Valid _ x.vec _ HE.out.2.2.2.2.2.2.2.2.2.1 (by omega)).mono ?_
  rintro e w' ⟨rfl, rfl⟩
  cases hv0 : validV x.vec
  · have F := Lib.hid (show entryE s x = 40 by rw [entryE, if_neg NA.out, if_neg NB.out, if_pos (.inl hv0)])
    clear hv0
    go_wp2
    go_ret
    exact RetI.mk F.out.symm hw1
  · by_cases hd0 : (x.vec.length : Int) = s.dims
    · have F := Lib.hid (show entryE s x = fitsE s x.attrs by rw [entryE, if_neg NA.out, if_neg NB.out, if_neg (by simp [hv0, hd0])])
      have hd1 : ((x.vec.length : Int) != s.dims) = false := by simp [hd0]
      clear hv0 hd0
      go_wp2_with fail
      refine (refFits _ _ s x.attrs w0 ⟨_, rfl, HS2.out.2.2.2⟩ HE.out.2.2.2.2.2.2.2.2.2.2 HSM.out (by omega)).mono ?_
      rintro e w2 ⟨rfl, hb3⟩
      go_wp2
      go_ret
      exact RetI.mk F.out.symm (blift hw1 hb3)
    · have F := Lib.hid (show entryE s x = 40 by rw [entryE, if_neg NA.out, if_neg NB.out, if_pos (.inr hd0)])
      have hd1 : ((x.vec.length : Int) != s.dims) = true := by simp [hd0]
      clear hv0 hd0
      go_wp2
      go_ret
      exact RetI.mk F.out.symm hw1

end Go.Proofs.Ytnjopfjmepbpoaa

/- Plain: an entry as numbers and strings. -/
namespace Go.Proofs.Ytnjopfjmepbpoaa
set_option linter.unusedSimpArgs false
set_option linter.unusedVariables false
set_option linter.unnecessarySimpa false

def headN (e : PEntry) : List Int := [e.id, e.ver, e.owner, e.filed, e.frm, e.to, e.born, (e.vec.length : Int)]
def attrN (l : List PAttr) : List Int := (l.map fun a => [a.kind, a.n]).flatten
def attrS (l : List PAttr) : List ByteArray := (l.map fun a => [a.name, a.s]).flatten
def encN (e : PEntry) : List Int := headN e ++ e.vec ++ [(e.attrs.length : Int)] ++ attrN e.attrs
def encE (e : PEntry) : List Int := intsB (encN e) ++ strsB (attrS e.attrs)

def Fit64 (n : Int) : Prop := -9223372036854775808 ≤ n ∧ n ≤ 9223372036854775807
structure FitE (e : PEntry) : Prop where
  id : Fit64 e.id
  ver : Fit64 e.ver
  owner : Fit64 e.owner
  filed : Fit64 e.filed
  frm : Fit64 e.frm
  to : Fit64 e.to
  born : Fit64 e.born
  vec : ∀ z ∈ e.vec, Fit64 z
  attrs : ∀ a ∈ e.attrs, Fit64 a.kind ∧ Fit64 a.n
/-- Sizes that the walks meet. -/
structure SmallE (e : PEntry) : Prop where
  vec : e.vec.length ≤ 100000
  attrs : e.attrs.length ≤ 499
  strs : ∀ a ∈ e.attrs, a.name.size ≤ 1000000 ∧ a.s.size ≤ 1000000

theorem attrN_len (l : List PAttr) : (attrN l).length = 2 * l.length := by
  induction l with
  | nil => rfl
  | cons a r ih => simp only [attrN, List.map_cons, List.flatten_cons, List.length_append, List.length_cons, List.length_nil] at *; omega
theorem attrS_len (l : List PAttr) : (attrS l).length = 2 * l.length := by
  induction l with
  | nil => rfl
  | cons a r ih => simp only [attrS, List.map_cons, List.flatten_cons, List.length_append, List.length_cons, List.length_nil] at *; omega
theorem attrN_take (l : List PAttr) (k : Nat) (a : PAttr) (h : l[k]? = some a) : attrN (l.take (k+1)) = attrN (l.take k) ++ [a.kind, a.n] := by
  rw [List.take_add_one, h]; simp [attrN]
theorem attrS_take (l : List PAttr) (k : Nat) (a : PAttr) (h : l[k]? = some a) : attrS (l.take (k+1)) = attrS (l.take k) ++ [a.name, a.s] := by
  rw [List.take_add_one, h]; simp [attrS]
theorem encN_len (e : PEntry) : (encN e).length = 9 + e.vec.length + 2 * e.attrs.length := by
  simp only [encN, headN, List.length_append, attrN_len, List.length_cons, List.length_nil]; omega
theorem encN_fit (e : PEntry) (h : FitE e) (hs : SmallE e) : ∀ z ∈ encN e, -9223372036854775808 ≤ z ∧ z ≤ 9223372036854775807 := by
  have hv := hs.vec
  have ha := hs.attrs
  intro z hz
  simp only [encN, headN, List.mem_append, List.mem_cons, List.not_mem_nil, or_false] at hz
  rcases hz with (((rfl | rfl | rfl | rfl | rfl | rfl | rfl | rfl) | hz) | rfl) | hz
  · exact h.id
  · exact h.ver
  · exact h.owner
  · exact h.filed
  · exact h.frm
  · exact h.to
  · exact h.born
  · omega
  · exact h.vec z hz
  · omega
  · simp only [attrN, List.mem_flatten, List.mem_map] at hz
    obtain ⟨_, ⟨a, ha, rfl⟩, hz⟩ := hz
    simp only [List.mem_cons, List.not_mem_nil, or_false] at hz
    rcases hz with rfl | rfl
    · exact (h.attrs a ha).1
    · exact (h.attrs a ha).2
theorem attrS_small (l : List PAttr) (h : ∀ a ∈ l, a.name.size ≤ 1000000 ∧ a.s.size ≤ 1000000) : SmallStrs (attrS l) := by
  intro s hs
  simp only [attrS, List.mem_flatten, List.mem_map] at hs
  obtain ⟨_, ⟨a, ha, rfl⟩, hs⟩ := hs
  simp only [List.mem_cons, List.not_mem_nil, or_false] at hs
  rcases hs with rfl | rfl
  · exact (h a ha).1
  · exact (h a ha).2

end Go.Proofs.Ytnjopfjmepbpoaa

/- A region that draws its order, by contracts: where what was there stays. -/
namespace Go.Proofs.Ytnjopfjmepbpoaa
set_option linter.unusedSimpArgs false
set_option linter.unusedVariables false
set_option linter.unnecessarySimpa false
open Go.RowKit

/-- What is known of a slot behind its operation: it stays true where what was there stays. -/
structure Spec where
  p : Value → World → Prop
  st : ∀ v w w', p v w → Below w.heap.size w w' → p v w'
def Spec.is (x : Value) : Spec := ⟨fun v _ => v = x, fun _ _ _ h _ => h⟩
def Spec.any : Spec := ⟨fun _ _ => True, fun _ _ _ h _ => h⟩
def Spec.rd (cs : List Value) : Spec := ⟨fun v w => Rd w v cs, fun _ _ _ h hb => h.below hb⟩
/-- A slot that holds x, and what holds of the world. -/
def Spec.holds (x : Value) (S : World → Prop) (h : ∀ w w', S w → Below w.heap.size w w' → S w') : Spec := ⟨fun v w => v = x ∧ S w, fun _ _ _ hh hb => ⟨hh.1, h _ _ hh.2 hb⟩⟩

def LeB (w w' : World) : Prop := Below w.heap.size w w'
theorem LeB.trans (x y z : World) (h : LeB x y) (k : LeB y z) : LeB x z := Below.trans h (Below.mono k h.size)

def specR (sp : List Spec) (i : Nat) : Value → World → Prop := (sp.getD i Spec.any).p

def AllFrom (F : Nat → Oper → Prop) : Nat → List Oper → Prop
  | _, [] => True
  | i, o :: os => F i o ∧ AllFrom F (i + 1) os
theorem AllFrom.get {F : Nat → Oper → Prop} : ∀ {l : List Oper} {k : Nat}, AllFrom F k l → ∀ (i : Nat) (o : Oper), l[i]? = some o → F (k + i) o
  | [], _, _, i, o, h => by simp at h
  | x :: xs, k, ⟨h1, h2⟩, 0, o, h => by simp at h; subst h; exact h1
  | x :: xs, k, ⟨h1, h2⟩, i+1, o, h => by
    have := AllFrom.get h2 i o (by simpa using h)
    rw [show k + (i + 1) = k + 1 + i by omega]; exact this
theorem AllFrom.of {F : Nat → Oper → Prop} : ∀ (l : List Oper) (k : Nat), (∀ (i : Nat) (o : Oper), l[i]? = some o → F (k + i) o) → AllFrom F k l
  | [], _, _ => trivial
  | x :: xs, k, h => ⟨h 0 x (by simp), AllFrom.of xs (k+1) (fun i o hi => by rw [show k + 1 + i = k + (i + 1) by omega]; exact h (i+1) o (by simpa using hi))⟩

def putAll : List Oper → (Nat → Value) → Nat → Act → Act
  | [], _, _, a => a
  | o :: os, vs, i, a => putAll os vs (i + 1) (a.put o.dst (vs i))

theorem putAll_size : ∀ (l : List Oper) (vs : Nat → Value) (k : Nat) (a : Act), (putAll l vs k a).tmps.size = a.tmps.size ∧ (putAll l vs k a).defers = a.defers
  | [], _, _, a => ⟨rfl, rfl⟩
  | o :: os, vs, k, a => by
    have h := putAll_size os vs (k+1) (a.put o.dst (vs k))
    rw [putAll]
    constructor
    · rw [h.1]; cases o.dst <;> simp [Act.put]
    · rw [h.2]; cases o.dst <;> simp [Act.put]

theorem putAll_idle : ∀ (l : List Oper) (vs : Nat → Value) (k : Nat) (a : Act) (t : Nat), (∀ o ∈ l, o.dst ≠ some t) → (∀ o ∈ l, ∀ d, o.dst = some d → d < a.tmps.size) → (putAll l vs k a).tmps.getD t undef = a.tmps.getD t undef
  | [], _, _, a, t, _, _ => rfl
  | o :: os, vs, k, a, t, h, hs => by
    rw [putAll, putAll_idle os vs (k+1) _ t (fun x hx => h x (by simp [hx])) (fun x hx d hd => by have := hs x (by simp [hx]) d hd; cases o.dst <;> simpa [Act.put] using this)]
    cases hd : o.dst with
    | none => rfl
    | some d =>
      rw [put_getD _ _ _ _ (hs o (by simp) d hd), if_neg]
      rintro rfl
      exact h o (by simp) hd

theorem putAll_at : ∀ (l : List Oper) (vs : Nat → Value) (k : Nat) (a : Act) (i t : Nat) (o : Oper), l[i]? = some o → o.dst = some t → (∀ (j : Nat) (oj : Oper), l[j]? = some oj → j ≠ i → oj.dst ≠ some t) → (∀ o ∈ l, ∀ d, o.dst = some d → d < a.tmps.size) → (putAll l vs k a).tmps.getD t undef = vs (k + i)
  | [], _, _, _, i, t, o, h, _, _, _ => by simp at h
  | x :: xs, vs, k, a, 0, t, o, h, hd, hne, hs => by
    simp at h; subst h
    rw [putAll, putAll_idle xs vs (k+1) _ t ?_ ?_, hd, put_getD _ _ _ _ (hs x (by simp) t hd)]
    · simp
    · intro y hy
      obtain ⟨j, hj⟩ := List.getElem?_of_mem hy
      exact hne (j+1) y (by simpa using hj) (by omega)
    · intro y hy d hdd
      have := hs y (by simp [hy]) d hdd
      cases x.dst <;> simpa [Act.put] using this
  | x :: xs, vs, k, a, i+1, t, o, h, hd, hne, hs => by
    rw [putAll, putAll_at xs vs (k+1) _ i t o (by simpa using h) hd ?_ ?_]
    · rw [show k + 1 + i = k + (i + 1) by omega]
    · intro j oj hj hji
      exact hne (j+1) oj (by simpa using hj) (by omega)
    · intro y hy d hdd
      have := hs y (by simp [hy]) d hdd
      cases x.dst <;> simpa [Act.put] using this

theorem act_ext {a b : Act} (h1 : a.defers = b.defers) (h2 : a.tmps.size = b.tmps.size) (h3 : ∀ t, t < b.tmps.size → a.tmps.getD t undef = b.tmps.getD t undef) : a = b := by
  cases a with | mk x dx => cases b with | mk y dy =>
    simp only at h1 h2 h3
    subst h1
    congr
    apply Array.ext h2
    intro i hi hi2
    have := h3 i hi2
    simpa [Array.getD_eq_getD_getElem?, hi, hi2] using this

theorem wp_region_B {P : Program} {l : List Oper} {Q : Exit → Act → World → Prop} {id : Nat} {a0 : Act} {w0 : World} (sp : List Spec) (hm : P.follows .mixedOrders = true) (hsh : shapeB l.toArray a0.tmps.size = true)
    (hstep : AllFrom (fun i o => ∀ a w, RCtx l.toArray a0 w0.drew (specR sp) LeB i a w → wpOp P l.toArray Q i (RPost (specR sp) LeB i o a w) a w) 0 l)
    (hend : ∀ (vs : Nat → Value) (w : World), Below w0.heap.size w0 w → AllFrom (fun i o => (sp.getD i Spec.any).p (match o.dst with | some _ => vs i | none => undef) w) 0 l → Q .normal (putAll l vs 0 a0) w) :
    (Code.region id l.toArray true).wp P Q a0 w0 := by
  refine wp_region_rel (specR sp) LeB hm hsh (Below.refl _ _) LeB.trans (fun i v w w' _ h hb => (sp.getD i Spec.any).st v w w' h hb) (fun i o ho a w hc => ?_) ?_
  · have := hstep.get i o (by simpa using ho) a w
    rw [Nat.zero_add] at this
    exact this hc
  · intro a w h1 h2 h3 h4 h5
    have hdlt : ∀ o ∈ l, ∀ d, o.dst = some d → d < a0.tmps.size := by
      intro o ho d hd
      obtain ⟨j, hj⟩ := List.getElem?_of_mem ho
      exact ((shape_spec hsh j o (by simpa using hj)).2 d hd).1
    have e : a = putAll l (valOf l.toArray a) 0 a0 := by
      refine act_ext (by rw [h1, (putAll_size l _ 0 a0).2]) (by rw [h2, (putAll_size l _ 0 a0).1]) (fun t ht => ?_)
      by_cases hw : ∃ (i : Nat) (o : Oper), l[i]? = some o ∧ o.dst = some t
      · obtain ⟨i, o, hi, hd⟩ := hw
        rw [putAll_at l _ 0 a0 i t o hi hd (fun j oj hj hji hc => dst_apart hsh (i := i) (j := j) (by simpa using hi) (by simpa using hj) (fun x => hji x.symm) hd hc) hdlt]
        simp [valOf, hi, hd]
      · rw [putAll_idle l _ 0 a0 t (fun o ho hd => hw (by obtain ⟨j, hj⟩ := List.getElem?_of_mem ho; exact ⟨j, o, hj, hd⟩)) hdlt]
        apply h5
        unfold idleB
        rw [List.all_eq_true]
        intro j hj
        simp only [List.mem_range, List.size_toArray] at hj
        have hj2 : l[j]? = some l[j] := by simp [hj]
        simp only [List.getElem?_toArray, hj2, Option.map_some, Option.getD_some, Bool.not_eq_true', beq_eq_false_iff_ne]
        exact fun hc => hw ⟨j, l[j], hj2, hc⟩
    rw [e]
    refine hend _ w ?_ ?_
    · exact Below.trans ((Below.refl _ _).drew) h3
    · refine AllFrom.of l 0 fun i o hi => ?_
      have hlt : i < l.length := (List.getElem?_eq_some_iff.1 hi).1
      have := h4 i (by simpa using hlt)
      rw [Nat.zero_add]
      simp only [valOf, List.getElem?_toArray, hi, Option.bind_some] at this ⊢
      cases hd : o.dst with
      | none => rw [hd] at this; exact this
      | some d => rw [hd] at this; exact this

theorem wpOp_at {P : Program} {ops : Array Oper} {Q : Exit → Act → World → Prop} {i : Nat} {K : Act → World → Prop} {a : Act} {w : World} {o : Oper} (ho : ops[i]? = some o) (hg : o.guard = none) (h : o.wp P a w K Q) : wpOp P ops Q i K a w := by
  unfold wpOp
  rw [ho]
  simp only [Region.wanted, hg, if_true]
  exact .inl h

/-- An operation that yields one value and leaves the world. -/
theorem rpost_val {R : Nat → Value → World → Prop} {i : Nat} {o : Oper} {a : Act} {w : World} (v : Value) (h : R i (match o.dst with | some _ => v | none => undef) w) : RPost R LeB i o a w (a.put o.dst v) w := ⟨v, rfl, h, Below.refl _ _⟩

end Go.Proofs.Ytnjopfjmepbpoaa

/- A region that draws its order, by what each operation relies on and what it does: each operation once. -/
namespace Go.Proofs.Ytnjopfjmepbpoaa
set_option linter.unusedSimpArgs false
set_option linter.unusedVariables false
set_option linter.unnecessarySimpa false
open Go.RowKit

structure GInv (ops : Array Oper) (a0 : Act) (C : Nat → World → Prop) (R : Nat → Value → World → Prop) (G : World → Prop) (listed : Array Bool) (a : Act) (w : World) : Prop where
  size : listed.size = ops.size
  defers : a.defers = a0.defers
  tmps : a.tmps.size = a0.tmps.size
  all : G w
  closed : ∀ (i : Nat) (o : Oper), ops[i]? = some o → listed.getD i false = true → ∀ j, depO o j = true → listed.getD j false = true
  rely : ∀ (i : Nat) (o : Oper), ops[i]? = some o → listed.getD i false = false → C i w
  vals : ∀ (i : Nat) (o : Oper), ops[i]? = some o → listed.getD i false = true → R i (valOf ops a i) w
  old : ∀ t : Nat, (∀ (i : Nat) (o : Oper), ops[i]? = some o → listed.getD i false = true → o.dst ≠ some t) → a.tmps.getD t undef = a0.tmps.getD t undef

/-- What operation i may rely on. -/
structure GCtx (ops : Array Oper) (a0 : Act) (C : Nat → World → Prop) (R : Nat → Value → World → Prop) (G : World → Prop) (i : Nat) (a : Act) (w : World) : Prop where
  defers : a.defers = a0.defers
  tmps : a.tmps.size = a0.tmps.size
  all : G w
  rely : C i w
  dep : ∀ j, depB ops i j = true → R j (valOf ops a j) w
  old : ∀ t, oldB ops i t = true → a.tmps.getD t undef = a0.tmps.getD t undef

/-- What operation i is to leave. -/
def GPost (R : Nat → Value → World → Prop) (E : Nat → World → World → Prop) (i : Nat) (o : Oper) (a : Act) (w : World) (a' : Act) (w' : World) : Prop :=
  ∃ v, a' = a.put o.dst v ∧ R i (match o.dst with | some _ => v | none => undef) w' ∧ E i w w'

section
variable {P : Program} {ops : Array Oper} {Q : Exit → Act → World → Prop} {a0 : Act} {C : Nat → World → Prop} {R : Nat → Value → World → Prop} {E : Nat → World → World → Prop} {G : World → Prop}

theorem ginv_step (hsh : shapeB ops a0.tmps.size = true)
    (hCE : ∀ i j w w', i < ops.size → j < ops.size → i ≠ j → depB ops j i = false → G w → C i w → E j w w' → C i w')
    (hRE : ∀ i j v w w', i < ops.size → j < ops.size → i ≠ j → depB ops i j = false → G w → R i v w → E j w w' → R i v w')
    (hGE : ∀ j w w', j < ops.size → G w → C j w → E j w w' → G w')
    {listed : Array Bool} {a : Act} {w : World} (h : GInv ops a0 C R G listed a w) {i : Nat} {o : Oper} (ho : ops[i]? = some o) (hni : listed.getD i false = false) (hdep : ∀ j, depO o j = true → listed.getD j false = true) {a' : Act} {w' : World} (hp : GPost R E i o a w a' w') :
    GInv ops a0 C R G (listed.setIfInBounds i true) a' w' := by
  have hio : i < ops.size := (Array.getElem?_eq_some_iff.1 ho).1
  have hi : i < listed.size := by rw [h.size]; exact hio
  obtain ⟨v, rfl, hv, hle⟩ := hp
  have hdst := (shape_spec hsh i o ho).2
  refine ⟨by simpa using h.size, ?_, ?_, hGE i _ _ hio h.all (h.rely i o ho hni) hle, ?_, ?_, ?_, ?_⟩
  · cases hd : o.dst <;> simp [Act.put, h.defers]
  · cases hd : o.dst <;> simp [Act.put, h.tmps]
  · intro k ok hok hk j hj
    rw [getD_set _ _ _ hi] at hk ⊢
    simp only [Bool.or_eq_true, decide_eq_true_eq] at hk ⊢
    rcases hk with rfl | hk
    · rw [ho] at hok; cases hok; exact .inr (hdep j hj)
    · exact .inr (h.closed k ok hok hk j hj)
  · intro k ok hok hk
    rw [getD_set _ _ _ hi] at hk
    simp only [Bool.or_eq_false_iff, decide_eq_false_iff_not] at hk
    refine hCE k i _ _ (Array.getElem?_eq_some_iff.1 hok).1 hio hk.1 ?_ h.all (h.rely k ok hok hk.2) hle
    cases hd : depB ops i k
    · rfl
    · simp only [depB, ho, Option.map_some, Option.getD_some] at hd
      rw [hdep k hd] at hk
      cases hk.2
  · intro k ok hok hk
    rw [getD_set _ _ _ hi] at hk
    simp only [Bool.or_eq_true, decide_eq_true_eq] at hk
    by_cases e : k = i
    · subst e
      rw [ho] at hok; cases hok
      cases hd : o.dst with
      | none =>
        rw [hd] at hv
        have : valOf ops (a.put none v) k = undef := by simp [valOf, ho, hd]
        rw [this]; exact hv
      | some d =>
        rw [hd] at hv
        have : valOf ops (a.put (some d) v) k = v := by
          simp only [valOf, ho, Option.bind_some, hd]
          rw [put_getD _ _ _ _ (by rw [h.tmps]; exact (hdst d hd).1)]
          simp
        rw [this]; exact hv
    · have hk' := hk.resolve_left e
      have : valOf ops (a.put o.dst v) k = valOf ops a k := by
        cases hd : o.dst with
        | none => rfl
        | some d =>
          simp only [valOf, hok, Option.bind_some]
          cases hdk : ok.dst with
          | none => rfl
          | some dk =>
            simp only
            rw [put_getD _ _ _ _ (by rw [h.tmps]; exact (hdst d hd).1), if_neg]
            rintro rfl
            exact dst_apart hsh ho hok (fun x => e x.symm) hd hdk
      rw [this]
      refine hRE k i _ _ _ (Array.getElem?_eq_some_iff.1 hok).1 hio e ?_ h.all (h.vals k ok hok hk') hle
      cases hd : depB ops k i
      · rfl
      · simp only [depB, hok, Option.map_some, Option.getD_some] at hd
        rw [h.closed k ok hok hk' i hd] at hni
        cases hni
  · intro t ht
    have h1 : o.dst ≠ some t := ht i o ho (by rw [getD_set _ _ _ hi]; simp)
    have h2 := h.old t (fun k ok hok hk => ht k ok hok (by rw [getD_set _ _ _ hi]; simp [hk]))
    rw [← h2]
    cases hd : o.dst with
    | none => rfl
    | some d =>
      rw [put_getD _ _ _ _ (by rw [h.tmps]; exact (hdst d hd).1), if_neg]
      rintro rfl
      exact h1 hd

theorem ginv_ctx {listed : Array Bool} {a : Act} {w : World} (h : GInv ops a0 C R G listed a w) {i : Nat} {o : Oper} (ho : ops[i]? = some o) (hni : listed.getD i false = false) (hdep : ∀ j, depO o j = true → listed.getD j false = true) (hall : ∀ j, depO o j = true → j < ops.size) :
    GCtx ops a0 C R G i a w := by
  refine ⟨h.defers, h.tmps, h.all, h.rely i o ho hni, fun j hj => ?_, fun t ht => h.old t fun k ok hok hk hc => ?_⟩
  · simp only [depB, ho, Option.map_some, Option.getD_some] at hj
    have hlt := hall j hj
    exact h.vals j ops[j] (by simp [hlt]) (hdep j hj)
  · have hk2 : k < ops.size := (Array.getElem?_eq_some_iff.1 hok).1
    have := List.all_eq_true.1 ht k (List.mem_range.2 hk2)
    rw [hok] at this
    simp only [Option.map_some, Option.getD_some, hc, beq_self_eq_true, Bool.not_true, Bool.false_or, Bool.or_eq_true, beq_iff_eq] at this
    rcases this with e | e
    · rw [h.closed k ok hok hk i e] at hni; cases hni
    · subst e; rw [hk] at hni; cases hni

theorem ginv_any (hsh : shapeB ops a0.tmps.size = true)
    (hCE : ∀ i j w w', i < ops.size → j < ops.size → i ≠ j → depB ops j i = false → G w → C i w → E j w w' → C i w')
    (hRE : ∀ i j v w w', i < ops.size → j < ops.size → i ≠ j → depB ops i j = false → G w → R i v w → E j w w' → R i v w')
    (hGE : ∀ j w w', j < ops.size → G w → C j w → E j w w' → G w')
    (hstep : ∀ (i : Nat) (o : Oper), ops[i]? = some o → ∀ a w, GCtx ops a0 C R G i a w → wpOp P ops Q i (GPost R E i o a w) a w)
    (hend : ∀ (a : Act) (w : World), a.defers = a0.defers → a.tmps.size = a0.tmps.size → G w → (∀ j, j < ops.size → R j (valOf ops a j) w) → (∀ t, idleB ops t = true → a.tmps.getD t undef = a0.tmps.getD t undef) → Q .normal a w) :
    ∀ (fuel : Nat) (listed : Array Bool) (a : Act) (w : World), unlisted listed ≤ fuel → GInv ops a0 C R G listed a w → wpAny P .any ops Q fuel listed a w := by
  have fin : ∀ (listed : Array Bool) (a : Act) (w : World), GInv ops a0 C R G listed a w → (∀ i, i < ops.size → listed.getD i false = true) → Q .normal a w := by
    intro listed a w h hall
    refine hend a w h.defers h.tmps h.all (fun j hj => h.vals j ops[j] (by simp [hj]) (hall j hj)) (fun t ht => h.old t fun k ok hok hk hc => ?_)
    have hk2 : k < ops.size := (Array.getElem?_eq_some_iff.1 hok).1
    have := List.all_eq_true.1 ht k (List.mem_range.2 hk2)
    rw [hok] at this
    simp [hc] at this
  intro fuel
  induction fuel with
  | zero =>
    intro listed a w hu h
    have hall := unlisted_zero (Nat.le_zero.1 hu)
    rw [h.size] at hall
    refine ⟨?_, fin listed a w h hall⟩
    apply List.eq_nil_iff_forall_not_mem.2
    intro i hi
    obtain ⟨o, ho, h1, _⟩ := (mem_ready h.size).1 hi
    rw [hall i (Array.getElem?_eq_some_iff.1 ho).1] at h1
    cases h1
  | succ fuel ih =>
    intro listed a w hu h
    refine ⟨fun hr => fin listed a w h (all_listed hsh h.size hr), fun i hi => ?_⟩
    obtain ⟨o, ho, h1, h2⟩ := (mem_ready h.size).1 hi
    have hlt : i < listed.size := by rw [h.size]; exact (Array.getElem?_eq_some_iff.1 ho).1
    have hall : ∀ j, depO o j = true → j < ops.size := fun j hj => by have := (shape_spec hsh i o ho).1 j hj; rw [h.size] at hlt; omega
    refine wpOp_mono (fun a' w' hp => ih _ a' w' ?_ (ginv_step hsh hCE hRE hGE h ho h1 h2 hp)) (hstep i o ho a w (ginv_ctx h ho h1 h2 hall))
    have := unlisted_set listed i hlt h1
    omega
end

/-- The region: each operation once. -/
theorem wp_region_G {P : Program} {l : List Oper} {Q : Exit → Act → World → Prop} {id : Nat} {a0 : Act} {w0 : World} (C : Nat → World → Prop) (R : Nat → Value → World → Prop) (E : Nat → World → World → Prop) (G : World → Prop)
    (hm : P.follows .mixedOrders = true) (hsh : shapeB l.toArray a0.tmps.size = true) (hG0 : G w0.drew) (hC0 : ∀ i, i < l.length → C i w0.drew)
    (hCE : ∀ i j w w', i < l.length → j < l.length → i ≠ j → depB l.toArray j i = false → G w → C i w → E j w w' → C i w')
    (hRE : ∀ i j v w w', i < l.length → j < l.length → i ≠ j → depB l.toArray i j = false → G w → R i v w → E j w w' → R i v w')
    (hGE : ∀ j w w', j < l.length → G w → C j w → E j w w' → G w')
    (hstep : AllFrom (fun i o => ∀ a w, GCtx l.toArray a0 C R G i a w → wpOp P l.toArray Q i (GPost R E i o a w) a w) 0 l)
    (hend : ∀ (vs : Nat → Value) (w : World), G w → AllFrom (fun i o => R i (match o.dst with | some _ => vs i | none => undef) w) 0 l → Q .normal (putAll l vs 0 a0) w) :
    (Code.region id l.toArray true).wp P Q a0 w0 := by
  refine wp_region_any hm (ginv_any (a0 := a0) (C := C) (R := R) (E := E) (G := G) hsh (fun i j w w' h1 h2 => hCE i j w w' (by simpa using h1) (by simpa using h2)) (fun i j v w w' h1 h2 => hRE i j v w w' (by simpa using h1) (by simpa using h2)) (fun j w w' h1 => hGE j w w' (by simpa using h1)) (fun i o ho a w hc => ?_) ?_ _ _ _ _ ?_ ⟨by simp, rfl, rfl, hG0, ?_, ?_, ?_, ?_⟩)
  · have := hstep.get i o (by simpa using ho) a w
    rw [Nat.zero_add] at this
    exact this hc
  · intro a w h1 h2 h3 h4 h5
    have hdlt : ∀ o ∈ l, ∀ d, o.dst = some d → d < a0.tmps.size := by
      intro o ho d hd
      obtain ⟨j, hj⟩ := List.getElem?_of_mem ho
      exact ((shape_spec hsh j o (by simpa using hj)).2 d hd).1
    have e : a = putAll l (valOf l.toArray a) 0 a0 := by
      refine act_ext (by rw [h1, (putAll_size l _ 0 a0).2]) (by rw [h2, (putAll_size l _ 0 a0).1]) (fun t ht => ?_)
      by_cases hw : ∃ (i : Nat) (o : Oper), l[i]? = some o ∧ o.dst = some t
      · obtain ⟨i, o, hi, hd⟩ := hw
        rw [putAll_at l _ 0 a0 i t o hi hd (fun j oj hj hji hc => dst_apart hsh (i := i) (j := j) (by simpa using hi) (by simpa using hj) (fun x => hji x.symm) hd hc) hdlt]
        simp [valOf, hi, hd]
      · rw [putAll_idle l _ 0 a0 t (fun o ho hd => hw (by obtain ⟨j, hj⟩ := List.getElem?_of_mem ho; exact ⟨j, o, hj, hd⟩)) hdlt]
        apply h5
        unfold idleB
        rw [List.all_eq_true]
        intro j hj
        simp only [List.mem_range, List.size_toArray] at hj
        have hj2 : l[j]? = some l[j] := by simp [hj]
        simp only [List.getElem?_toArray, hj2, Option.map_some, Option.getD_some, Bool.not_eq_true', beq_eq_false_iff_ne]
        exact fun hc => hw ⟨j, l[j], hj2, hc⟩
    rw [e]
    refine hend _ w h3 ?_
    refine AllFrom.of l 0 fun i o hi => ?_
    have hlt : i < l.length := (List.getElem?_eq_some_iff.1 hi).1
    have := h4 i (by simpa using hlt)
    rw [Nat.zero_add]
    simp only [valOf, List.getElem?_toArray, hi, Option.bind_some] at this ⊢
    cases hd : o.dst with
    | none => rw [hd] at this; exact this
    | some d => rw [hd] at this; exact this
  · unfold unlisted
    exact Nat.le_trans List.countP_le_length (by simp)
  · intro i o ho hl
    simp [Array.getD_eq_getD_getElem?, Array.getElem?_replicate] at hl
    split at hl <;> simp_all
  · intro i o ho _
    exact hC0 i (by simpa using (Array.getElem?_eq_some_iff.1 ho).1)
  · intro i o ho hl
    simp [Array.getD_eq_getD_getElem?, Array.getElem?_replicate] at hl
    split at hl <;> simp_all
  · intro t _; rfl

end Go.Proofs.Ytnjopfjmepbpoaa

/- Walks: Encode of attr. -/
namespace Go.Proofs.Ytnjopfjmepbpoaa
set_option linter.unusedSimpArgs false
set_option linter.unusedVariables false
set_option linter.unnecessarySimpa false
open Go.RowKit

theorem Rd.lit {w : World} {g n : Nat} {T : TypeId} {cs : Array Value} (l : List Value) (hg : g = w.heap.size) (hn : n = l.length) (hm : l.length ≤ 1000000) (hcs : cs = l.toArray) : Rd (w.alloc (.cells cs T)) (.slice (some ⟨g, 0, none⟩) n n) l := by
  subst hg hn hcs
  exact (Own.lit w l T 0 (Nat.zero_le _) (by unfold maxLen; omega)).rd

theorem concat3 {w : World} {u : Value} {g1 g2 g3 n1 n3 : Nat} {T1 T2 T3 : TypeId} {c1 c3 : Array Value} (l1 l2 l3 : List Int) (hu : Rd w u (l2.map (Value.int .i64))) (e1 : g1 = w.heap.size) (e2 : g2 = w.heap.size + 1) (e3 : g3 = w.heap.size + 1 + 1)
    (k1 : n1 = l1.length) (k3 : n3 = l3.length) (hc1 : c1 = (l1.map (Value.int .i64)).toArray) (hc3 : c3 = (l3.map (Value.int .i64)).toArray) (hl1 : l1.length ≤ 1000) (hl3 : l3.length ≤ 1000) (hl2 : l2.length ≤ 1000000) :
    Calls Try.prog 51 #[.slice (some ⟨g3, 0, none⟩) 3 3] (((w.alloc (.cells c1 T1)).alloc (.cells c3 T2)).alloc (.cells #[.slice (some ⟨g1, 0, none⟩) n1 n1, u, .slice (some ⟨g2, 0, none⟩) n3 n3] T3))
      (fun e w' => ∃ v, e = .returned v ∧ Own w.heap.size 3 w' v ((l1 ++ l2 ++ l3).map (Value.int .i64)) ∧ Below w.heap.size w w') := by
  have r1 : Rd (w.alloc (.cells c1 T1)) (.slice (some ⟨g1, 0, none⟩) n1 n1) (l1.map (Value.int .i64)) := Rd.lit _ e1 (by simp [k1]) (by simp; omega) hc1
  have r3 : Rd ((w.alloc (.cells c1 T1)).alloc (.cells c3 T2)) (.slice (some ⟨g2, 0, none⟩) n3 n3) (l3.map (Value.int .i64)) := Rd.lit _ (by simp [e2]) (by simp [k3]) (by simp; omega) hc3
  have r0 : Rd (((w.alloc (.cells c1 T1)).alloc (.cells c3 T2)).alloc (.cells #[.slice (some ⟨g1, 0, none⟩) n1 n1, u, .slice (some ⟨g2, 0, none⟩) n3 n3] T3)) (.slice (some ⟨g3, 0, none⟩) 3 3) [.slice (some ⟨g1, 0, none⟩) n1 n1, u, .slice (some ⟨g2, 0, none⟩) n3 n3] := Rd.lit _ (by simp [e3]) rfl (by simp) rfl
  refine (slicesConcatI _ _ [l1, l2, l3] _ r0 rfl (by simp) ?_ (by simp; omega)).mono ?_
  · intro i u' l h1 h2
    match i, h1, h2 with
    | 0, h1, h2 => simp at h1 h2; subst h1 h2; exact r1.below (below_two _ _ _)
    | 1, h1, h2 => simp at h1 h2; subst h1 h2; exact hu.below (below_three _ _ _ _)
    | 2, h1, h2 => simp at h1 h2; subst h1 h2; exact r3.below (below_alloc _ _)
  · rintro e w' ⟨v, rfl, ho, hb⟩
    refine ⟨v, rfl, ?_, blift (below_three _ _ _ _) hb⟩
    have := ho.lower (B' := w.heap.size) (below_three _ _ _ _).size
    simpa using this

theorem concat2 {w : World} {u1 u2 : Value} {g : Nat} {T : TypeId} (l1 l2 : List Int) (h1 : Rd w u1 (l1.map (Value.int .u8))) (h2 : Rd w u2 (l2.map (Value.int .u8))) (e : g = w.heap.size) (hl : l1.length + l2.length ≤ 1000000000) :
    Calls Try.prog 52 #[.slice (some ⟨g, 0, none⟩) 2 2] (w.alloc (.cells #[u1, u2] T)) (fun e w' => ∃ v, e = .returned v ∧ Own w.heap.size 5 w' v ((l1 ++ l2).map (Value.int .u8)) ∧ Below w.heap.size w w') := by
  have r0 : Rd (w.alloc (.cells #[u1, u2] T)) (.slice (some ⟨g, 0, none⟩) 2 2) [u1, u2] := Rd.lit _ e rfl (by simp) rfl
  refine (slicesConcatB _ _ [l1, l2] _ r0 rfl (by simp) ?_ (by simp; omega)).mono ?_
  · intro i u' l h3 h4
    match i, h3, h4 with
    | 0, h3, h4 => simp at h3 h4; subst h3 h4; exact h1.below (below_alloc _ _)
    | 1, h3, h4 => simp at h3 h4; subst h3 h4; exact h2.below (below_alloc _ _)
  · rintro e w' ⟨v, rfl, ho, hb⟩
    refine ⟨v, rfl, ?_, blift (below_alloc _ _) hb⟩
    have := ho.lower (B' := w.heap.size) (below_alloc _ _).size
    simpa using this
theorem intsB_len (l : List Int) (h : ∀ z ∈ l, -9223372036854775808 ≤ z ∧ z ≤ 9223372036854775807) : (intsB l).length ≤ 10 * l.length + (intB l.length).length := by
  have := flat_len l h
  rw [intsB, List.length_append]; omega
theorem strsB_len (l : List ByteArray) (h : SmallStrs l) (hl : l.length ≤ 1000) : (strsB l).length ≤ 1000010 * l.length + 10 := by
  have h1 := strs_len l h
  have h2 := intB_len l.length (by omega) (by omega)
  rw [strsB, List.length_append]; omega

/-- Two one-cell elements in a new block. -/
def Two (H : Nat) (x y : Value) (v : Value) (w : World) : Prop := ∃ g, v = .slice (some ⟨g, 0, none⟩) 2 2 ∧ H ≤ g ∧ w.cell? ⟨g, 0, none⟩ = some x ∧ w.cell? ⟨g, 1, none⟩ = some y
theorem Two.below {H : Nat} {x y v : Value} {w w' : World} (h : Two H x y v w) (hb : Below w.heap.size w w') : Two H x y v w' := by
  obtain ⟨g, h1, h2, h3, h4⟩ := h
  exact ⟨g, h1, h2, below_cell hb h3, below_cell hb h4⟩
theorem Two.grown {H : Nat} {x y v u : Value} {w w' : World} (h : Two H x y v w) (hg : w.grownBy w' u.ownBlock) (hu : ∀ k, u.ownBlock = some k → k < H) : Two H x y v w' := by
  obtain ⟨g, h1, h2, h3, h4⟩ := h
  have hne : some g ≠ u.ownBlock := fun e => by have := hu g e.symm; omega
  exact ⟨g, h1, h2, hg.cell h3 hne, hg.cell h4 hne⟩
theorem Two.rd {H : Nat} {x y v : Value} {w : World} (h : Two H x y v w) : Rd w v [x, y] := by
  obtain ⟨g, rfl, h2, h3, h4⟩ := h
  refine ⟨_, 2, g, 0, rfl, by simp, by simp [maxLen], fun _ => rfl, fun j u hu => ?_⟩
  match j, hu with
  | 0, hu => simp at hu; subst hu; exact h3
  | 1, hu => simp at hu; subst hu; exact h4
/-- Own slices of other types stay where one grows. -/
theorem Own.other {B E1 E2 : Nat} {w w' : World} {u v : Value} {cs ds : List Value} (h : Own B E1 w u cs) (h2 : Own B E2 w v ds) (hE : E1 ≠ E2) (hg : w.grownBy w' v.ownBlock) : Own B E1 w' u cs := by
  refine World.ownsRow.kept h hg ?_
  rcases h.2 with ⟨rfl, _⟩ | ⟨g, cap, cur, rfl, _, hgg, _⟩
  · exact .inl rfl
  · right
    intro e
    rcases h2.2 with ⟨rfl, _⟩ | ⟨g2, cap2, cur2, rfl, _, hgg2, _⟩
    · simp [Value.ownBlock] at e
    · simp [Value.ownBlock] at e
      subst e
      rw [hgg] at hgg2
      simp at hgg2
      exact hE hgg2.2
theorem Own.lt {B E : Nat} {w : World} {v : Value} {cs : List Value} (h : Own B E w v cs) : ∀ k, v.ownBlock = some k → B ≤ k ∧ k < w.heap.size := World.ownsRow.lt h
theorem AttrAt.grown {w w' : World} {b off : Nat} {x : PAttr} {u : Value} (h : AttrAt w b off x) (hg : w.grownBy w' u.ownBlock) (hu : ∀ k, u.ownBlock = some k → k < b) : AttrAt w' b off x := by
  have hne : some b ≠ u.ownBlock := fun e => by have := hu b e.symm; omega
  exact ⟨hg.cell h.1 hne, hg.cell h.2.1 hne, hg.cell h.2.2.1 hne, hg.cell h.2.2.2 hne⟩

section
variable (B H : Nat) (n s : Value) (cs ss : List Value) (y : PAttr) (wz : World)
def e6C (i : Nat) (w : World) : Prop := if i = 6 then Own B 3 w n cs else if i = 13 then Own B 9 w s ss else True
def e6L (ga : Nat) : List Value := [n, .pointer (some ⟨ga, 1, none⟩), .int .i64 y.kind, .pointer (some ⟨ga, 2, none⟩), .int .i64 y.n, undef, undef, s, .pointer (some ⟨ga, 0, none⟩), .string y.name, .pointer (some ⟨ga, 3, none⟩), .string y.s]
def e6R (i : Nat) (v : Value) (w : World) : Prop :=
  if i = 5 then Two H (.int .i64 y.kind) (.int .i64 y.n) v w else if i = 12 then Two H (.string y.name) (.string y.s) v w
  else if i = 6 ∨ i = 14 then Own B 3 w v (cs ++ [.int .i64 y.kind, .int .i64 y.n]) else if i = 13 ∨ i = 15 then Own B 9 w v (ss ++ [.string y.name, .string y.s])
  else v = (e6L n s y H).getD i undef
theorem e6R_imp {B H : Nat} {n s : Value} {cs ss : List Value} {y : PAttr} {i : Nat} {v : Value} {w w' : World} (f5 : ∀ x y, Two H x y v w → Two H x y v w') (f6 : i = 6 ∨ i = 14 → Own B 3 w v (cs ++ [.int .i64 y.kind, .int .i64 y.n]) → Own B 3 w' v (cs ++ [.int .i64 y.kind, .int .i64 y.n]))
    (f13 : i = 13 ∨ i = 15 → Own B 9 w v (ss ++ [.string y.name, .string y.s]) → Own B 9 w' v (ss ++ [.string y.name, .string y.s])) (h : e6R B H n s cs ss y i v w) : e6R B H n s cs ss y i v w' := by
  unfold e6R at h ⊢
  by_cases h5 : i = 5
  · rw [if_pos h5] at h ⊢; exact f5 _ _ h
  · rw [if_neg h5] at h ⊢
    by_cases h12 : i = 12
    · rw [if_pos h12] at h ⊢; exact f5 _ _ h
    · rw [if_neg h12] at h ⊢
      by_cases h6 : i = 6 ∨ i = 14
      · rw [if_pos h6] at h ⊢; exact f6 h6 h
      · rw [if_neg h6] at h ⊢
        by_cases h13 : i = 13 ∨ i = 15
        · rw [if_pos h13] at h ⊢; exact f13 h13 h
        · rw [if_neg h13] at h ⊢; exact h
def e6E (j : Nat) (w w' : World) : Prop := if j = 6 then Own B 3 w n cs ∧ w.grownBy w' n.ownBlock else if j = 13 then Own B 9 w s ss ∧ w.grownBy w' s.ownBlock else Below w.heap.size w w'
def e6G (w : World) : Prop := Below B wz w ∧ H ≤ w.heap.size ∧ AttrAt w H 0 y
end

set_option maxRecDepth 100000 in
set_option maxHeartbeats 1000000 in
theorem attrEncode (v : Value) (x : PEntry) (w : World) (hv : EntryV w v x) (hf : FitE x) (hs : SmallE x) : Calls Try.prog 18 #[v] w (MadeBytes w (encE x)) := by
  obtain ⟨vv, av, rfl, hi, hatt⟩ := hv
  have HB := Lib.hid (EntAt.box w x vv av 28 hi hatt)
  have hw0 : Below w.heap.size w (w.alloc (.cells #[.int .i64 x.id, .int .i64 x.ver, .int .i64 x.owner, .int .i64 x.filed, .int .i64 x.frm, .int .i64 x.to, .int .i64 x.born, vv, av] 28)) := below_alloc _ _
  obtain ⟨a1, cap1, b1, off1, rfl, -, hm1, -, -⟩ := hi.open
  obtain ⟨a, cap, b, off, rfl, hcap, hm, ha, hc⟩ := HB.out.2.2.2.2.2.2.2.2.2.2.open
  unfold maxLen at hm hm1
  have HF := Lib.hid hf
  obtain ⟨v1, v2, v3⟩ := hs
  have V3 := Lib.hid v3
  clear hi hatt hf v3
  unfold entryVal
  go_enter Try.func18, Try.ntmps18
  go_wp2_with fail
  generalize hw : w.alloc (.cells #[.int .i64 x.id, .int .i64 x.ver, .int .i64 x.owner, .int .i64 x.filed, .int .i64 x.frm, .int .i64 x.to, .int .i64 x.born, .slice a1 x.vec.length cap1, .slice a x.attrs.length cap] 28) = w0 at *
  have hsz : w.heap.size + 1 = w0.heap.size := by rw [← hw]; simp
  have hsz' : w.heap.size < w0.heap.size := by omega
  simp only [hsz]
  clear hw hsz
  refine (concat3 (headN x) x.vec [(x.attrs.length : Int)] HB.out.2.2.2.2.2.2.2.2.2.1 rfl rfl rfl rfl rfl rfl rfl (by simp [headN]) (by simp) (by omega)).mono ?_
  rintro e w1 ⟨v0, rfl, ho1, hb1⟩
  have HB1 := Lib.hid (HB.out.below hb1)
  obtain ⟨-, -, -, -, -, -, -, -, c8, -, -⟩ := HB1.out
  have hlo := ho1
  go_wp2
  go_loopw [3, 4, 36] (fun n s i wr => ∃ k : Nat, k ≤ x.attrs.length ∧ i = .int .i64 k ∧ Own w0.heap.size 3 wr n ((headN x ++ x.vec ++ [(x.attrs.length : Int)] ++ attrN (x.attrs.take k)).map (Value.int .i64)) ∧ Own w0.heap.size 9 wr s ((attrS (x.attrs.take k)).map Value.string) ∧ Below w0.heap.size w0 wr) (fun _ _ i _ => x.attrs.length - (intOf i).toNat)
  case atStart => exact ⟨0, by omega, rfl, by simpa [attrN] using ho1, by simpa [attrS] using Own.nil _ _ _, hb1⟩
  case round =>
    obtain ⟨k, hk, rfl, hn, hs, hb⟩ := hrel
    by_cases hlt : k < x.attrs.length
    · obtain ⟨y, hy⟩ := ints_get x.attrs k (by omega)
      have hy0 := hc.out k y hy
      have hbl : b < w0.heap.size := hy0.lt
      obtain ⟨d0, d1, d2, d3⟩ := hy0.below hb
      have HN := Lib.hid hn
      have HS := Lib.hid hs
      have hbw := hb.size
      have T1 := Lib.hid (attrN_take x.attrs k y hy)
      have T2 := Lib.hid (attrS_take x.attrs k y hy)
      obtain rfl := ha (by omega)
      clear hc hy ha hy0 hn hs
      go_wp2
      have hwa := below_alloc wr (.cells #[.string y.name, .int .i64 y.kind, .int .i64 y.n, .string y.s] 35)
      have AT := Lib.hid (AttrAt.box wr y 35)
      have hwas : wr.heap.size < (wr.alloc (.cells #[.string y.name, .int .i64 y.kind, .int .i64 y.n, .string y.s] 35)).heap.size := by simp
      generalize wr.alloc (.cells #[.string y.name, .int .i64 y.kind, .int .i64 y.n, .string y.s] 35) = wa at *
      obtain ⟨cs, hcs⟩ : ∃ cs : List Value, (headN x ++ x.vec ++ [(x.attrs.length : Int)] ++ attrN (x.attrs.take k)).map (Value.int .i64) = cs := ⟨_, rfl⟩
      obtain ⟨ss, hss⟩ : ∃ ss : List Value, (attrS (x.attrs.take k)).map Value.string = ss := ⟨_, rfl⟩
      have lcs : cs.length ≤ 1000000 := by rw [← hcs, List.length_map]; simp only [List.length_append, List.length_cons, List.length_nil, headN, attrN_len, List.length_take]; omega
      have lss : ss.length ≤ 1000000 := by rw [← hss, List.length_map]; simp only [attrS_len, List.length_take]; omega
      have HCS := Lib.hid hcs
      have HSS := Lib.hid hss
      rw [hcs] at HN
      rw [hss] at HS
      clear hcs hss
      have hu3 := fun k hk => (HN.out.lt k hk).2
      have hu4 := fun k hk => (HS.out.lt k hk).2
      have hu3' := fun k hk => (HN.out.lt k hk).1
      have hu4' := fun k hk => (HS.out.lt k hk).1
      refine wp_region_G (e6C w0.heap.size u3 u4 cs ss) (e6R w0.heap.size wr.heap.size u3 u4 cs ss y) (e6E w0.heap.size u3 u4 cs ss) (e6G w0.heap.size wr.heap.size y w0) (by kernel_rfl) (by kernel_rfl) ?_ ?_ ?_ ?_ ?_ ?_ ?_
      · exact ⟨(blift hb hwa).drew, Nat.le_of_lt hwas, AT.out.below ((Below.refl _ _).drew)⟩
      · intro i _
        unfold e6C
        split
        · exact (HN.out.kept hwa).drew
        · split
          · exact (HS.out.kept hwa).drew
          · trivial
      · intro i j w w' _ _ hij hd hG hC hE
        unfold e6E at hE
        unfold e6C at hC ⊢
        split at hE
        · subst j
          rw [if_neg hij]
          rw [if_neg hij] at hC
          split
          · rename_i h; rw [if_pos h] at hC; exact hC.other hE.1 (by decide) hE.2
          · trivial
        · split at hE
          · subst j
            split
            · rename_i h; rw [if_pos h] at hC; exact hC.other hE.1 (by decide) hE.2
            · first | trivial | (rw [if_neg hij]; trivial)
          · split
            · rename_i h; rw [if_pos h] at hC; exact hC.kept hE
            · rename_i h
              rw [if_neg h] at hC
              split
              · rename_i h2; rw [if_pos h2] at hC; exact hC.kept hE
              · trivial
      · intro i j v w w' _ _ hij hd hG hR hE
        unfold e6E at hE
        split at hE
        · subst j
          refine e6R_imp (fun _ _ h => h.grown hE.2 hu3) (fun h => ?_) (fun _ h => h.other hE.1 (by decide) hE.2) hR
          rcases h with rfl | rfl
          · exact absurd rfl hij
          · exact absurd (show depB _ 14 6 = true by kernel_rfl) (by rw [hd]; simp)
        · split at hE
          · subst j
            refine e6R_imp (fun _ _ h => h.grown hE.2 hu4) (fun _ h => h.other hE.1 (by decide) hE.2) (fun h => ?_) hR
            rcases h with rfl | rfl
            · exact absurd rfl hij
            · exact absurd (show depB _ 15 13 = true by kernel_rfl) (by rw [hd]; simp)
          · exact e6R_imp (fun _ _ h => h.below hE) (fun _ h => h.kept hE) (fun _ h => h.kept hE) hR
      · intro j w w' _ hG hC hE
        unfold e6E at hE
        split at hE
        · exact ⟨hG.1.grown hE.2 (Nat.le_trans hbw hG.2.1) hu3', Nat.le_trans hG.2.1 hE.2.size, hG.2.2.grown hE.2 hu3⟩
        · split at hE
          · exact ⟨hG.1.grown hE.2 (Nat.le_trans hbw hG.2.1) hu4', Nat.le_trans hG.2.1 hE.2.size, hG.2.2.grown hE.2 hu4⟩
          · exact ⟨hG.1.trans (hE.mono (Nat.le_trans hbw hG.2.1)), Nat.le_trans hG.2.1 hE.size, hG.2.2.below hE⟩
      · refine ⟨?_, ?_, ?_, ?_, ?_, ?_, ?_, ?_, ?_, ?_, ?_, ?_, ?_, ?_, ?_, ?_, trivial⟩
        · intro a w hc
          refine wpOp_at rfl rfl ?_
          have e3 : a.tmps.getD 3 undef = u3 := hc.old 3 (by kernel_rfl)
          have q3 : a.tmps[3]?.getD undef = u3 := by rw [← Array.getD_eq_getD_getElem?]; exact e3
          go_simp
          exact ⟨_, rfl, rfl, Below.refl _ _⟩
        · intro a w hc
          refine wpOp_at rfl rfl ?_
          have e6 : a.tmps.getD 6 undef = .pointer (some ⟨wr.heap.size, 0, none⟩) := hc.old 6 (by kernel_rfl)
          have q6 : a.tmps[6]?.getD undef = .pointer (some ⟨wr.heap.size, 0, none⟩) := by rw [← Array.getD_eq_getD_getElem?]; exact e6
          go_simp
          exact ⟨_, rfl, rfl, Below.refl _ _⟩
        · intro a w hc
          refine wpOp_at rfl rfl ?_
          have e41 : a.tmps.getD 41 undef = .pointer (some ⟨wr.heap.size, 1, none⟩) := hc.dep 1 (by kernel_rfl)
          have q41 : a.tmps[41]?.getD undef = .pointer (some ⟨wr.heap.size, 1, none⟩) := by rw [← Array.getD_eq_getD_getElem?]; exact e41
          obtain ⟨f0, f1, f2, f3⟩ := hc.all.2.2
          go_simp
          exact ⟨_, rfl, rfl, Below.refl _ _⟩
        · intro a w hc
          refine wpOp_at rfl rfl ?_
          have e6 : a.tmps.getD 6 undef = .pointer (some ⟨wr.heap.size, 0, none⟩) := hc.old 6 (by kernel_rfl)
          have q6 : a.tmps[6]?.getD undef = .pointer (some ⟨wr.heap.size, 0, none⟩) := by rw [← Array.getD_eq_getD_getElem?]; exact e6
          go_simp
          exact ⟨_, rfl, rfl, Below.refl _ _⟩
        · intro a w hc
          refine wpOp_at rfl rfl ?_
          have e43 : a.tmps.getD 43 undef = .pointer (some ⟨wr.heap.size, 2, none⟩) := hc.dep 3 (by kernel_rfl)
          have q43 : a.tmps[43]?.getD undef = .pointer (some ⟨wr.heap.size, 2, none⟩) := by rw [← Array.getD_eq_getD_getElem?]; exact e43
          obtain ⟨f0, f1, f2, f3⟩ := hc.all.2.2
          go_simp
          exact ⟨_, rfl, rfl, Below.refl _ _⟩
        · intro a w hc
          refine wpOp_at rfl rfl ?_
          have e42 : a.tmps.getD 42 undef = .int .i64 y.kind := hc.dep 2 (by kernel_rfl)
          have q42 : a.tmps[42]?.getD undef = .int .i64 y.kind := by rw [← Array.getD_eq_getD_getElem?]; exact e42
          have e44 : a.tmps.getD 44 undef = .int .i64 y.n := hc.dep 4 (by kernel_rfl)
          have q44 : a.tmps[44]?.getD undef = .int .i64 y.n := by rw [← Array.getD_eq_getD_getElem?]; exact e44
          go_simp
          exact ⟨_, rfl, ⟨_, rfl, hc.all.2.1, by simp, by simp⟩, below_alloc _ _⟩
        · intro a w hc
          refine wpOp_at rfl rfl ?_
          have e40 : a.tmps.getD 40 undef = u3 := hc.dep 0 (by kernel_rfl)
          have q40 : a.tmps[40]?.getD undef = u3 := by rw [← Array.getD_eq_getD_getElem?]; exact e40
          have hd : Two wr.heap.size (.int .i64 y.kind) (.int .i64 y.n) (a.tmps.getD 45 undef) w := hc.dep 5 (by kernel_rfl)
          have hcc : Own w0.heap.size 3 w u3 _ := hc.rely
          obtain ⟨g, hd1, hd2, hd3, hd4⟩ := hd
          obtain ⟨i0, hi0, hz0, hz1, hz2⟩ := info_parts (elemInt).info
          refine wp_append_own w (.tmp 40) (.tmp 45) 25 rfl w0.heap.size 3 i0 _ 1 8 Try.underlying25 hi0 hz0 hz1 hz2 rfl (by decide) u3 _ _ e40 hcc ⟨g, 0, none⟩ 2 2 [(.int .i64 y.kind), (.int .i64 y.n)] hd1 rfl ?_ ?_ (by unfold maxLen; omega) (by omega) ?_ ?_
          · intro j u' hj
            match j, hj with
            | 0, hj => simp at hj; subst hj; simpa [Addr.add] using hd3
            | 1, hj => simp at hj; subst hj; simpa [Addr.add] using hd4
          · intro u' hu'
            simp only [List.mem_cons, List.not_mem_nil, or_false] at hu'
            rcases hu' with rfl | rfl <;> rfl
          · exact Nat.le_trans (by omega) hc.all.2.1
          · intro v' w' ho' hg' _
            exact ⟨v', rfl, (show Own w0.heap.size 3 w' v' (cs ++ [.int .i64 y.kind, .int .i64 y.n]) from by simpa [Own] using ho'), hcc, hg'⟩
        · intro a w hc
          refine wpOp_at rfl rfl ?_
          have e4 : a.tmps.getD 4 undef = u4 := hc.old 4 (by kernel_rfl)
          have q4 : a.tmps[4]?.getD undef = u4 := by rw [← Array.getD_eq_getD_getElem?]; exact e4
          go_simp
          exact ⟨_, rfl, rfl, Below.refl _ _⟩
        · intro a w hc
          refine wpOp_at rfl rfl ?_
          have e6 : a.tmps.getD 6 undef = .pointer (some ⟨wr.heap.size, 0, none⟩) := hc.old 6 (by kernel_rfl)
          have q6 : a.tmps[6]?.getD undef = .pointer (some ⟨wr.heap.size, 0, none⟩) := by rw [← Array.getD_eq_getD_getElem?]; exact e6
          go_simp
          exact ⟨_, rfl, rfl, Below.refl _ _⟩
        · intro a w hc
          refine wpOp_at rfl rfl ?_
          have e48 : a.tmps.getD 48 undef = .pointer (some ⟨wr.heap.size, 0, none⟩) := hc.dep 8 (by kernel_rfl)
          have q48 : a.tmps[48]?.getD undef = .pointer (some ⟨wr.heap.size, 0, none⟩) := by rw [← Array.getD_eq_getD_getElem?]; exact e48
          obtain ⟨f0, f1, f2, f3⟩ := hc.all.2.2
          go_simp
          exact ⟨_, rfl, rfl, Below.refl _ _⟩
        · intro a w hc
          refine wpOp_at rfl rfl ?_
          have e6 : a.tmps.getD 6 undef = .pointer (some ⟨wr.heap.size, 0, none⟩) := hc.old 6 (by kernel_rfl)
          have q6 : a.tmps[6]?.getD undef = .pointer (some ⟨wr.heap.size, 0, none⟩) := by rw [← Array.getD_eq_getD_getElem?]; exact e6
          go_simp
          exact ⟨_, rfl, rfl, Below.refl _ _⟩
        · intro a w hc
          refine wpOp_at rfl rfl ?_
          have e50 : a.tmps.getD 50 undef = .pointer (some ⟨wr.heap.size, 3, none⟩) := hc.dep 10 (by kernel_rfl)
          have q50 : a.tmps[50]?.getD undef = .pointer (some ⟨wr.heap.size, 3, none⟩) := by rw [← Array.getD_eq_getD_getElem?]; exact e50
          obtain ⟨f0, f1, f2, f3⟩ := hc.all.2.2
          go_simp
          exact ⟨_, rfl, rfl, Below.refl _ _⟩
        · intro a w hc
          refine wpOp_at rfl rfl ?_
          have e49 : a.tmps.getD 49 undef = .string y.name := hc.dep 9 (by kernel_rfl)
          have q49 : a.tmps[49]?.getD undef = .string y.name := by rw [← Array.getD_eq_getD_getElem?]; exact e49
          have e51 : a.tmps.getD 51 undef = .string y.s := hc.dep 11 (by kernel_rfl)
          have q51 : a.tmps[51]?.getD undef = .string y.s := by rw [← Array.getD_eq_getD_getElem?]; exact e51
          go_simp
          exact ⟨_, rfl, ⟨_, rfl, hc.all.2.1, by simp, by simp⟩, below_alloc _ _⟩
        · intro a w hc
          refine wpOp_at rfl rfl ?_
          have e47 : a.tmps.getD 47 undef = u4 := hc.dep 7 (by kernel_rfl)
          have q47 : a.tmps[47]?.getD undef = u4 := by rw [← Array.getD_eq_getD_getElem?]; exact e47
          have hd : Two wr.heap.size (.string y.name) (.string y.s) (a.tmps.getD 52 undef) w := hc.dep 12 (by kernel_rfl)
          have hcc : Own w0.heap.size 9 w u4 _ := hc.rely
          obtain ⟨g, hd1, hd2, hd3, hd4⟩ := hd
          obtain ⟨i0, hi0, hz0, hz1, hz2⟩ := info_parts (elemStr).info
          refine wp_append_own w (.tmp 47) (.tmp 52) 51 rfl w0.heap.size 9 i0 _ 1 16 Try.underlying51 hi0 hz0 hz1 hz2 rfl (by decide) u4 _ _ e47 hcc ⟨g, 0, none⟩ 2 2 [(.string y.name), (.string y.s)] hd1 rfl ?_ ?_ (by unfold maxLen; omega) (by omega) ?_ ?_
          · intro j u' hj
            match j, hj with
            | 0, hj => simp at hj; subst hj; simpa [Addr.add] using hd3
            | 1, hj => simp at hj; subst hj; simpa [Addr.add] using hd4
          · intro u' hu'
            simp only [List.mem_cons, List.not_mem_nil, or_false] at hu'
            rcases hu' with rfl | rfl <;> rfl
          · exact Nat.le_trans (by omega) hc.all.2.1
          · intro v' w' ho' hg' _
            exact ⟨v', rfl, (show Own w0.heap.size 9 w' v' (ss ++ [.string y.name, .string y.s]) from by simpa [Own] using ho'), hcc, hg'⟩
        · intro a w hc
          refine wpOp_at rfl rfl ?_
          have hd : Own w0.heap.size _ w (a.tmps.getD 46 undef) _ := hc.dep 6 (by kernel_rfl)
          generalize hv : a.tmps.getD 46 undef = v at hd
          go_simp
          exact ⟨_, rfl, hd, Below.refl _ _⟩
        · intro a w hc
          refine wpOp_at rfl rfl ?_
          have hd : Own w0.heap.size _ w (a.tmps.getD 53 undef) _ := hc.dep 13 (by kernel_rfl)
          generalize hv : a.tmps.getD 53 undef = v at hd
          go_simp
          exact ⟨_, rfl, hd, Below.refl _ _⟩
      · rintro vs w2 ⟨hb2, -, -⟩ ⟨h0, h1, h2, h3, h4, h5, h6, h7, h8, h9, h10, h11, h12, h13, h14, h15, -⟩
        have o14 : Own w0.heap.size 3 w2 (vs 14) _ := h14
        have o15 : Own w0.heap.size 9 w2 (vs 15) _ := h15
        have O14 := Lib.hid o14
        have O15 := Lib.hid o15
        clear h0 h1 h2 h3 h4 h5 h6 h7 h8 h9 h10 h11 h12 h13 h14 h15 o14 o15
        simp only [putAll]
        go_wp2
        go_roundw
        case rel => exact ⟨k + 1, by omega, by go_num, by rw [T1.out, ← List.append_assoc, List.map_append, HCS.out]; exact O14.out, by rw [T2.out, List.map_append, HSS.out]; exact O15.out, hb2⟩
        case measure => simp [intOf]; omega
    · have e : x.attrs.take k = x.attrs := List.take_of_length_le (by omega)
      rw [e] at hn hs
      have HN := Lib.hid hn
      have HS := Lib.hid hs
      have FN := Lib.hid (encN_fit x HF.out ⟨v1, v2, V3.out⟩)
      have LN := encN_len x
      have FS := Lib.hid (attrS_small x.attrs V3.out)
      have LS := attrS_len x.attrs
      clear hc ha hn hs e
      go_wp2_with fail
      refine (wireInts _ (encN x) _ HN.out.rd FN.out (by omega)).mono ?_
      rintro e w2 ⟨v2', rfl, ho2, hb2⟩
      have HS2 := Lib.hid (HS.out.kept hb2)
      go_wp2_with fail
      refine (wireStrings _ (attrS x.attrs) _ HS2.out.rd FS.out (by omega)).mono ?_
      rintro e w3 ⟨v3', rfl, ho3, hb3⟩
      have h23 := Lib.hid (ho2.kept hb3)
      have h33 := Lib.hid ho3
      obtain ⟨p2, q2, rfl⟩ := ho2.form
      obtain ⟨p3, q3, rfl⟩ := ho3.form
      have hl2 := intsB_len (encN x) FN.out
      have hl2' := intB_len (encN x).length (by omega) (by omega)
      have hl3 := strsB_len (attrS x.attrs) FS.out (by omega)
      clear ho2 ho3
      simp only [List.length_map] at h23 h33
      go_wp2_with fail
      refine (concat2 (intsB (encN x)) (strsB (attrS x.attrs)) h23.out.rd h33.out.rd rfl (by omega)).mono ?_
      rintro e w4 ⟨v4', rfl, ho4, hb4⟩
      go_wp2
      go_ret
      have h13 := blift (blift (blift hb hb2) hb3) hb4
      exact ⟨_, rfl, ho4.lower (Nat.le_trans (Nat.le_trans (Nat.le_trans hw0.size hb.size) hb2.size) hb3.size), blift hw0 h13⟩

end Go.Proofs.Ytnjopfjmepbpoaa

/- Walks: words, def, Check of antiquaryref13. -/
namespace Go.Proofs.Ytnjopfjmepbpoaa
set_option linter.unusedSimpArgs false
set_option linter.unusedVariables false
set_option linter.unnecessarySimpa false
open Go.RowKit

theorem refMetric (n : Int) (w : World) : Calls Try.prog 22 #[.int .i64 n] w fun e w' => e = .returned (.bool (decide (1 ≤ n) && decide (n ≤ 3))) ∧ w = w' := by
  cases e : decide (1 ≤ n)
  all_goals
    go_enter Try.func22, Try.ntmps22
    go_wp2
    go_ret
    exact ⟨ret_bool (by simp), rfl⟩

theorem wordsE_long (l : List ByteArray) (h : l.length < 1 ∨ 50 < l.length) : wordsE l = 2 := by rw [wordsE, if_pos h]
theorem wordsE_name (l : List ByteArray) (h : ¬ (l.length < 1 ∨ 50 < l.length)) (h2 : l.any (fun s => !nameB s) = true) : wordsE l = 5 := by rw [wordsE, if_neg h, if_pos h2]
theorem wordsE_rise (l : List ByteArray) (h : ¬ (l.length < 1 ∨ 50 < l.length)) (h2 : l.any (fun s => !nameB s) = false) : wordsE l = if riseB l then 0 else 6 := by rw [wordsE, if_neg h, if_neg (by simp [h2])]

set_option maxRecDepth 100000 in
set_option maxHeartbeats 1000000 in
theorem refWords (v : Value) (l : List ByteArray) (w : World) (hv : Strs w v l) (hl : l.length ≤ 1000) (hsm : Hid (∀ s ∈ l, s.size ≤ 1000)) :
    Calls Try.prog 60 #[v] w (RetI w (wordsE l)) := by
  obtain ⟨a, cap, b, off, rfl, hcap, hm, ha, hc⟩ := hv.open
  have W1 := Lib.hid (wordsE_long l)
  have W2 := Lib.hid (wordsE_name l)
  have W3 := Lib.hid (wordsE_rise l)
  clear hv
  by_cases h1 : l.length < 1
  · have h1' : decide ((l.length : Int) < 1) = true := by simp only [decide_eq_true_eq]; omega
    go_enter Try.func60, Try.ntmps60
    go_wp2
    go_ret
    exact RetI.mk (W1.out (by omega)).symm (Below.refl _ _)
  · have h1' : decide ((l.length : Int) < 1) = false := by simp only [decide_eq_false_iff_not]; omega
    by_cases h2 : 50 < l.length
    · have h2' : decide ((50 : Int) < (l.length : Int)) = true := by simp only [decide_eq_true_eq]; omega
      go_enter Try.func60, Try.ntmps60
      go_wp2
      go_ret
      exact RetI.mk (W1.out (by omega)).symm (Below.refl _ _)
    · have h2' : decide ((50 : Int) < (l.length : Int)) = false := by simp only [decide_eq_false_iff_not]; omega
      obtain rfl := ha (by omega)
      have hpos : 1 ≤ l.length := by omega
      obtain ⟨x0, hx0⟩ := ints_get l 0 (by omega)
      have S0 : Hid (riseB l = riseGo x0 (l.drop 1)) := riseB_start l x0 hx0
      have X0 : Hid (l[0]? = some x0) := hx0
      clear hx0 ha
      go_enter Try.func60, Try.ntmps60
      go_wp2
      go_loopw [3] (fun i wr => ∃ k : Nat, k ≤ l.length ∧ i = .int .i64 k ∧ Below w.heap.size w wr ∧ Hid (l.any (fun s => !nameB s) = (l.drop k).any (fun s => !nameB s))) (fun i _ => l.length - (intOf i).toNat)
      case atStart => exact ⟨0, by omega, rfl, Below.refl _ _, rfl⟩
      case round =>
        obtain ⟨k, hk, rfl, hb, hh⟩ := hrel
        by_cases hlt : k < l.length
        · obtain ⟨y, hy⟩ := ints_get l k (by omega)
          have c0 := below_cell hb (hc.out k y hy)
          have H : Hid (_ = _) := any_drop l (fun s => !nameB s) k y hy
          have hs1 := hsm.out y (List.mem_of_getElem? hy)
          clear hy
          cases e : nameB y
          · have E := Lib.hid e
            clear e
            go_wp2_with fail
            refine (refName y _ (by omega)).mono ?_
            rintro e w2 ⟨rfl, hb2⟩
            rw [E.out]
            go_wp2
            go_ret
            exact RetI.mk (W2.out (by omega) (by rw [hh.out, H.out, E.out]; rfl)).symm (blift hb hb2)
          · have E := Lib.hid e
            clear e
            go_wp2_with fail
            refine (refName y _ (by omega)).mono ?_
            rintro e w2 ⟨rfl, hb2⟩
            rw [E.out]
            go_wp2
            go_roundw
            case rel => exact ⟨k + 1, by omega, by go_num, blift hb hb2, by rw [Hid, hh.out, H.out, E.out]; rfl⟩
            case measure => simp [intOf]; omega
        · have W4 := Lib.hid (W3.out (by omega) (by rw [hh.out, any_end _ _ _ (by omega)]))
          clear hh W1 W2 W3 hk
          go_wp2
          go_loopw [4] (fun i wr => ∃ k : Nat, ∃ p, k + 1 ≤ l.length ∧ i = .int .i64 ((k + 1 : Nat) : Int) ∧ Below w.heap.size w wr ∧ Hid (l[k]? = some p) ∧ Hid (riseB l = riseGo p (l.drop (k+1)))) (fun i _ => l.length - (intOf i).toNat)
          case atStart => exact ⟨0, x0, by omega, rfl, hb, X0, S0⟩
          case round =>
            obtain ⟨j, p, hk, rfl, hb, hp, hh⟩ := hrel
            by_cases hlt2 : j + 1 < l.length
            · obtain ⟨y, hy⟩ := ints_get l (j+1) (by omega)
              have c0 := below_cell hb (hc.out (j+1) y hy)
              have c1 := below_cell hb (hc.out j p hp.out)
              have H : Hid (_ = _) := riseGo_drop l j p y hy
              have Y : Hid (l[j+1]? = some y) := hy
              clear hy
              by_cases e : leqB y p = true
              · have e' : (Op.bytesLess y.toList p.toList || y.toList == p.toList) = true := e
                go_wp2
                go_quiet (fail)
                go_wp2
                go_ret
                exact RetI.mk (by rw [W4.out, hh.out, H.out, e]; rfl) (blift hb (below_drewN _ _))
              · have e2 : leqB y p = false := by simpa using e
                have e' : (Op.bytesLess y.toList p.toList || y.toList == p.toList) = false := e2
                go_wp2
                go_quiet (fail)
                go_wp2
                go_roundw
                case rel => exact ⟨j + 1, y, by omega, by go_num, blift hb (below_drewN _ _), Y, by rw [Hid, hh.out, H.out, e2]; rfl⟩
                case measure => simp [intOf]; omega
            · go_wp2
              go_ret
              exact RetI.mk (by rw [W4.out, hh.out, riseGo_end _ _ _ (by omega)]; rfl) hb

end Go.Proofs.Ytnjopfjmepbpoaa
