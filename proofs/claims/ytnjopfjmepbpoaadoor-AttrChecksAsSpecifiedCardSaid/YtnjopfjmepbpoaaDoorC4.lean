/- Merged: PlainB, PlainC, PlainW, PlainX, PlainY, PlainD, PlainF, PlainM, PlainZ, PlainS, Hc, Hd, BitOps, Wire, Wire2, Wire3, Wire4, Elem, Wire5, PlainT, AttrM, AttrA, AttrB, AttrC, AttrD, AttrE, AttrF, AttrJ, AttrK, StrA. -/
import Derived.WalkKit
import GoSem.Step
import Derived.Laws.RangeAny
import Derived.Lib.OthersKept
import Derived.Outline
import Derived.Lib.Hide
import Derived.Laws.EntriesVeiled
import Derived.Laws.BytesString
import Derived.Test.YtnjopfjmepbpoaaDoorC3
/- Plain lists, second part. -/
namespace Go.Proofs.YtnjopfjmepbpoaaDoor
set_option linter.unusedSimpArgs false
set_option linter.unusedVariables false
set_option linter.unnecessarySimpa false

def inR (x : Int) : Bool := decide (0 ≤ x) && decide (x < 4096)
def ofB (l : List Int) : List Int := if l.all inR then bitsL (tab (fun j => l.contains j)) else []
def ofE (l : List Int) : Int := if l.all inR then 0 else 1

theorem all_take (l : List Int) (k : Nat) (y : Int) (h : l[k]? = some y) : (l.take (k+1)).all inR = ((l.take k).all inR && inR y) := by
  rw [take_one l k y h]; simp
theorem not_all (l : List Int) (k : Nat) (y : Int) (h : l[k]? = some y) (hy : inR y = false) : l.all inR = false := by
  rw [List.all_eq_false]
  exact ⟨y, List.mem_of_getElem? h, by simp [hy]⟩
theorem contains_take (l : List Int) (k : Nat) (y j : Int) (h : l[k]? = some y) : (l.take (k+1)).contains j = ((l.take k).contains j || decide (j = y)) := by
  rw [take_one l k y h]; simp

/-- How many of the first elements are less than s. -/
def countLess (l : List Int) (s : Int) : Int := (l.filter (fun x => decide (x < s))).length
theorem countLess_take (l : List Int) (k : Nat) (y s : Int) (h : l[k]? = some y) : countLess (l.take (k+1)) s = countLess (l.take k) s + if y < s then 1 else 0 := by
  rw [countLess, take_one l k y h, List.filter_append, countLess]
  by_cases g : y < s <;> simp [g]
theorem countLess_le (l : List Int) (s : Int) : 0 ≤ countLess l s ∧ countLess l s ≤ l.length := by
  unfold countLess; have := List.length_filter_le (fun x => decide (x < s)) l; omega

def selR (l : List Int) (n : Int) : Int := if n < 0 ∨ (l.length : Int) ≤ n then -1 else l.getD n.toNat 0

theorem asc_le_last : ∀ (zs : List Int) (lo : Int), ascB lo zs = true → ∀ y ∈ zs, lo < y ∧ y ≤ 4096
  | [], _, _, y, h => by simp at h
  | z :: r, lo, h, y, hy => by
    simp only [ascB, Bool.and_eq_true, decide_eq_true_eq] at h
    rcases List.mem_cons.1 hy with rfl | hy
    · exact h.1
    · have := asc_le_last r z h.2 y hy; omega

/-- The slots before the k-th border are at most as many as that border. -/
theorem slotsL_len (zs : List Int) (hg : Good zs) : ∀ k, k ≤ zs.length → k % 2 = 0 → (slotsL (zs.take k)).length ≤ prevAt zs k + 1 ∨ k = 0 := by
  intro k
  induction k using Nat.strongRecOn with
  | _ k ih =>
    intro hk hk2
    match k, hk2 with
    | 0, _ => exact .inr rfl
    | 1, h => omega
    | k + 2, hk2 =>
      left
      obtain ⟨y, ha⟩ : ∃ y, zs[k]? = some y := ⟨zs[k], by simp⟩
      obtain ⟨z, hb⟩ : ∃ y, zs[k+1]? = some y := ⟨zs[k+1], by simp⟩
      rw [slotsL_take zs k _ _ ha hb (by omega), List.length_append, upto_length, prevAt_succ zs (k+1) _ hb]
      have h1 := hg.asc k _ _ ha hb
      have h2 := hg.rng k _ ha
      rcases ih k (by omega) (by omega) (by omega) with h | h
      · by_cases h0 : k = 0
        · subst h0; simp [slotsL]; omega
        · have hc : zs[k-1]? = some zs[k-1] := by simp
          have h3 := hg.asc (k-1) _ y hc (by rw [show k - 1 + 1 = k by omega]; exact ha)
          have h4 : prevAt zs k = zs[k-1] := by rw [← prevAt_succ zs (k-1) _ hc, show k - 1 + 1 = k by omega]
          omega
      · subst h; simp [slotsL]; omega
theorem slotsL_le (zs : List Int) (hg : Good zs) (k : Nat) (hk : k ≤ zs.length) (hk2 : k % 2 = 0) : (slotsL (zs.take k)).length ≤ 4097 := by
  rcases slotsL_len zs hg k hk hk2 with h | h
  · by_cases h0 : k = 0
    · subst h0; simp [slotsL]
    · have hc : zs[k-1]? = some zs[k-1] := by simp
      have h4 : prevAt zs k = zs[k-1] := by rw [← prevAt_succ zs (k-1) _ hc, show k - 1 + 1 = k by omega]
      have := hg.rng (k-1) _ hc
      omega
  · subst h; simp [slotsL]

end Go.Proofs.YtnjopfjmepbpoaaDoor

/- Plain: the differences of borders. -/
namespace Go.Proofs.YtnjopfjmepbpoaaDoor
set_option linter.unusedSimpArgs false
set_option linter.unusedVariables false
set_option linter.unnecessarySimpa false

def diffL : List Int → Int → List Int
  | [], _ => []
  | z :: r, last => (z - last) :: diffL r z
def sumL : List Int → Int → List Int
  | [], _ => []
  | d :: r, last => (last + d) :: sumL r (last + d)

theorem diffL_length : ∀ (zs : List Int) (l : Int), (diffL zs l).length = zs.length
  | [], _ => rfl
  | z :: r, l => by simp [diffL, diffL_length r z]
theorem sumL_length : ∀ (zs : List Int) (l : Int), (sumL zs l).length = zs.length
  | [], _ => rfl
  | z :: r, l => by simp [sumL, sumL_length r _]
theorem sum_diff : ∀ (zs : List Int) (l : Int), sumL (diffL zs l) l = zs
  | [], _ => rfl
  | z :: r, l => by
    rw [diffL, sumL, show l + (z - l) = z by omega, sum_diff r z]
theorem diff_sum : ∀ (ds : List Int) (l : Int), diffL (sumL ds l) l = ds
  | [], _ => rfl
  | d :: r, l => by
    rw [sumL, diffL, diff_sum r (l + d), show l + d - l = d by omega]

theorem diffL_get : ∀ (zs : List Int) (l : Int) (k : Nat) (y z : Int), zs[k]? = some y → zs[k+1]? = some z → (diffL zs l)[k+1]? = some (z - y)
  | [], _, k, y, z, h, _ => by simp at h
  | x :: r, l, 0, y, z, h, h2 => by
    simp at h; subst h
    match r with
    | [] => simp at h2
    | u :: r => simp at h2; subst h2; simp [diffL]
  | x :: r, l, k + 1, y, z, h, h2 => by
    have := diffL_get r x k y z (by simpa using h) (by simpa using h2)
    simpa [diffL] using this
theorem diffL_get0 (zs : List Int) (z : Int) (h : zs[0]? = some z) (l : Int) : (diffL zs l)[0]? = some (z - l) := by
  match zs with
  | [] => simp at h
  | x :: r => simp at h; subst h; simp [diffL]

/-- What bits.Encode has in memory, from the m-th place on. -/
def encAt (zs : List Int) (m : Nat) : List Int := zs.take m ++ (diffL zs 0).drop m

theorem encAt_length (zs : List Int) (m : Nat) (h : m ≤ zs.length) : (encAt zs m).length = zs.length := by
  simp [encAt, diffL_length]; omega
theorem encAt_all (zs : List Int) : encAt zs zs.length = zs := by
  simp [encAt, diffL_length]
theorem encAt_one (zs : List Int) (m : Nat) (h : m ≤ 1) : encAt zs m = diffL zs 0 := by
  match m, zs with
  | 0, zs => simp [encAt]
  | 1, [] => rfl
  | 1, z :: r => simp [encAt, diffL]
theorem encAt_get (zs : List Int) (m j : Nat) (y : Int) (hj : j < m) (h : zs[j]? = some y) : (encAt zs m)[j]? = some y := by
  have hlt := (List.getElem?_eq_some_iff.1 h).1
  rw [encAt, List.getElem?_append_left (by simp; omega), List.getElem?_take, if_pos hj, h]
theorem encAt_set (zs : List Int) (m : Nat) (y z : Int) (h1 : zs[m]? = some y) (h2 : zs[m+1]? = some z) : (encAt zs (m+2)).set (m+1) (z - y) = encAt zs (m+1) := by
  have hlt := (List.getElem?_eq_some_iff.1 h2).1
  have hd := diffL_get zs 0 m y z h1 h2
  have hdl := (List.getElem?_eq_some_iff.1 hd).1
  rw [encAt, encAt, show m + 2 = (m + 1) + 1 by omega, List.take_add_one, h2, Option.toList, List.append_assoc]
  rw [List.set_append_right _ _ (by rw [List.length_take]; omega)]
  congr 1
  rw [List.length_take, Nat.min_eq_left (by omega), Nat.sub_self]
  rw [List.drop_eq_getElem_cons (i := m + 1) hdl]
  have e := (List.getElem?_eq_some_iff.1 hd).2
  simp [e]

theorem diffL_fit : ∀ (zs : List Int) (l : Int), (∀ z ∈ zs, 0 ≤ z ∧ z ≤ 4096) → 0 ≤ l → l ≤ 4096 → ∀ d ∈ diffL zs l, -4096 ≤ d ∧ d ≤ 4096
  | [], _, _, _, _, d, h => by simp [diffL] at h
  | z :: r, l, h, h0, h1, d, hd => by
    have hz := h z (by simp)
    rw [diffL] at hd
    rcases List.mem_cons.1 hd with rfl | hd
    · omega
    · exact diffL_fit r z (fun u hu => h u (by simp [hu])) hz.1 hz.2 d hd

/-- What Decode makes of numbers: a set, if it is one. -/
def stepB (d : Int) : Bool := decide (0 ≤ d) && decide (d ≤ 4096)
def decOk (ds : List Int) : Bool := ds.all stepB && validB (sumL ds 0)

theorem stepB_take (l : List Int) (k : Nat) (y : Int) (h : l[k]? = some y) : (l.take (k+1)).all stepB = ((l.take k).all stepB && stepB y) := by
  rw [take_one l k y h]; simp
theorem not_step (l : List Int) (k : Nat) (y : Int) (h : l[k]? = some y) (hy : stepB y = false) : l.all stepB = false := by
  rw [List.all_eq_false]
  exact ⟨y, List.mem_of_getElem? h, by simp [hy]⟩

/-- The last sum of the first k numbers. -/
def lastSum (ds : List Int) (k : Nat) : Int := ((sumL ds 0).take k).getLastD 0

theorem sumL_snoc (d : Int) : ∀ (ds : List Int) (l : Int), sumL (ds ++ [d]) l = sumL ds l ++ [(sumL ds l).getLastD l + d]
  | [], l => by simp [sumL]
  | e :: r, l => by
    have := sumL_snoc d r (l + e)
    rw [List.cons_append, sumL, this, sumL, List.cons_append, List.getLastD_cons]
theorem sumL_take : ∀ (ds : List Int) (l : Int) (k : Nat), (sumL ds l).take k = sumL (ds.take k) l
  | [], l, k => by simp [sumL]
  | e :: r, l, 0 => by simp [sumL]
  | e :: r, l, k + 1 => by simp [sumL, sumL_take r (l + e) k]
theorem sum_step (ds : List Int) (k : Nat) (d : Int) (h : ds[k]? = some d) : (sumL ds 0).take (k+1) = (sumL ds 0).take k ++ [lastSum ds k + d] ∧ lastSum ds (k+1) = lastSum ds k + d := by
  have e : (sumL ds 0).take (k+1) = (sumL ds 0).take k ++ [lastSum ds k + d] := by
    rw [sumL_take, take_one ds k d h, sumL_snoc, lastSum, sumL_take]
  refine ⟨e, ?_⟩
  rw [lastSum, e]; simp
theorem lastSum_bd (ds : List Int) : ∀ k, k ≤ ds.length → (ds.take k).all stepB = true → 0 ≤ lastSum ds k ∧ lastSum ds k ≤ 4096 * k
  | 0, _, _ => by simp [lastSum]
  | k + 1, hk, h => by
    obtain ⟨d, hd⟩ : ∃ d, ds[k]? = some d := ⟨ds[k], by simp⟩
    rw [stepB_take ds k d hd, Bool.and_eq_true] at h
    have ih := lastSum_bd ds k (by omega) h.1
    rw [(sum_step ds k d hd).2]
    have h2 := h.2
    simp only [stepB, Bool.and_eq_true, decide_eq_true_eq] at h2
    omega

end Go.Proofs.YtnjopfjmepbpoaaDoor

/- Plain: the encoding of integers, as wire and antiquaryref01 have it. -/
namespace Go.Proofs.YtnjopfjmepbpoaaDoor
set_option linter.unusedSimpArgs false
set_option linter.unusedVariables false
set_option linter.unnecessarySimpa false

def zig (n : Int) : Nat := if 0 ≤ n then (2 * n).toNat else (-2 * n - 1).toNat
def unzig (z : Int) : Int := if z % 2 = 0 then z / 2 else -1 - z / 2

theorem zig_lt (n : Int) (h1 : -9223372036854775808 ≤ n) (h2 : n ≤ 9223372036854775807) : zig n < 18446744073709551616 := by unfold zig; split <;> omega
theorem unzig_zig (n : Int) : unzig (zig n) = n := by unfold unzig zig; split <;> split <;> omega

def leb (z : Nat) : List Int := if z < 128 then [(z : Int)] else ((z % 128 + 128 : Nat) : Int) :: leb (z / 128)
decreasing_by omega

theorem leb_small (z : Nat) (h : z < 128) : leb z = [(z : Int)] := by rw [leb, if_pos h]
theorem leb_big (z : Nat) (h : 128 ≤ z) : leb z = ((z % 128 + 128 : Nat) : Int) :: leb (z / 128) := by rw [leb, if_neg (by omega)]

theorem leb_pos (z : Nat) : 1 ≤ (leb z).length := by rw [leb]; split <;> simp

theorem leb_len (k : Nat) : ∀ z, z < 128 ^ (k + 1) → (leb z).length ≤ k + 1 := by
  induction k with
  | zero => intro z h; rw [leb_small z (by simpa using h)]; simp
  | succ k ih =>
    intro z h
    by_cases g : z < 128
    · rw [leb_small z g]; simp
    · rw [leb_big z (by omega)]
      have := ih (z / 128) (by rw [Nat.pow_succ] at h; exact Nat.div_lt_of_lt_mul (by omega))
      simp; omega

def intB (n : Int) : List Int := leb (zig n)

theorem leb64 (z : Nat) (h : z < 18446744073709551616) : (leb z).length ≤ 10 := leb_len 9 z (by have : 128 ^ (9 + 1) = 1180591620717411303424 := rfl; omega)

/-- What GetInt does from the k-th byte on: the number, how many bytes it has, the error. -/
def getGo : List Int → Nat → Int → Int × Int × Int
  | [], _, _ => (0, 0, 10)
  | c :: r, k, z =>
    if (k = 9 ∧ 1 < c) ∨ (0 < k ∧ c = 0) then (0, 0, 11)
    else if c < 128 then (unzig (z + c % 128 * 2 ^ (7 * k)), (k : Int) + 1, 0)
    else getGo r (k + 1) (z + c % 128 * 2 ^ (7 * k))
def getI (bs : List Int) : Int × Int × Int := getGo bs 0 0

theorem getGo_drop (bs : List Int) (k : Nat) (c z : Int) (h : bs[k]? = some c) : getGo (bs.drop k) k z =
    if (k = 9 ∧ 1 < c) ∨ (0 < k ∧ c = 0) then (0, 0, 11) else if c < 128 then (unzig (z + c % 128 * 2 ^ (7 * k)), (k : Int) + 1, 0) else getGo (bs.drop (k+1)) (k + 1) (z + c % 128 * 2 ^ (7 * k)) := by
  obtain ⟨hk, rfl⟩ := List.getElem?_eq_some_iff.1 h
  rw [List.drop_eq_getElem_cons (by omega), getGo]

theorem getGo_end (bs : List Int) (k : Nat) (z : Int) (h : bs.length ≤ k) : getGo (bs.drop k) k z = (0, 0, 10) := by
  rw [List.drop_eq_nil_of_le h, getGo]

end Go.Proofs.YtnjopfjmepbpoaaDoor

/- Plain: the value of digits, for antiquaryref01.GetInt. -/
namespace Go.Proofs.YtnjopfjmepbpoaaDoor
set_option linter.unusedSimpArgs false
set_option linter.unusedVariables false
set_option linter.unnecessarySimpa false

def val : List Int → Int
  | [] => 0
  | d :: r => d % 128 + 128 * val r

theorem pow7 (k : Nat) : (2 : Int) ^ (7 * (k + 1)) = 128 * 2 ^ (7 * k) := by
  rw [show 7 * (k + 1) = 7 * k + 7 by omega, Int.pow_add, Int.mul_comm]; rfl

theorem val_snoc (c : Int) : ∀ (l : List Int), val (l ++ [c]) = val l + c % 128 * 2 ^ (7 * l.length)
  | [] => by simp [val]
  | d :: r => by
    have := val_snoc c r
    simp only [List.cons_append, val, this, List.length_cons, pow7]
    rw [Int.mul_add, ← Int.mul_assoc, ← Int.mul_assoc, Int.mul_comm 128 (c % 128)]
    omega

theorem val_take (bs : List Int) (k : Nat) (c : Int) (h : bs[k]? = some c) : val (bs.take (k+1)) = val (bs.take k) + c % 128 * 2 ^ (7 * k) := by
  obtain ⟨hk, _⟩ := List.getElem?_eq_some_iff.1 h
  rw [List.take_add_one, h, Option.toList, val_snoc, List.length_take, Nat.min_eq_left (by omega)]

theorem val_lt : ∀ (l : List Int), 0 ≤ val l ∧ val l < 2 ^ (7 * l.length)
  | [] => by simp [val]
  | d :: r => by
    have := val_lt r
    simp only [val, List.length_cons, pow7]
    omega

theorem val_last (l : List Int) (c : Int) (h : c % 128 ≤ 1) : val (l ++ [c]) < 2 * 2 ^ (7 * l.length) := by
  rw [val_snoc]
  have h1 := val_lt l
  have hp : (0 : Int) < 2 ^ (7 * l.length) := Int.pow_pos (by decide)
  have hm : c % 128 * 2 ^ (7 * l.length) ≤ 1 * 2 ^ (7 * l.length) := Int.mul_le_mul_of_nonneg_right h (by omega)
  omega

/-- All values on the way are less than 2^64. -/
theorem val_fits (bs : List Int) (k i : Nat) (c : Int) (h : bs[k]? = some c) (hk : k ≤ 9) (hi : i ≤ k + 1) (h9 : k = 9 → c ≤ 1) (hc : 0 ≤ c) : 0 ≤ val ((bs.take (k+1)).drop i) ∧ val ((bs.take (k+1)).drop i) < 18446744073709551616 := by
  refine ⟨(val_lt _).1, ?_⟩
  obtain ⟨hlt, _⟩ := List.getElem?_eq_some_iff.1 h
  by_cases g : k = 9
  · by_cases hik : i = k + 1
    · rw [List.drop_eq_nil_of_le (by simp; omega)]; simp [val]
    · have e : (bs.take (k+1)).drop i = (bs.take k).drop i ++ [c] := by
        rw [List.take_add_one, h, Option.toList, List.drop_append_of_le_length (by simp; omega)]
      have hl : ((bs.take k).drop i).length ≤ 9 := by simp; omega
      rw [e]
      have h1 := val_last ((bs.take k).drop i) c (by have := h9 g; omega)
      have hle : (2 : Int) ^ (7 * ((bs.take k).drop i).length) ≤ 2 ^ 63 := by
        have h := Nat.pow_le_pow_right (n := 2) (by decide) (show 7 * ((bs.take k).drop i).length ≤ 63 by omega)
        exact_mod_cast h
      have e2 : (2 : Int) ^ 63 = 9223372036854775808 := by decide
      omega
  · have h1 := (val_lt ((bs.take (k+1)).drop i)).2
    have hl : ((bs.take (k+1)).drop i).length ≤ 9 := by simp; omega
    have hle : (2 : Int) ^ (7 * ((bs.take (k+1)).drop i).length) ≤ 2 ^ 63 := by
      have h := Nat.pow_le_pow_right (n := 2) (by decide) (show 7 * ((bs.take (k+1)).drop i).length ≤ 63 by omega)
      exact_mod_cast h
    have e2 : (2 : Int) ^ 63 = 9223372036854775808 := by decide
    omega

theorem val_step (bs : List Int) (k i : Nat) (c : Int) (hi : i ≤ k) (h : bs[i]? = some c) : val ((bs.take (k+1)).drop i) = c % 128 + 128 * val ((bs.take (k+1)).drop (i+1)) := by
  obtain ⟨hlt, e⟩ := List.getElem?_eq_some_iff.1 h
  rw [List.drop_eq_getElem_cons (by simp; omega), val]
  simp [e]

/-- After k bytes that are not the last ones. -/
theorem getI_lead (bs : List Int) : ∀ k, k ≤ 9 → (∀ (j : Nat) (c : Int), j < k → bs[j]? = some c → 128 ≤ c) → k ≤ bs.length → getI bs = getGo (bs.drop k) k (val (bs.take k))
  | 0, _, _, _ => rfl
  | k + 1, hk, hall, hl => by
    obtain ⟨c, hc⟩ : ∃ c, bs[k]? = some c := ⟨bs[k], by simp⟩
    have h1 := hall k c (by omega) hc
    rw [getI_lead bs k (by omega) (fun j d hj => hall j d (by omega)) (by omega), getGo_drop bs k c _ hc, if_neg (by omega), if_neg (by omega), val_take bs k c hc]

theorem getI_ten (bs : List Int) (hall : ∀ (j : Nat) (c : Int), j < 10 → bs[j]? = some c → 128 ≤ c) (hl : 10 ≤ bs.length) : getI bs = (0, 0, 11) := by
  obtain ⟨c, hc⟩ : ∃ c, bs[9]? = some c := ⟨bs[9], by simp⟩
  rw [getI_lead bs 9 (by omega) (fun j d hj => hall j d (by omega)) (by omega), getGo_drop bs 9 c _ hc, if_pos]
  left; have := hall 9 c (by omega) hc; omega

theorem getI_short (bs : List Int) (k : Nat) (hk : k ≤ 9) (hall : ∀ (j : Nat) (c : Int), j < k → bs[j]? = some c → 128 ≤ c) (hl : bs.length = k) : getI bs = (0, 0, 10) := by
  rw [getI_lead bs k hk hall (by omega), getGo_end _ _ _ (by omega)]

theorem getI_bad (bs : List Int) (k : Nat) (c : Int) (hk : k ≤ 9) (hall : ∀ (j : Nat) (c : Int), j < k → bs[j]? = some c → 128 ≤ c) (hc : bs[k]? = some c) (h : (k = 9 ∧ 1 < c) ∨ (0 < k ∧ c = 0)) : getI bs = (0, 0, 11) := by
  obtain ⟨hlt, _⟩ := List.getElem?_eq_some_iff.1 hc
  rw [getI_lead bs k hk hall (by omega), getGo_drop bs k c _ hc, if_pos h]

theorem getI_good (bs : List Int) (k : Nat) (c : Int) (hk : k ≤ 9) (hall : ∀ (j : Nat) (c : Int), j < k → bs[j]? = some c → 128 ≤ c) (hc : bs[k]? = some c) (h : ¬ ((k = 9 ∧ 1 < c) ∨ (0 < k ∧ c = 0))) (h1 : c < 128) :
    getI bs = (unzig (val (bs.take (k+1))), (k : Int) + 1, 0) := by
  obtain ⟨hlt, _⟩ := List.getElem?_eq_some_iff.1 hc
  rw [getI_lead bs k hk hall (by omega), getGo_drop bs k c _ hc, if_neg h, if_pos h1, val_take bs k c hc]

end Go.Proofs.YtnjopfjmepbpoaaDoor

/- Plain: lists of integers, encoded. -/
namespace Go.Proofs.YtnjopfjmepbpoaaDoor
set_option linter.unusedSimpArgs false
set_option linter.unusedVariables false
set_option linter.unnecessarySimpa false

theorem getGo_ok : ∀ (l : List Int) (k : Nat) (z : Int), k ≤ 9 → 0 ≤ z → z < 2 ^ (7 * k) → (∀ c ∈ l, 0 ≤ c ∧ c < 256) → (getGo l k z).2.2 = 0 →
    (k : Int) + 1 ≤ (getGo l k z).2.1 ∧ (getGo l k z).2.1 ≤ k + l.length ∧ -9223372036854775808 ≤ (getGo l k z).1 ∧ (getGo l k z).1 ≤ 9223372036854775807
  | [], k, z, _, _, _, _, h => by simp [getGo] at h
  | c :: r, k, z, hk, h0, hz, hby, h => by
    rw [getGo] at h ⊢
    by_cases g : (k = 9 ∧ 1 < c) ∨ (0 < k ∧ c = 0)
    · rw [if_pos g] at h; simp at h
    · rw [if_neg g] at h ⊢
      obtain ⟨c0, c1⟩ := hby c (by simp)
      have hp : (0 : Int) < 2 ^ (7 * k) := Int.pow_pos (by decide)
      have hn : 0 ≤ c % 128 * 2 ^ (7 * k) := Int.mul_nonneg (by omega) (by omega)
      have hm : c % 128 * 2 ^ (7 * k) ≤ 127 * 2 ^ (7 * k) := Int.mul_le_mul_of_nonneg_right (by omega) (by omega)
      by_cases g2 : c < 128
      · rw [if_pos g2] at h ⊢
        simp only at h ⊢
        have hlt : z + c % 128 * 2 ^ (7 * k) < 18446744073709551616 := by
          by_cases g9 : k = 9
          · subst g9
            have hm : c % 128 * 2 ^ (7 * 9) ≤ 1 * 2 ^ (7 * 9) := Int.mul_le_mul_of_nonneg_right (by omega) (by omega)
            have e : (2 : Int) ^ (7 * 9) = 9223372036854775808 := by decide
            rw [e] at *
            omega
          · have hle : (2 : Int) ^ (7 * k) ≤ 2 ^ 56 := by
              have h := Nat.pow_le_pow_right (n := 2) (by decide) (show 7 * k ≤ 56 by omega)
              exact_mod_cast h
            have e : (2 : Int) ^ 56 = 72057594037927936 := by decide
            rw [e] at hle
            omega
        have hnn : 0 ≤ z + c % 128 * 2 ^ (7 * k) := by omega
        generalize z + c % 128 * 2 ^ (7 * k) = q at *
        refine ⟨by omega, by simp; omega, ?_, ?_⟩ <;> (unfold unzig; split <;> omega)
      · rw [if_neg g2] at h ⊢
        have ih := getGo_ok r (k + 1) (z + c % 128 * 2 ^ (7 * k)) (by omega) (by omega) (by rw [pow7]; omega) (fun d hd => hby d (by simp [hd])) h
        simp only [List.length_cons]
        omega

theorem getI_ok (l : List Int) (hby : ∀ c ∈ l, 0 ≤ c ∧ c < 256) (h : (getI l).2.2 = 0) :
    1 ≤ (getI l).2.1 ∧ (getI l).2.1 ≤ l.length ∧ -9223372036854775808 ≤ (getI l).1 ∧ (getI l).1 ≤ 9223372036854775807 := by
  have := getGo_ok l 0 0 (by omega) (by omega) (by simp) hby h
  unfold getI; omega

theorem getGo_err : ∀ (l : List Int) (k : Nat) (z : Int), (getGo l k z).2.2 = 0 ∨ (getGo l k z).2.2 = 10 ∨ (getGo l k z).2.2 = 11
  | [], k, z => by simp [getGo]
  | c :: r, k, z => by
    rw [getGo]
    split
    · simp
    · split
      · simp
      · exact getGo_err r _ _

/-- The length of a list whose elements have at least so many bytes. -/
def lenL (bs : List Int) (least : Int) : Int × Int × Int :=
  if (getI bs).2.2 ≠ 0 then (0, 0, (getI bs).2.2)
  else if (getI bs).1 < 0 then (0, 0, 11)
  else if (bs.length - (getI bs).2.1) / least < (getI bs).1 then (0, 0, 10)
  else ((getI bs).1, (getI bs).2.1, 0)

theorem lenL_ok (bs : List Int) (least : Int) (hby : ∀ c ∈ bs, 0 ≤ c ∧ c < 256) (h : (lenL bs least).2.2 = 0) :
    0 ≤ (lenL bs least).1 ∧ 1 ≤ (lenL bs least).2.1 ∧ (lenL bs least).2.1 ≤ bs.length ∧ (lenL bs least).1 ≤ (bs.length - (lenL bs least).2.1) / least := by
  unfold lenL at *
  by_cases h1 : (getI bs).2.2 ≠ 0
  · rw [if_pos h1] at h; exact absurd h h1
  · rw [if_neg h1] at h ⊢
    have := getI_ok bs hby (by simpa using h1)
    by_cases h2 : (getI bs).1 < 0
    · rw [if_pos h2] at h; simp at h
    · rw [if_neg h2] at h ⊢
      by_cases h3 : (bs.length - (getI bs).2.1) / least < (getI bs).1
      · rw [if_pos h3] at h; simp at h
      · rw [if_neg h3] at h ⊢
        simp only
        omega

/-- n integers, from the beginning of bytes on: them, their bytes, the error. -/
def getN : Nat → List Int → List Int × Int × Int
  | 0, _ => ([], 0, 0)
  | n + 1, bs =>
    if (getI bs).2.2 ≠ 0 then ([], 0, (getI bs).2.2)
    else if (getN n (bs.drop (getI bs).2.1.toNat)).2.2 ≠ 0 then ([], 0, (getN n (bs.drop (getI bs).2.1.toNat)).2.2)
    else ((getI bs).1 :: (getN n (bs.drop (getI bs).2.1.toNat)).1, (getI bs).2.1 + (getN n (bs.drop (getI bs).2.1.toNat)).2.1, 0)

/-- What follows some elements and some bytes. -/
def andThen (out : List Int) (at_ : Int) (s : List Int × Int × Int) : List Int × Int × Int :=
  if s.2.2 ≠ 0 then ([], 0, s.2.2) else (out ++ s.1, at_ + s.2.1, 0)

def getInts (bs : List Int) : List Int × Int × Int :=
  if (lenL bs 1).2.2 ≠ 0 then ([], 0, (lenL bs 1).2.2) else andThen [] (lenL bs 1).2.1 (getN (lenL bs 1).1.toNat (bs.drop (lenL bs 1).2.1.toNat))

theorem andThen_err (out : List Int) (at_ : Int) (n : Nat) (bs : List Int) (r : Int × Int × Int) (hr : getI bs = r) (h : r.2.2 ≠ 0) : andThen out at_ (getN (n + 1) bs) = ([], 0, r.2.2) := by
  subst hr
  simp [andThen, getN, h]
theorem andThen_step (out : List Int) (at_ : Int) (n : Nat) (bs : List Int) (r : Int × Int × Int) (hr : getI bs = r) (h : r.2.2 = 0) :
    andThen out at_ (getN (n + 1) bs) = andThen (out ++ [r.1]) (at_ + r.2.1) (getN n (bs.drop r.2.1.toNat)) := by
  subst hr
  by_cases g : (getN n (bs.drop (getI bs).2.1.toNat)).2.2 = 0
  · simp [andThen, getN, h, g]; omega
  · simp [andThen, getN, h, g]
theorem andThen_done (out : List Int) (at_ : Int) (bs : List Int) : andThen out at_ (getN 0 bs) = (out, at_, 0) := by simp [andThen, getN]

/-- The bytes of a list. -/
def intsB (l : List Int) : List Int := intB l.length ++ (l.map intB).flatten

theorem intB_len (n : Int) (h1 : -9223372036854775808 ≤ n) (h2 : n ≤ 9223372036854775807) : 1 ≤ (intB n).length ∧ (intB n).length ≤ 10 := ⟨leb_pos _, leb64 _ (zig_lt n h1 h2)⟩

theorem flat_len (l : List Int) (h : ∀ z ∈ l, -9223372036854775808 ≤ z ∧ z ≤ 9223372036854775807) : ((l.map intB).flatten).length ≤ 10 * l.length := by
  induction l with
  | nil => simp
  | cons a r ih =>
    have h1 := intB_len a (h a (by simp)).1 (h a (by simp)).2
    have h2 := ih (fun z hz => h z (by simp [hz]))
    simp only [List.map_cons, List.flatten_cons, List.length_append, List.length_cons]
    omega
theorem flat_take (l : List Int) (k : Nat) (a : Int) (h : l[k]? = some a) : ((l.take (k+1)).map intB).flatten = ((l.take k).map intB).flatten ++ intB a := by
  rw [List.take_add_one, h]; simp

end Go.Proofs.YtnjopfjmepbpoaaDoor

/- Plain: Decode. -/
namespace Go.Proofs.YtnjopfjmepbpoaaDoor
set_option linter.unusedSimpArgs false
set_option linter.unusedVariables false
set_option linter.unnecessarySimpa false

theorem getN_len : ∀ (n : Nat) (bs : List Int), (getN n bs).1.length ≤ n
  | 0, _ => by simp [getN]
  | n + 1, bs => by
    have := getN_len n (bs.drop (getI bs).2.1.toNat)
    rw [getN]
    split
    · simp
    · split
      · simp
      · simp; exact this

theorem getInts_len (bs : List Int) (hby : ∀ c ∈ bs, 0 ≤ c ∧ c < 256) : (getInts bs).1.length ≤ bs.length := by
  rw [getInts]
  by_cases h : (lenL bs 1).2.2 ≠ 0
  · rw [if_pos h]; simp
  · rw [if_neg h]
    have ok := lenL_ok bs 1 hby (by simpa using h)
    have hn := getN_len (lenL bs 1).1.toNat (bs.drop (lenL bs 1).2.1.toNat)
    rw [andThen]
    split
    · simp
    · simp only [List.nil_append]
      simp only [Int.ediv_one] at ok
      omega

def decL (bs : List Int) : List Int × Int :=
  if (getInts bs).2.2 ≠ 0 ∨ (getInts bs).2.1 ≠ bs.length then ([], 11)
  else if decOk (getInts bs).1 then (sumL (getInts bs).1 0, 0) else ([], 11)

def decAt (ds : List Int) (k : Nat) : List Int := (sumL ds 0).take k ++ ds.drop k

theorem decAt_length (ds : List Int) (k : Nat) : (decAt ds k).length = ds.length := by simp [decAt, sumL_length]; omega
theorem decAt_zero (ds : List Int) : decAt ds 0 = ds := by simp [decAt]
theorem decAt_all (ds : List Int) (k : Nat) (h : ds.length ≤ k) : decAt ds k = sumL ds 0 := by
  rw [decAt, List.drop_eq_nil_of_le h, List.take_of_length_le (by rw [sumL_length]; exact h)]; simp
theorem decAt_get (ds : List Int) (k : Nat) (d : Int) (h : ds[k]? = some d) : (decAt ds k)[k]? = some d := by
  have hlt := (List.getElem?_eq_some_iff.1 h).1
  rw [decAt, List.getElem?_append_right (by rw [List.length_take]; omega), List.length_take, sumL_length, Nat.min_eq_left (by omega), Nat.sub_self, List.getElem?_drop]
  simpa using h
theorem decAt_prev (ds : List Int) (k : Nat) (hk : 0 < k) (hl : k ≤ ds.length) : (decAt ds k)[k-1]? = some (lastSum ds k) := by
  rw [decAt, List.getElem?_append_left (by simp [sumL_length]; omega), lastSum]
  rw [List.getLastD_eq_getLast?, List.getLast?_eq_getElem?]
  simp only [List.length_take, sumL_length, Nat.min_eq_left hl]
  have hlt : k - 1 < ((sumL ds 0).take k).length := by simp [sumL_length]; omega
  rw [List.getElem?_eq_getElem hlt]; rfl
theorem decAt_set (ds : List Int) (k : Nat) (d : Int) (h : ds[k]? = some d) : (decAt ds k).set k (lastSum ds k + d) = decAt ds (k+1) := by
  have hlt := (List.getElem?_eq_some_iff.1 h).1
  rw [decAt, decAt, (sum_step ds k d h).1, drop_one ds k d h]
  have e : ((sumL ds 0).take k).length = k := by simp [sumL_length]; omega
  rw [List.set_append_right _ _ (by omega), e, Nat.sub_self]
  simp
theorem decAt_first (ds : List Int) (d : Int) (h : ds[0]? = some d) : decAt ds 1 = decAt ds 0 := by
  rw [← decAt_set ds 0 d h]
  match ds with
  | [] => simp at h
  | x :: r => simp at h; subst h; simp [decAt, lastSum]

end Go.Proofs.YtnjopfjmepbpoaaDoor

/- Plain: how many borders are not greater than a number. -/
namespace Go.Proofs.YtnjopfjmepbpoaaDoor
set_option linter.unusedSimpArgs false
set_option linter.unusedVariables false
set_option linter.unnecessarySimpa false

def runL (x y : Int) : List Int := if max x 0 < min y 4096 then [max x 0, min y 4096] else []

def afterL (zs : List Int) (x : Int) : Nat := (zs.takeWhile (fun y => decide (y ≤ x))).length

theorem afterL_eq (x : Int) : ∀ (zs : List Int) (i : Nat), i ≤ zs.length → (∀ (m : Nat) (y : Int), m < i → zs[m]? = some y → y ≤ x) → (∀ y : Int, zs[i]? = some y → x < y) → afterL zs x = i
  | [], i, hi, _, _ => by simp at hi; subst hi; rfl
  | z :: r, 0, _, _, h2 => by
    have := h2 z rfl
    simp [afterL, show ¬ z ≤ x by omega]
  | z :: r, i + 1, hi, h1, h2 => by
    have hz := h1 0 z (by omega) rfl
    have ih := afterL_eq x r i (by simpa using hi) (fun m y hm hy => h1 (m+1) y (by omega) (by simpa using hy)) (fun y hy => h2 y (by simpa using hy))
    simp only [afterL, List.takeWhile_cons, decide_eq_true_eq, hz, if_true, List.length_cons] at ih ⊢
    omega

theorem good_le {zs : List Int} (hg : Good zs) : ∀ (i j : Nat) (y z : Int), i ≤ j → zs[i]? = some y → zs[j]? = some z → y ≤ z := by
  intro i j
  induction j with
  | zero => intro y z h hy hz; obtain rfl : i = 0 := by omega
            rw [hy] at hz; cases hz; omega
  | succ j ih =>
    intro y z h hy hz
    by_cases e : i = j + 1
    · subst e; rw [hy] at hz; cases hz; omega
    · have hlt := (List.getElem?_eq_some_iff.1 hz).1
      obtain ⟨u, hu⟩ : ∃ u, zs[j]? = some u := ⟨zs[j], by simp⟩
      have h1 := ih y u (by omega) hy hu
      have h2 := hg.asc j u z hu hz
      omega

theorem hasL_after (x : Int) : ∀ (zs : List Int) (lo : Int), ascB lo zs = true → hasL zs x = decide (afterL zs x % 2 = 1) ∨ zs.length % 2 = 1
  | [], _, _ => .inl rfl
  | [_], _, _ => .inr rfl
  | a :: b :: r, lo, h => by
    simp only [ascB, Bool.and_eq_true, decide_eq_true_eq] at h
    obtain ⟨⟨h1, h2⟩, ⟨h3, h4⟩, h5⟩ := h
    rcases hasL_after x r b h5 with ih | ih
    · left
      rw [hasL]
      by_cases g1 : a ≤ x
      · by_cases g2 : b ≤ x
        · have e : afterL (a :: b :: r) x = afterL r x + 2 := by simp [afterL, g1, g2]
          rw [e, ih]
          simp [g1, show ¬ x < b by omega]
        · have e : afterL (a :: b :: r) x = 1 := by simp [afterL, g1, g2]
          rw [e]; simp [g1, show x < b by omega]
      · have e : afterL (a :: b :: r) x = 0 := by simp [afterL, g1]
        have e2 : afterL r x = 0 := by
          have := afterL_eq x r 0 (by omega) (fun m y hm => absurd hm (by omega)) (fun y hy => by have := (ascB_rng r b h5 0 y hy).1; omega)
          exact this
        rw [e, ih, e2]; simp [g1]
    · right; simp; omega

theorem hasL_eq {zs : List Int} (hv : validB zs = true) (x : Int) : hasL zs x = decide (afterL zs x % 2 = 1) := by
  simp only [validB, Bool.and_eq_true, decide_eq_true_eq] at hv
  rcases hasL_after x zs (-1) hv.1 with h | h
  · exact h
  · omega

end Go.Proofs.YtnjopfjmepbpoaaDoor

/- Plain: sets as lists of borders: they are equal if they have the same slots; what Bits and merge make are sets. -/
namespace Go.Proofs.YtnjopfjmepbpoaaDoor
set_option linter.unusedSimpArgs false
set_option linter.unusedVariables false
set_option linter.unnecessarySimpa false

theorem ascB_mono : ∀ (l : List Int) (lo lo' : Int), ascB lo l = true → lo' ≤ lo → ascB lo' l = true
  | [], _, _, _, _ => rfl
  | z :: r, lo, lo', h, hl => by
    simp only [ascB, Bool.and_eq_true, decide_eq_true_eq] at h ⊢
    exact ⟨⟨by omega, h.1.2⟩, h.2⟩

theorem hasL_below : ∀ (l : List Int) (lo x : Int), ascB lo l = true → x ≤ lo → hasL l x = false
  | [], _, _, _, _ => rfl
  | [_], _, _, _, _ => rfl
  | a :: b :: r, lo, x, h, hx => by
    simp only [ascB, Bool.and_eq_true, decide_eq_true_eq] at h
    rw [hasL, hasL_below r b x h.2.2 (by omega), show decide (a ≤ x) = false by simp; omega]; rfl

theorem set_ext : ∀ (a b : List Int) (lo : Int), ascB lo a = true → ascB lo b = true → a.length % 2 = 0 → b.length % 2 = 0 → (∀ x, hasL a x = hasL b x) → a = b
  | [], [], _, _, _, _, _, _ => rfl
  | [], [_], _, _, _, _, h, _ => by simp at h
  | [_], _, _, _, _, h, _, _ => by simp at h
  | [], b1 :: b2 :: br, lo, _, hb, _, _, h => by
    simp only [ascB, Bool.and_eq_true, decide_eq_true_eq] at hb
    have := h b1
    simp [hasL] at this
    omega
  | a1 :: a2 :: ar, [], lo, ha, _, _, _, h => by
    simp only [ascB, Bool.and_eq_true, decide_eq_true_eq] at ha
    have := h a1
    simp [hasL] at this
    omega
  | a1 :: a2 :: ar, [_], _, _, _, _, h, _ => by simp at h
  | a1 :: a2 :: ar, b1 :: b2 :: br, lo, ha, hb, la, lb, h => by
    simp only [ascB, Bool.and_eq_true, decide_eq_true_eq] at ha hb
    obtain ⟨⟨ha1, _⟩, ⟨ha2, ha3⟩, ha4⟩ := ha
    obtain ⟨⟨hb1, _⟩, ⟨hb2, hb3⟩, hb4⟩ := hb
    have e1 : a1 = b1 := by
      have h1 := h a1
      have h2 := h b1
      rw [hasL, hasL, show (decide (a1 ≤ a1) && decide (a1 < a2)) = true by simp; omega] at h1
      rw [hasL, hasL, show (decide (b1 ≤ b1) && decide (b1 < b2)) = true by simp; omega] at h2
      simp only [Bool.true_or, Bool.or_true] at h1 h2
      by_cases g : a1 < b1
      · rw [hasL_below br b2 a1 hb4 (by omega), show decide (b1 ≤ a1) = false by simp; omega] at h1
        simp at h1
      · by_cases g2 : b1 < a1
        · rw [hasL_below ar a2 b1 ha4 (by omega), show decide (a1 ≤ b1) = false by simp; omega] at h2
          simp at h2
        · omega
    subst e1
    have e2 : a2 = b2 := by
      by_cases g : a2 < b2
      · have h1 := h a2
        rw [hasL, hasL, hasL_below ar a2 a2 ha4 (by omega), show (decide (a1 ≤ a2) && decide (a2 < a2)) = false by simp, show (decide (a1 ≤ a2) && decide (a2 < b2)) = true by simp; omega] at h1
        simp at h1
      · by_cases g2 : b2 < a2
        · have h1 := h b2
          rw [hasL, hasL, hasL_below br b2 b2 hb4 (by omega), show (decide (a1 ≤ b2) && decide (b2 < b2)) = false by simp, show (decide (a1 ≤ b2) && decide (b2 < a2)) = true by simp; omega] at h1
          simp at h1
        · omega
    subst e2
    have e3 : ar = br := by
      refine set_ext ar br a2 ha4 hb4 (by simp at la; omega) (by simp at lb; omega) (fun x => ?_)
      by_cases g : x ≤ a2
      · rw [hasL_below ar a2 x ha4 g, hasL_below br a2 x hb4 g]
      · have h1 := h x
        rw [hasL, hasL, show decide (x < a2) = false by simp; omega] at h1
        simpa using h1
    rw [e3]

theorem valid_ext {a b : List Int} (ha : validB a = true) (hb : validB b = true) (h : ∀ x, hasL a x = hasL b x) : a = b := by
  simp only [validB, Bool.and_eq_true, decide_eq_true_eq] at ha hb
  exact set_ext a b (-1) ha.1 hb.1 ha.2 hb.2 h

/-- A list of bools, from the place x on. -/
def memB (l : List Bool) (x y : Int) : Bool := decide (x ≤ y) && l.getD (y - x).toNat false

theorem memB_cons (c : Bool) (r : List Bool) (x y : Int) : memB (c :: r) x y = ((decide (y = x) && c) || memB r (x + 1) y) := by
  unfold memB
  by_cases h : y = x
  · subst h; simp [show ¬ (y + 1 ≤ y) by omega]
  · by_cases g : x ≤ y
    · obtain ⟨k, hk⟩ : ∃ k : Nat, (y - x).toNat = k + 1 := ⟨(y - x).toNat - 1, by omega⟩
      rw [hk, show (y - (x + 1)).toNat = k by omega]
      simp [h, g, show x + 1 ≤ y by omega]
    · simp [h, g, show ¬ (x + 1 ≤ y) by omega]

theorem bitsGo_spec : ∀ (l : List Bool) (x : Int), 0 ≤ x → x + l.length ≤ 4096 →
    (ascB (x - 1) (bitsGo l x false) = true ∧ (bitsGo l x false).length % 2 = 0 ∧ ∀ y, hasL (bitsGo l x false) y = memB l x y) ∧
    (∀ s, s < x → ascB s (bitsGo l x true) = true ∧ (bitsGo l x true).length % 2 = 1 ∧ ∀ y, hasL (s :: bitsGo l x true) y = ((decide (s ≤ y) && decide (y < x)) || memB l x y))
  | [], x, h0, h1 => by
    refine ⟨⟨rfl, rfl, fun y => by simp [bitsGo, hasL, memB]⟩, fun s hs => ⟨by simp [bitsGo, ascB] at h1 ⊢; omega, rfl, fun y => by simp [bitsGo, hasL, memB]⟩⟩
  | c :: r, x, h0, h1 => by
    obtain ⟨⟨f1, f2, f3⟩, ft⟩ := bitsGo_spec r (x + 1) (by omega) (by simp at h1; omega)
    have hx : x ≤ 4096 := by simp at h1; omega
    refine ⟨?_, fun s hs => ?_⟩
    · cases c
      · refine ⟨?_, ?_, fun y => ?_⟩
        · rw [bitsGo, if_pos rfl]; exact ascB_mono _ _ _ f1 (by omega)
        · rw [bitsGo, if_pos rfl]; exact f2
        · rw [bitsGo, if_pos rfl, f3, memB_cons]; simp
      · obtain ⟨t1, t2, t3⟩ := ft x (by omega)
        refine ⟨?_, ?_, fun y => ?_⟩
        · rw [bitsGo, if_neg (by simp), ascB, t1]; simp; omega
        · rw [bitsGo, if_neg (by simp), List.length_cons]; omega
        · rw [bitsGo, if_neg (by simp), t3, memB_cons]
          congr 1
          rw [Bool.eq_iff_iff]; simp; omega
    · cases c
      · refine ⟨?_, ?_, fun y => ?_⟩
        · rw [bitsGo, if_neg (by simp), ascB]
          have := ascB_mono _ _ x f1 (by omega)
          rw [this]; simp; omega
        · rw [bitsGo, if_neg (by simp), List.length_cons]; omega
        · rw [bitsGo, if_neg (by simp), hasL, f3, memB_cons]; simp
      · obtain ⟨t1, t2, t3⟩ := ft s (by omega)
        refine ⟨?_, ?_, fun y => ?_⟩
        · rw [bitsGo, if_pos rfl]; exact t1
        · rw [bitsGo, if_pos rfl]; exact t2
        · rw [bitsGo, if_pos rfl, t3, memB_cons, ← Bool.or_assoc]
          congr 1
          rw [Bool.eq_iff_iff]; simp; omega

theorem bitsL_valid (f : Int → Bool) : validB (bitsL (tab f)) = true := by
  obtain ⟨⟨h1, h2, _⟩, _⟩ := bitsGo_spec (tab f) 0 (by omega) (by rw [tab_length]; omega)
  rw [validB, bitsL, h2]
  rw [show (0 : Int) - 1 = -1 by omega] at h1
  rw [h1]; rfl
theorem bitsL_has (f : Int → Bool) (y : Int) : hasL (bitsL (tab f)) y = (decide (0 ≤ y) && decide (y < 4096) && f y) := by
  obtain ⟨⟨_, _, h⟩, _⟩ := bitsGo_spec (tab f) 0 (by omega) (by rw [tab_length]; omega)
  rw [bitsL, h, memB]
  by_cases h0 : 0 ≤ y
  · by_cases h1 : y < 4096
    · rw [List.getD_eq_getElem?_getD, tab_get f _ (by omega)]
      have e : ((y - 0).toNat : Int) = y := by omega
      rw [e]; simp [h0, h1]
    · rw [List.getD_eq_getElem?_getD, List.getElem?_eq_none (by rw [tab_length]; omega)]; simp [h1]
  · simp [h0]

theorem has_rng (y : Int) : ∀ (l : List Int), (∀ z ∈ l, 0 ≤ z ∧ z ≤ 4096) → hasL l y = true → 0 ≤ y ∧ y < 4096
  | [], _, h => by simp [hasL] at h
  | [_], _, h => by simp [hasL] at h
  | a :: b :: r, hm, hh => by
    rw [hasL, Bool.or_eq_true] at hh
    rcases hh with hh | hh
    · simp at hh
      have h1 := hm a (by simp)
      have h2 := hm b (by simp)
      omega
    · exact has_rng y r (fun z hz => hm z (by simp [hz])) hh

theorem has_range {zs : List Int} (hv : validB zs = true) (y : Int) (h : hasL zs y = true) : 0 ≤ y ∧ y < 4096 := by
  have hg := good_of_valid hv
  exact has_rng y zs (fun z hz => by
    obtain ⟨k, hk⟩ := List.getElem?_of_mem hz
    exact hg.rng k z hk) h

/-- A valid set is what Bits makes of its slots. -/
theorem bits_of_has {zs : List Int} (hv : validB zs = true) (f : Int → Bool) (h : ∀ y, 0 ≤ y → y < 4096 → hasL zs y = f y) : zs = bitsL (tab f) := by
  refine valid_ext hv (bitsL_valid f) (fun y => ?_)
  rw [bitsL_has]
  by_cases h0 : 0 ≤ y
  · by_cases h1 : y < 4096
    · rw [h y h0 h1]; simp [h0, h1]
    · have : hasL zs y = false := by
        cases e : hasL zs y
        · rfl
        · have := has_range hv y e; omega
      rw [this]; simp [h1]
  · have : hasL zs y = false := by
      cases e : hasL zs y
      · rfl
      · have := has_range hv y e; omega
    rw [this]; simp [h0]

/-- Whether x is inside, if p says so before the list. -/
def inP (p : Bool) (l : List Int) (x : Int) : Bool := p != decide (afterL l x % 2 = 1)

theorem after_cons_le (a : Int) (l : List Int) (x : Int) (h : a ≤ x) : afterL (a :: l) x = afterL l x + 1 := by simp [afterL, h]
theorem after_low (l : List Int) (lo x : Int) (ha : ascB lo l = true) (h : x ≤ lo) : afterL l x = 0 :=
  afterL_eq x l 0 (by omega) (fun m y hm => absurd hm (by omega)) (fun y hy => by have := (ascB_rng l lo ha 0 y hy).1; omega)
theorem inP_cons (p : Bool) (a : Int) (l : List Int) (x : Int) (h : a ≤ x) : inP p (a :: l) x = inP (!p) l x := by
  rw [inP, inP, after_cons_le a l x h, odd_succ]
  cases p <;> cases decide (afterL l x % 2 = 1) <;> rfl
theorem inP_low (p : Bool) (l : List Int) (lo x : Int) (ha : ascB lo l = true) (h : x ≤ lo) : inP p l x = p := by
  rw [inP, after_low l lo x ha h]; cases p <;> rfl
theorem inP_low' (p : Bool) (a : Int) (l : List Int) (x : Int) (h : x < a) : inP p (a :: l) x = p := by
  have : afterL (a :: l) x = 0 := by simp [afterL, show ¬ a ≤ x by omega]
  rw [inP, this]; cases p <;> rfl

theorem merge_step (a : Int) (c po : Bool) (R' : List Int) (lo : Int) (hlo : lo < a) (h4 : a ≤ 4096) (hR : ascB a R' = true) (x : Int) (N : Bool) (hM : x < a → N = po) (hN : a ≤ x → inP (if c then !po else po) R' x = N) :
    ascB lo (if c then a :: R' else R') = true ∧ inP po (if c then a :: R' else R') x = N := by
  refine ⟨?_, ?_⟩
  · cases c
    · exact ascB_mono _ _ _ hR (by omega)
    · simp [ascB, hR]; omega
  · by_cases g : x < a
    · rw [hM g]
      cases c
      · exact inP_low _ _ a x hR (by omega)
      · exact inP_low' _ _ _ _ g
    · rw [← hN (by omega)]
      cases c
      · rfl
      · exact inP_cons _ _ _ _ (by omega)

theorem mergeF_spec (r : Bool → Bool → Bool) : ∀ (n : Nat) (az bs : List Int) (pa pb po : Bool) (lo : Int), az.length + bs.length ≤ n → ascB lo az = true → ascB lo bs = true → po = r pa pb →
    ascB lo (mergeF r n az bs pa pb po) = true ∧ ∀ x, inP po (mergeF r n az bs pa pb po) x = r (inP pa az x) (inP pb bs x)
  | 0, az, bs, pa, pb, po, lo, hl, ha, hb, hp => by
    have h1 : az = [] := List.eq_nil_of_length_eq_zero (by omega)
    have h2 : bs = [] := List.eq_nil_of_length_eq_zero (by omega)
    subst h1; subst h2
    exact ⟨rfl, fun x => by simp [mergeF, inP, afterL, hp]⟩
  | n + 1, az, bs, pa, pb, po, lo, hl, ha, hb, hp => by
    match az, bs with
    | [], [] => exact ⟨by rw [mergeF_nil]; rfl, fun x => by simp [mergeF, inP, afterL, hp]⟩
    | a :: az, [] =>
      simp only [ascB, Bool.and_eq_true, decide_eq_true_eq] at ha
      obtain ⟨⟨a1, a2⟩, a3⟩ := ha
      rw [mergeF_left]
      have ih := mergeF_spec r n az [] (!pa) pb (if (r (!pa) pb != po) then !po else po) a (by simp at hl ⊢; omega) a3 rfl (by cases h1 : r (!pa) pb <;> cases po <;> simp)
      have key : (if (r (!pa) pb != po) = true then a :: mergeF r n az [] (!pa) pb (!po) else mergeF r n az [] (!pa) pb po) = (if (r (!pa) pb != po) = true then a :: mergeF r n az [] (!pa) pb (if (r (!pa) pb != po) then !po else po) else mergeF r n az [] (!pa) pb (if (r (!pa) pb != po) then !po else po)) := by
        split <;> rfl
      rw [key]
      have st := fun x N hM hN => merge_step a (r (!pa) pb != po) po _ lo a1 a2 ih.1 x N hM hN
      refine ⟨(st lo po (fun _ => rfl) (fun h => absurd h (by omega))).1, fun x => (st x _ (fun g => ?_) (fun g => ?_)).2⟩
      · rw [inP_low' _ _ _ _ g, show inP pb [] x = pb by simp [inP, afterL], hp]
      · rw [ih.2, inP_cons _ _ _ _ g]
    | [], b :: bs =>
      simp only [ascB, Bool.and_eq_true, decide_eq_true_eq] at hb
      obtain ⟨⟨a1, a2⟩, a3⟩ := hb
      rw [mergeF_right]
      have ih := mergeF_spec r n [] bs pa (!pb) (if (r pa (!pb) != po) then !po else po) b (by simp at hl ⊢; omega) rfl a3 (by cases h1 : r pa (!pb) <;> cases po <;> simp)
      have key : (if (r pa (!pb) != po) = true then b :: mergeF r n [] bs pa (!pb) (!po) else mergeF r n [] bs pa (!pb) po) = (if (r pa (!pb) != po) = true then b :: mergeF r n [] bs pa (!pb) (if (r pa (!pb) != po) then !po else po) else mergeF r n [] bs pa (!pb) (if (r pa (!pb) != po) then !po else po)) := by
        split <;> rfl
      rw [key]
      have st := fun x N hM hN => merge_step b (r pa (!pb) != po) po _ lo a1 a2 ih.1 x N hM hN
      refine ⟨(st lo po (fun _ => rfl) (fun h => absurd h (by omega))).1, fun x => (st x _ (fun g => ?_) (fun g => ?_)).2⟩
      · rw [inP_low' _ _ _ _ g, show inP pa [] x = pa by simp [inP, afterL], hp]
      · rw [ih.2, inP_cons _ _ _ _ g]
    | a :: az, b :: bs =>
      have ha0 := ha
      have hb0 := hb
      simp only [ascB, Bool.and_eq_true, decide_eq_true_eq] at ha hb
      obtain ⟨⟨a1, a2⟩, a3⟩ := ha
      obtain ⟨⟨b1, b2⟩, b3⟩ := hb
      rw [mergeF.eq_5]
      by_cases g1 : a < b
      · rw [if_pos g1]
        have hb' : ascB a (b :: bs) = true := by simp [ascB, b3]; omega
        have ih := mergeF_spec r n az (b :: bs) (!pa) pb (if (r (!pa) pb != po) then !po else po) a (by simp at hl ⊢; omega) a3 hb' (by cases h1 : r (!pa) pb <;> cases po <;> simp)
        have key : (if (r (!pa) pb != po) = true then a :: mergeF r n az (b :: bs) (!pa) pb (!po) else mergeF r n az (b :: bs) (!pa) pb po) = (if (r (!pa) pb != po) = true then a :: mergeF r n az (b :: bs) (!pa) pb (if (r (!pa) pb != po) then !po else po) else mergeF r n az (b :: bs) (!pa) pb (if (r (!pa) pb != po) then !po else po)) := by
          split <;> rfl
        rw [key]
        have st := fun x N hM hN => merge_step a (r (!pa) pb != po) po _ lo a1 a2 ih.1 x N hM hN
        refine ⟨(st lo po (fun _ => rfl) (fun h => absurd h (by omega))).1, fun x => (st x _ (fun g => ?_) (fun g => ?_)).2⟩
        · rw [inP_low' _ _ _ _ g, inP_low' _ _ _ _ (by omega), hp]
        · rw [ih.2, inP_cons _ _ _ _ g]
      · rw [if_neg g1]
        by_cases g2 : b < a
        · rw [if_pos g2]
          have ha' : ascB b (a :: az) = true := by simp [ascB, a3]; omega
          have ih := mergeF_spec r n (a :: az) bs pa (!pb) (if (r pa (!pb) != po) then !po else po) b (by simp at hl ⊢; omega) ha' b3 (by cases h1 : r pa (!pb) <;> cases po <;> simp)
          have key : (if (r pa (!pb) != po) = true then b :: mergeF r n (a :: az) bs pa (!pb) (!po) else mergeF r n (a :: az) bs pa (!pb) po) = (if (r pa (!pb) != po) = true then b :: mergeF r n (a :: az) bs pa (!pb) (if (r pa (!pb) != po) then !po else po) else mergeF r n (a :: az) bs pa (!pb) (if (r pa (!pb) != po) then !po else po)) := by
            split <;> rfl
          rw [key]
          have st := fun x N hM hN => merge_step b (r pa (!pb) != po) po _ lo b1 b2 ih.1 x N hM hN
          refine ⟨(st lo po (fun _ => rfl) (fun h => absurd h (by omega))).1, fun x => (st x _ (fun g => ?_) (fun g => ?_)).2⟩
          · rw [inP_low' _ _ _ _ g, inP_low' _ _ _ _ (by omega), hp]
          · rw [ih.2, inP_cons pb b bs x g]
        · rw [if_neg g2]
          obtain rfl : a = b := by omega
          have ih := mergeF_spec r n az bs (!pa) (!pb) (if (r (!pa) (!pb) != po) then !po else po) a (by simp at hl ⊢; omega) a3 b3 (by cases h1 : r (!pa) (!pb) <;> cases po <;> simp)
          have key : (if (r (!pa) (!pb) != po) = true then a :: mergeF r n az bs (!pa) (!pb) (!po) else mergeF r n az bs (!pa) (!pb) po) = (if (r (!pa) (!pb) != po) = true then a :: mergeF r n az bs (!pa) (!pb) (if (r (!pa) (!pb) != po) then !po else po) else mergeF r n az bs (!pa) (!pb) (if (r (!pa) (!pb) != po) then !po else po)) := by
            split <;> rfl
          rw [key]
          have st := fun x N hM hN => merge_step a (r (!pa) (!pb) != po) po _ lo a1 a2 ih.1 x N hM hN
          refine ⟨(st lo po (fun _ => rfl) (fun h => absurd h (by omega))).1, fun x => (st x _ (fun g => ?_) (fun g => ?_)).2⟩
          · rw [inP_low' _ _ _ _ g, inP_low' _ _ _ _ g, hp]
          · rw [ih.2, inP_cons _ _ _ _ g, inP_cons _ _ _ _ g]

theorem after_all (l : List Int) (h : ∀ z ∈ l, z ≤ 4096) : afterL l 4096 = l.length := by
  exact afterL_eq 4096 l l.length (Nat.le_refl _) (fun m y _ hy => h y (List.mem_of_getElem? hy)) (fun y hy => by simp at hy)

theorem mergeL_spec (r : Bool → Bool → Bool) (hr : r false false = false) {xs ys : List Int} (hx : validB xs = true) (hy : validB ys = true) :
    validB (mergeL r xs ys) = true ∧ ∀ x, hasL (mergeL r xs ys) x = r (hasL xs x) (hasL ys x) := by
  have hx0 := hx
  have hy0 := hy
  simp only [validB, Bool.and_eq_true, decide_eq_true_eq] at hx hy
  obtain ⟨m1, m2⟩ := mergeF_spec r (xs.length + ys.length) xs ys false false false (-1) (Nat.le_refl _) hx.1 hy.1 hr.symm
  have hv : validB (mergeL r xs ys) = true := by
    have e := m2 4096
    simp only [inP] at e
    rw [after_all _ (fun z hz => (asc_le_last _ _ m1 z hz).2), after_all xs (fun z hz => (asc_le_last _ _ hx.1 z hz).2), after_all ys (fun z hz => (asc_le_last _ _ hy.1 z hz).2)] at e
    rw [show decide (xs.length % 2 = 1) = false by simp; omega, show decide (ys.length % 2 = 1) = false by simp; omega, show (false != false) = false from rfl, hr] at e
    rw [validB, mergeL, m1]
    simp at e ⊢
    exact e
  refine ⟨hv, fun x => ?_⟩
  rw [hasL_eq hv, hasL_eq hx0, hasL_eq hy0]
  have e := m2 x
  have f : ∀ b : Bool, (false != b) = b := by decide
  simp only [inP, f] at e
  exact e

theorem run_spec (p q : Int) : runL p q = bitsL (tab (fun j => decide (p ≤ j) && decide (j < q))) := by
  have hv : validB (runL p q) = true := by
    unfold runL
    split
    · simp [validB, ascB]; omega
    · rfl
  refine bits_of_has hv _ (fun y h0 h1 => ?_)
  unfold runL
  split
  · rw [Bool.eq_iff_iff]; simp [hasL]; omega
  · rw [Bool.eq_iff_iff]; simp [hasL]; omega

end Go.Proofs.YtnjopfjmepbpoaaDoor

/- Plain: what is encoded is decoded, and the other way round. -/
namespace Go.Proofs.YtnjopfjmepbpoaaDoor
set_option linter.unusedSimpArgs false
set_option linter.unusedVariables false
set_option linter.unnecessarySimpa false

theorem getGo_leb (rest : List Int) : ∀ (q k : Nat) (acc : Int), k ≤ 9 → (q : Int) * 2 ^ (7 * k) < 18446744073709551616 → (0 < k → q ≠ 0) →
    getGo (leb q ++ rest) k acc = (unzig (acc + q * 2 ^ (7 * k)), ((k + (leb q).length : Nat) : Int), 0) := by
  intro q
  induction q using Nat.strongRecOn with
  | _ q ih =>
    intro k acc hk hq h0
    have hp : (0 : Int) < 2 ^ (7 * k) := Int.pow_pos (by decide)
    by_cases g : q < 128
    · rw [leb_small q g]
      have h9 : k = 9 → (q : Int) ≤ 1 := by
        intro e; subst e
        have e2 : (2 : Int) ^ (7 * 9) = 9223372036854775808 := by decide
        rw [e2] at hq; omega
      rw [List.cons_append, List.nil_append, getGo, if_neg (by
        rintro (⟨h1, h2⟩ | ⟨h1, h2⟩)
        · have := h9 h1; omega
        · have := h0 h1; omega), if_pos (by omega), show (q : Int) % 128 = q by omega]
      simp
    · rw [leb_big q (by omega), List.cons_append, getGo]
      have hk8 : k ≤ 8 := by
        by_cases e : k = 9
        · subst e
          have e2 : (2 : Int) ^ (7 * 9) = 9223372036854775808 := by decide
          rw [e2] at hq; omega
        · omega
      rw [if_neg (by omega), if_neg (by omega)]
      have e1 : ((q % 128 + 128 : Nat) : Int) % 128 = ((q % 128 : Nat) : Int) := by omega
      have e7 : (2 : Int) ^ (7 * (k + 1)) = 128 * 2 ^ (7 * k) := pow7 k
      have e8 : ((q / 128 : Nat) : Int) * (128 * 2 ^ (7 * k)) = (((q / 128) * 128 : Nat) : Int) * 2 ^ (7 * k) := by
        rw [← Int.mul_assoc]; simp
      have hle : (((q / 128) * 128 : Nat) : Int) * 2 ^ (7 * k) ≤ (q : Int) * 2 ^ (7 * k) := Int.mul_le_mul_of_nonneg_right (by omega) (by omega)
      rw [e1, ih (q / 128) (by omega) (k + 1) _ (by omega) (by rw [e7, e8]; omega) (by omega)]
      have e9 : acc + ((q % 128 : Nat) : Int) * 2 ^ (7 * k) + ((q / 128 : Nat) : Int) * 2 ^ (7 * (k + 1)) = acc + (q : Int) * 2 ^ (7 * k) := by
        rw [e7, e8, Int.add_assoc, ← Int.add_mul]
        congr 2; omega
      rw [e9, List.length_cons]
      congr 2; omega

theorem getI_intB (n : Int) (rest : List Int) (h1 : -9223372036854775808 ≤ n) (h2 : n ≤ 9223372036854775807) : getI (intB n ++ rest) = (n, ((intB n).length : Int), 0) := by
  have hz := zig_lt n h1 h2
  rw [getI, intB, getGo_leb rest (zig n) 0 0 (by omega) (by simp; omega) (by omega)]
  simp [unzig_zig]

theorem getN_flat : ∀ (ds : List Int), (∀ z ∈ ds, -9223372036854775808 ≤ z ∧ z ≤ 9223372036854775807) → ∀ rest, getN ds.length ((ds.map intB).flatten ++ rest) = (ds, (((ds.map intB).flatten).length : Int), 0)
  | [], _, rest => rfl
  | d :: r, h, rest => by
    have hd := h d (by simp)
    have ih := getN_flat r (fun z hz => h z (by simp [hz])) rest
    simp only [List.map_cons, List.flatten_cons, List.length_cons, List.append_assoc]
    rw [getN, getI_intB d _ hd.1 hd.2]
    simp only [ne_eq, not_true_eq_false, if_false, Int.toNat_natCast, List.drop_left]
    rw [ih]
    simp

theorem flat_ge : ∀ (ds : List Int), ds.length ≤ ((ds.map intB).flatten).length
  | [] => by simp
  | d :: r => by
    have := flat_ge r
    have := leb_pos (zig d)
    simp only [List.map_cons, List.flatten_cons, List.length_append, List.length_cons]
    have e : (intB d).length = (leb (zig d)).length := rfl
    omega

theorem getInts_intsB (ds : List Int) (h : ∀ z ∈ ds, -9223372036854775808 ≤ z ∧ z ≤ 9223372036854775807) (hl : ds.length ≤ 1000000000000) : getInts (intsB ds) = (ds, ((intsB ds).length : Int), 0) := by
  have h0 := getI_intB ds.length ((ds.map intB).flatten) (by omega) (by omega)
  have hL : lenL (intsB ds) 1 = ((ds.length : Int), ((intB ds.length).length : Int), 0) := by
    rw [lenL, intsB, h0]
    have := flat_ge ds
    simp only [ne_eq, not_true_eq_false, if_false]
    rw [if_neg (by omega), if_neg (by rw [List.length_append, Int.ediv_one]; omega)]
  rw [getInts, hL]
  simp only [ne_eq, not_true_eq_false, if_false, Int.toNat_natCast]
  have e : (intsB ds).drop (intB ds.length).length = (ds.map intB).flatten ++ [] := by rw [intsB, List.drop_left]; simp
  rw [e, getN_flat ds h [], andThen]
  simp [intsB]

theorem unzig_nat (q : Nat) : zig (unzig q) = q := by unfold zig unzig; split <;> split <;> omega

theorem getGo_back : ∀ (l : List Int) (k : Nat) (acc : Int) (x u : Int), (∀ c ∈ l, 0 ≤ c ∧ c < 256) → getGo l k acc = (x, u, 0) →
    ∃ q m : Nat, u = ((k + m : Nat) : Int) ∧ l.take m = leb q ∧ x = unzig (acc + q * 2 ^ (7 * k)) ∧ (0 < k → q ≠ 0)
  | [], k, acc, x, u, _, h => by simp [getGo] at h
  | c :: r, k, acc, x, u, hby, h => by
    obtain ⟨c0, c1⟩ := hby c (by simp)
    rw [getGo] at h
    by_cases g : (k = 9 ∧ 1 < c) ∨ (0 < k ∧ c = 0)
    · rw [if_pos g] at h; simp at h
    · rw [if_neg g] at h
      by_cases g2 : c < 128
      · rw [if_pos g2] at h
        simp only [Prod.mk.injEq, and_true] at h
        obtain ⟨rfl, rfl⟩ := h
        refine ⟨c.toNat, 1, by simp, ?_, ?_, fun hk => by omega⟩
        · rw [leb_small _ (by omega)]; simp; omega
        · rw [show (c.toNat : Int) = c % 128 by omega]
      · rw [if_neg g2] at h
        obtain ⟨q, m, h1, h2, h3, h4⟩ := getGo_back r (k + 1) _ x u (fun d hd => hby d (by simp [hd])) h
        refine ⟨(c - 128).toNat + 128 * q, m + 1, by rw [h1]; omega, ?_, ?_, fun _ => by have := h4 (by omega); omega⟩
        · have := h4 (by omega)
          rw [leb_big _ (by omega), List.take_succ_cons, h2]
          congr 1
          · omega
          · congr 1; omega
        · rw [h3, pow7]
          congr 1
          have e1 : c % 128 = ((c - 128).toNat : Int) := by omega
          rw [e1, Int.add_assoc]
          congr 1
          rw [show (((c - 128).toNat + 128 * q : Nat) : Int) = ((c - 128).toNat : Int) + (q : Int) * 128 by omega, Int.add_mul, Int.mul_assoc]

theorem getI_back (l : List Int) (x u : Int) (hby : ∀ c ∈ l, 0 ≤ c ∧ c < 256) (h : getI l = (x, u, 0)) : l.take u.toNat = intB x := by
  obtain ⟨q, m, h1, h2, h3, _⟩ := getGo_back l 0 0 x u hby h
  rw [h1, h3]
  simp only [Nat.zero_add, Int.toNat_natCast, Nat.mul_zero, Int.pow_zero, Int.mul_one, Int.zero_add, intB, unzig_nat]
  exact h2

theorem getN_back : ∀ (n : Nat) (l ds : List Int) (u : Int), (∀ c ∈ l, 0 ≤ c ∧ c < 256) → getN n l = (ds, u, 0) → l.take u.toNat = (ds.map intB).flatten ∧ ds.length = n ∧ 0 ≤ u ∧ u ≤ l.length
  | 0, l, ds, u, _, h => by
    simp only [getN, Prod.mk.injEq, and_true] at h
    obtain ⟨rfl, rfl⟩ := h
    simp
  | n + 1, l, ds, u, hby, h => by
    rw [getN] at h
    obtain ⟨x, v, e, hr⟩ : ∃ x v e, getI l = (x, v, e) := ⟨_, _, _, rfl⟩
    have ok := getI_ok l hby
    rw [hr] at h ok
    simp only at h ok
    by_cases g : e ≠ 0
    · rw [if_pos g] at h
      simp only [Prod.mk.injEq] at h
      exact absurd h.2.2 g
    · rw [if_neg g] at h
      have g' : e = 0 := by simpa using g
      subst g'
      obtain ⟨o1, o2, _, _⟩ := ok rfl
      obtain ⟨d2, u2, e2, hr2⟩ : ∃ p s t, getN n (l.drop v.toNat) = (p, s, t) := ⟨_, _, _, rfl⟩
      rw [hr2] at h
      simp only at h
      by_cases g2 : e2 ≠ 0
      · rw [if_pos g2] at h
        simp only [Prod.mk.injEq] at h
        exact absurd h.2.2 g2
      · rw [if_neg g2] at h
        have g2' : e2 = 0 := by simpa using g2
        subst g2'
        simp only [Prod.mk.injEq, and_true] at h
        obtain ⟨rfl, rfl⟩ := h
        obtain ⟨i1, i2, i3, i4⟩ := getN_back n (l.drop v.toNat) d2 u2 (fun c hc => hby c (List.mem_of_mem_drop hc)) hr2
        have hb := getI_back l x v hby hr
        rw [List.length_drop] at i4
        refine ⟨?_, by simp [i2], by omega, by omega⟩
        rw [show (v + u2).toNat = v.toNat + u2.toNat by omega, List.take_add, hb, i1]
        simp

theorem getInts_back (bs ds : List Int) (hby : ∀ c ∈ bs, 0 ≤ c ∧ c < 256) (h : getInts bs = (ds, (bs.length : Int), 0)) : intsB ds = bs := by
  rw [getInts] at h
  obtain ⟨n, v, e, hr⟩ : ∃ x v e, lenL bs 1 = (x, v, e) := ⟨_, _, _, rfl⟩
  have ok := lenL_ok bs 1 hby
  rw [hr] at h ok
  simp only at h ok
  by_cases g : e ≠ 0
  · rw [if_pos g] at h
    simp only [Prod.mk.injEq] at h
    exact absurd h.2.2 g
  · rw [if_neg g] at h
    have g' : e = 0 := by simpa using g
    subst g'
    obtain ⟨o1, o2, o3, o4⟩ := ok rfl
    obtain ⟨d2, u2, e2, hr2⟩ : ∃ p s t, getN n.toNat (bs.drop v.toNat) = (p, s, t) := ⟨_, _, _, rfl⟩
    rw [hr2, andThen] at h
    simp only at h
    by_cases g2 : e2 ≠ 0
    · rw [if_pos g2] at h
      simp only [Prod.mk.injEq] at h
      exact absurd h.2.2 g2
    · rw [if_neg g2] at h
      have g2' : e2 = 0 := by simpa using g2
      subst g2'
      simp only [Prod.mk.injEq, and_true, List.nil_append] at h
      obtain ⟨rfl, hu⟩ := h
      obtain ⟨i1, i2, i3, i4⟩ := getN_back n.toNat (bs.drop v.toNat) d2 u2 (fun c hc => hby c (List.mem_of_mem_drop hc)) hr2
      rw [List.length_drop] at i4
      -- the length itself
      have hI : getI bs = (n, v, 0) := by
        have hr' := hr
        rw [lenL] at hr'
        by_cases k1 : (getI bs).2.2 ≠ 0
        · rw [if_pos k1] at hr'
          simp only [Prod.mk.injEq] at hr'
          exact absurd hr'.2.2 k1
        · rw [if_neg k1] at hr'
          by_cases k2 : (getI bs).1 < 0
          · rw [if_pos k2] at hr'; simp at hr'
          · rw [if_neg k2] at hr'
            by_cases k3 : (bs.length - (getI bs).2.1) / 1 < (getI bs).1
            · rw [if_pos k3] at hr'; simp at hr'
            · rw [if_neg k3] at hr'
              simp only [Prod.mk.injEq, and_true] at hr'
              have k1' : (getI bs).2.2 = 0 := by simpa using k1
              rw [← hr'.1, ← hr'.2, ← k1']
      have hb := getI_back bs n v hby hI
      rw [intsB, i2, show ((n.toNat : Nat) : Int) = n by omega, ← hb, ← i1, show u2.toNat = bs.length - v.toNat by omega, List.take_of_length_le (i := bs.length - v.toNat) (by simp), List.take_append_drop]

theorem stepB_diff : ∀ (zs : List Int) (l : Int), ascB l zs = true → -1 ≤ l → ∀ d ∈ diffL zs (if l = -1 then 0 else l), stepB d = true
  | [], l, _, _, d, h => by simp [diffL] at h
  | z :: r, l, h, h0, d, hd => by
    simp only [ascB, Bool.and_eq_true, decide_eq_true_eq] at h
    rw [diffL] at hd
    rcases List.mem_cons.1 hd with rfl | hd
    · simp [stepB]; split <;> omega
    · have := stepB_diff r z h.2 (by omega) d
      rw [if_neg (by omega)] at this
      exact this hd

theorem dec_enc {zs : List Int} (hv : validB zs = true) : decL (intsB (diffL zs 0)) = (zs, 0) := by
  have hg := good_of_valid hv
  have hm : ∀ z ∈ zs, 0 ≤ z ∧ z ≤ 4096 := fun z hz => by
    obtain ⟨k, hk⟩ := List.getElem?_of_mem hz
    exact hg.rng k z hk
  have hf := diffL_fit zs 0 hm (by omega) (by omega)
  have h := getInts_intsB (diffL zs 0) (fun z hz => by have := hf z hz; omega) (by rw [diffL_length]; have := hg.len; omega)
  rw [decL, h]
  simp only [ne_eq, not_true_eq_false, or_self, if_false]
  have hok : decOk (diffL zs 0) = true := by
    rw [decOk, sum_diff, hv, Bool.and_true, List.all_eq_true]
    intro d hd
    have hv' := hv
    simp only [validB, Bool.and_eq_true] at hv'
    have := stepB_diff zs (-1) hv'.1 (by omega) d
    rw [if_pos rfl] at this
    exact this hd
  rw [if_pos hok, sum_diff]

theorem enc_dec {bs ys : List Int} (hby : ∀ c ∈ bs, 0 ≤ c ∧ c < 256) (h : decL bs = (ys, 0)) : intsB (diffL ys 0) = bs ∧ validB ys = true := by
  rw [decL] at h
  by_cases g : (getInts bs).2.2 ≠ 0 ∨ (getInts bs).2.1 ≠ bs.length
  · rw [if_pos g] at h; simp at h
  · rw [if_neg g] at h
    by_cases g2 : decOk (getInts bs).1 = true
    · rw [if_pos g2] at h
      simp only [Prod.mk.injEq, and_true] at h
      subst h
      rw [diff_sum]
      refine ⟨getInts_back bs _ hby ?_, ?_⟩
      · have h1 : (getInts bs).2.2 = 0 := by omega
        have h2 : (getInts bs).2.1 = bs.length := by omega
        rw [← h1, ← h2]
      · rw [decOk, Bool.and_eq_true] at g2; exact g2.2
    · rw [if_neg g2] at h; simp at h

end Go.Proofs.YtnjopfjmepbpoaaDoor

/- Plain: byte strings, encoded and decoded. -/
namespace Go.Proofs.YtnjopfjmepbpoaaDoor
set_option linter.unusedSimpArgs false
set_option linter.unusedVariables false
set_option linter.unnecessarySimpa false

/-- The bytes of a string. -/
def bytesL (s : ByteArray) : List Int := s.data.toList.map fun b => (b.toNat : Int)
/-- The string of a row of bytes. -/
def strOf (bs : List Int) : ByteArray := bs.foldl (fun r n => r.push (UInt8.ofNat n.toNat)) ByteArray.empty

theorem bytesL_len (s : ByteArray) : (bytesL s).length = s.size := by simp [bytesL]
theorem bytesL_byte (s : ByteArray) : ∀ c ∈ bytesL s, 0 ≤ c ∧ c < 256 := by
  intro c hc
  obtain ⟨b, _, rfl⟩ := List.mem_map.1 hc
  have := b.toNat_lt
  omega

theorem foldl_push : ∀ (bs : List Int) (r : ByteArray), (bs.foldl (fun r n => r.push (UInt8.ofNat n.toNat)) r).data.toList = r.data.toList ++ bs.map (fun n => UInt8.ofNat n.toNat)
  | [], r => by simp
  | b :: bs, r => by
    rw [List.foldl_cons, foldl_push bs]
    simp [ByteArray.push]
theorem strOf_data (bs : List Int) : (strOf bs).data.toList = bs.map (fun n => UInt8.ofNat n.toNat) := by
  rw [strOf, foldl_push]; rfl
theorem strOf_size (bs : List Int) : (strOf bs).size = bs.length := by
  have := congrArg List.length (strOf_data bs)
  simpa using this
theorem bytesL_strOf (bs : List Int) (h : ∀ c ∈ bs, 0 ≤ c ∧ c < 256) : bytesL (strOf bs) = bs := by
  rw [bytesL, strOf_data, List.map_map]
  have : ∀ c ∈ bs, ((fun b : UInt8 => (b.toNat : Int)) ∘ fun n : Int => UInt8.ofNat n.toNat) c = c := by
    intro c hc
    have := h c hc
    simp only [Function.comp, UInt8.toNat_ofNat']
    omega
  rw [List.map_congr_left this, List.map_id']
theorem ba_ext {a b : ByteArray} (h : a.data.toList = b.data.toList) : a = b := by
  cases a with | mk x => cases b with | mk y => cases x; cases y; simp at h; subst h; rfl
theorem strOf_bytesL (s : ByteArray) : strOf (bytesL s) = s := by
  apply ba_ext
  rw [strOf_data, bytesL, List.map_map]
  have : ∀ b ∈ s.data.toList, ((fun n : Int => UInt8.ofNat n.toNat) ∘ fun b : UInt8 => (b.toNat : Int)) b = b := by
    intro b _
    simp
  rw [List.map_congr_left this, List.map_id']
theorem strOf_inj {a b : List Int} (ha : ∀ c ∈ a, 0 ≤ c ∧ c < 256) (hb : ∀ c ∈ b, 0 ≤ c ∧ c < 256) (h : strOf a = strOf b) : a = b := by
  rw [← bytesL_strOf a ha, ← bytesL_strOf b hb, h]

/-- The encoding of a string, of strings. -/
def strB (s : ByteArray) : List Int := intB s.size ++ bytesL s
def strsB (l : List ByteArray) : List Int := intB l.length ++ (l.map strB).flatten

/-- Sizes of strings that the walks meet. -/
def SmallStrs (l : List ByteArray) : Prop := ∀ s ∈ l, s.size ≤ 1000000

theorem strB_len (s : ByteArray) (h : s.size ≤ 1000000) : 1 ≤ (strB s).length ∧ (strB s).length ≤ 1000010 := by
  have := intB_len s.size (by omega) (by omega)
  rw [strB, List.length_append, bytesL_len]; omega
theorem strs_len (l : List ByteArray) (h : SmallStrs l) : ((l.map strB).flatten).length ≤ 1000010 * l.length := by
  induction l with
  | nil => simp
  | cons a r ih =>
    have h1 := strB_len a (h a (by simp))
    have h2 := ih (fun z hz => h z (by simp [hz]))
    simp only [List.map_cons, List.flatten_cons, List.length_append, List.length_cons]
    omega
theorem strs_take (l : List ByteArray) (k : Nat) (a : ByteArray) (h : l[k]? = some a) : ((l.take (k+1)).map strB).flatten = ((l.take k).map strB).flatten ++ strB a := by
  rw [List.take_add_one, h]; simp

/-- A string at the beginning of bytes: it, its bytes, the error. -/
def getS (bs : List Int) : ByteArray × Int × Int :=
  if (lenL bs 1).2.2 ≠ 0 then (ByteArray.empty, 0, (lenL bs 1).2.2)
  else (strOf ((bs.drop (lenL bs 1).2.1.toNat).take (lenL bs 1).1.toNat), (lenL bs 1).2.1 + (lenL bs 1).1, 0)

theorem getS_ok (bs : List Int) (hby : ∀ c ∈ bs, 0 ≤ c ∧ c < 256) (h : (getS bs).2.2 = 0) : 1 ≤ (getS bs).2.1 ∧ (getS bs).2.1 ≤ bs.length := by
  unfold getS at *
  have ok := lenL_ok bs 1 hby
  split at h
  · rename_i g; exact absurd h g
  · rename_i g
    rw [if_neg g]
    have := ok (by simpa using g)
    rw [Int.ediv_one] at this
    simp only
    omega

/-- n strings, from the beginning of bytes on. -/
def getNS : Nat → List Int → List ByteArray × Int × Int
  | 0, _ => ([], 0, 0)
  | n + 1, bs =>
    if (getS bs).2.2 ≠ 0 then ([], 0, (getS bs).2.2)
    else if (getNS n (bs.drop (getS bs).2.1.toNat)).2.2 ≠ 0 then ([], 0, (getNS n (bs.drop (getS bs).2.1.toNat)).2.2)
    else ((getS bs).1 :: (getNS n (bs.drop (getS bs).2.1.toNat)).1, (getS bs).2.1 + (getNS n (bs.drop (getS bs).2.1.toNat)).2.1, 0)

def andThenS (out : List ByteArray) (at_ : Int) (s : List ByteArray × Int × Int) : List ByteArray × Int × Int :=
  if s.2.2 ≠ 0 then ([], 0, s.2.2) else (out ++ s.1, at_ + s.2.1, 0)

def getStrs (bs : List Int) : List ByteArray × Int × Int :=
  if (lenL bs 1).2.2 ≠ 0 then ([], 0, (lenL bs 1).2.2) else andThenS [] (lenL bs 1).2.1 (getNS (lenL bs 1).1.toNat (bs.drop (lenL bs 1).2.1.toNat))

theorem andThenS_err (out : List ByteArray) (at_ : Int) (n : Nat) (bs : List Int) (r : ByteArray × Int × Int) (hr : getS bs = r) (h : r.2.2 ≠ 0) : andThenS out at_ (getNS (n + 1) bs) = ([], 0, r.2.2) := by
  subst hr
  simp [andThenS, getNS, h]
theorem andThenS_step (out : List ByteArray) (at_ : Int) (n : Nat) (bs : List Int) (r : ByteArray × Int × Int) (hr : getS bs = r) (h : r.2.2 = 0) :
    andThenS out at_ (getNS (n + 1) bs) = andThenS (out ++ [r.1]) (at_ + r.2.1) (getNS n (bs.drop r.2.1.toNat)) := by
  subst hr
  by_cases g : (getNS n (bs.drop (getS bs).2.1.toNat)).2.2 = 0
  · simp [andThenS, getNS, h, g]; omega
  · simp [andThenS, getNS, h, g]
theorem andThenS_done (out : List ByteArray) (at_ : Int) (bs : List Int) : andThenS out at_ (getNS 0 bs) = (out, at_, 0) := by simp [andThenS, getNS]

/- What is encoded is decoded. -/
theorem lenL_at (n : Nat) (rest : List Int) (hn : n ≤ 1000000000000) (h : n ≤ rest.length) : lenL (intB n ++ rest) 1 = ((n : Int), ((intB n).length : Int), 0) := by
  have h0 := getI_intB n rest (by omega) (by omega)
  rw [lenL, h0]
  simp only [ne_eq, not_true_eq_false, if_false]
  rw [if_neg (by omega), if_neg (by rw [List.length_append, Int.ediv_one]; omega)]

theorem getInts_rest (ds rest : List Int) (h : ∀ z ∈ ds, -9223372036854775808 ≤ z ∧ z ≤ 9223372036854775807) (hl : ds.length ≤ 1000000000000) : getInts (intsB ds ++ rest) = (ds, ((intsB ds).length : Int), 0) := by
  have hg := flat_ge ds
  have hL : lenL (intsB ds ++ rest) 1 = ((ds.length : Int), ((intB ds.length).length : Int), 0) := by
    rw [intsB, List.append_assoc]; exact lenL_at _ _ hl (by rw [List.length_append]; omega)
  rw [getInts, hL]
  simp only [ne_eq, not_true_eq_false, if_false, Int.toNat_natCast]
  have e : (intsB ds ++ rest).drop (intB ds.length).length = (ds.map intB).flatten ++ rest := by rw [intsB, List.append_assoc, List.drop_left]
  rw [e, getN_flat ds h rest, andThen]
  simp [intsB]

theorem getS_strB (s : ByteArray) (rest : List Int) (h : s.size ≤ 1000000) : getS (strB s ++ rest) = (s, ((strB s).length : Int), 0) := by
  have hL : lenL (strB s ++ rest) 1 = ((s.size : Int), ((intB s.size).length : Int), 0) := by
    rw [strB, List.append_assoc]; exact lenL_at _ _ (by omega) (by rw [List.length_append, bytesL_len]; omega)
  rw [getS, hL]
  simp only [ne_eq, not_true_eq_false, if_false, Int.toNat_natCast]
  have e : ((strB s ++ rest).drop (intB s.size).length).take s.size = bytesL s := by
    rw [strB, List.append_assoc, List.drop_left, List.take_left' (bytesL_len s)]
  rw [e, strOf_bytesL]
  simp [strB, bytesL_len]

theorem getNS_flat : ∀ (l : List ByteArray), SmallStrs l → ∀ rest, getNS l.length ((l.map strB).flatten ++ rest) = (l, (((l.map strB).flatten).length : Int), 0)
  | [], _, rest => rfl
  | d :: r, h, rest => by
    have hd := h d (by simp)
    have ih := getNS_flat r (fun z hz => h z (by simp [hz])) rest
    simp only [List.map_cons, List.flatten_cons, List.length_cons, List.append_assoc]
    rw [getNS, getS_strB d _ hd]
    simp only [ne_eq, not_true_eq_false, if_false, Int.toNat_natCast, List.drop_left]
    rw [ih]
    simp

theorem strs_ge (l : List ByteArray) (h : SmallStrs l) : l.length ≤ ((l.map strB).flatten).length := by
  induction l with
  | nil => simp
  | cons a r ih =>
    have h1 := strB_len a (h a (by simp))
    have h2 := ih (fun z hz => h z (by simp [hz]))
    simp only [List.map_cons, List.flatten_cons, List.length_append, List.length_cons]
    omega

theorem getStrs_rest (l : List ByteArray) (rest : List Int) (h : SmallStrs l) (hl : l.length ≤ 1000000000000) : getStrs (strsB l ++ rest) = (l, ((strsB l).length : Int), 0) := by
  have hg := strs_ge l h
  have hL : lenL (strsB l ++ rest) 1 = ((l.length : Int), ((intB l.length).length : Int), 0) := by
    rw [strsB, List.append_assoc]; exact lenL_at _ _ hl (by rw [List.length_append]; omega)
  rw [getStrs, hL]
  simp only [ne_eq, not_true_eq_false, if_false, Int.toNat_natCast]
  have e : (strsB l ++ rest).drop (intB l.length).length = (l.map strB).flatten ++ rest := by rw [strsB, List.append_assoc, List.drop_left]
  rw [e, getNS_flat l h rest, andThenS]
  simp [strsB]

/- What is decoded is encoded. -/
theorem lenL_back (bs : List Int) (n v : Int) (hby : ∀ c ∈ bs, 0 ≤ c ∧ c < 256) (h : lenL bs 1 = (n, v, 0)) : bs.take v.toNat = intB n ∧ 0 ≤ n ∧ 1 ≤ v ∧ v ≤ bs.length ∧ n ≤ bs.length - v := by
  have ok := lenL_ok bs 1 hby
  rw [h] at ok
  obtain ⟨o1, o2, o3, o4⟩ := ok rfl
  rw [Int.ediv_one] at o4
  have hI : getI bs = (n, v, 0) := by
    rw [lenL] at h
    by_cases k1 : (getI bs).2.2 ≠ 0
    · rw [if_pos k1] at h
      simp only [Prod.mk.injEq] at h
      exact absurd h.2.2 k1
    · rw [if_neg k1] at h
      by_cases k2 : (getI bs).1 < 0
      · rw [if_pos k2] at h; simp at h
      · rw [if_neg k2] at h
        by_cases k3 : (bs.length - (getI bs).2.1) / 1 < (getI bs).1
        · rw [if_pos k3] at h; simp at h
        · rw [if_neg k3] at h
          simp only [Prod.mk.injEq, and_true] at h
          have k1' : (getI bs).2.2 = 0 := by simpa using k1
          rw [← h.1, ← h.2, ← k1']
  exact ⟨getI_back bs n v hby hI, o1, o2, o3, o4⟩

theorem getInts_take (bs ds : List Int) (u : Int) (hby : ∀ c ∈ bs, 0 ≤ c ∧ c < 256) (h : getInts bs = (ds, u, 0)) : bs.take u.toNat = intsB ds ∧ 0 ≤ u ∧ u ≤ bs.length := by
  rw [getInts] at h
  obtain ⟨n, v, e, hr⟩ : ∃ x v e, lenL bs 1 = (x, v, e) := ⟨_, _, _, rfl⟩
  rw [hr] at h
  simp only at h
  by_cases g : e ≠ 0
  · rw [if_pos g] at h
    simp only [Prod.mk.injEq] at h
    exact absurd h.2.2 g
  · rw [if_neg g] at h
    have g' : e = 0 := by simpa using g
    subst g'
    obtain ⟨hb, o1, o2, o3, o4⟩ := lenL_back bs n v hby hr
    obtain ⟨d2, u2, e2, hr2⟩ : ∃ p s t, getN n.toNat (bs.drop v.toNat) = (p, s, t) := ⟨_, _, _, rfl⟩
    rw [hr2, andThen] at h
    simp only at h
    by_cases g2 : e2 ≠ 0
    · rw [if_pos g2] at h
      simp only [Prod.mk.injEq] at h
      exact absurd h.2.2 g2
    · rw [if_neg g2] at h
      have g2' : e2 = 0 := by simpa using g2
      subst g2'
      simp only [Prod.mk.injEq, and_true, List.nil_append] at h
      obtain ⟨rfl, rfl⟩ := h
      obtain ⟨i1, i2, i3, i4⟩ := getN_back n.toNat (bs.drop v.toNat) d2 u2 (fun c hc => hby c (List.mem_of_mem_drop hc)) hr2
      rw [List.length_drop] at i4
      refine ⟨?_, by omega, by omega⟩
      rw [intsB, i2, show ((n.toNat : Nat) : Int) = n by omega, ← hb, ← i1, show (v + u2).toNat = v.toNat + u2.toNat by omega, List.take_add]

theorem getS_back (bs : List Int) (s : ByteArray) (u : Int) (hby : ∀ c ∈ bs, 0 ≤ c ∧ c < 256) (h : getS bs = (s, u, 0)) : bs.take u.toNat = strB s ∧ 0 ≤ u ∧ u ≤ bs.length := by
  rw [getS] at h
  obtain ⟨n, v, e, hr⟩ : ∃ x v e, lenL bs 1 = (x, v, e) := ⟨_, _, _, rfl⟩
  rw [hr] at h
  simp only at h
  by_cases g : e ≠ 0
  · rw [if_pos g] at h
    simp only [Prod.mk.injEq] at h
    exact absurd h.2.2 g
  · rw [if_neg g] at h
    have g' : e = 0 := by simpa using g
    subst g'
    obtain ⟨hb, o1, o2, o3, o4⟩ := lenL_back bs n v hby hr
    simp only [Prod.mk.injEq, and_true] at h
    obtain ⟨rfl, rfl⟩ := h
    refine ⟨?_, by omega, by omega⟩
    have hl : ((bs.drop v.toNat).take n.toNat).length = n.toNat := by rw [List.length_take, List.length_drop]; omega
    rw [strB, strOf_size, hl, show ((n.toNat : Nat) : Int) = n by omega, ← hb, bytesL_strOf _ (fun c hc => hby c (List.mem_of_mem_drop (List.mem_of_mem_take hc))), show (v + n).toNat = v.toNat + n.toNat by omega, List.take_add]

theorem getNS_back : ∀ (n : Nat) (l : List Int) (ds : List ByteArray) (u : Int), (∀ c ∈ l, 0 ≤ c ∧ c < 256) → getNS n l = (ds, u, 0) → l.take u.toNat = (ds.map strB).flatten ∧ ds.length = n ∧ 0 ≤ u ∧ u ≤ l.length
  | 0, l, ds, u, _, h => by
    simp only [getNS, Prod.mk.injEq, and_true] at h
    obtain ⟨rfl, rfl⟩ := h
    simp
  | n + 1, l, ds, u, hby, h => by
    rw [getNS] at h
    obtain ⟨x, v, e, hr⟩ : ∃ x v e, getS l = (x, v, e) := ⟨_, _, _, rfl⟩
    rw [hr] at h
    simp only at h
    by_cases g : e ≠ 0
    · rw [if_pos g] at h
      simp only [Prod.mk.injEq] at h
      exact absurd h.2.2 g
    · rw [if_neg g] at h
      have g' : e = 0 := by simpa using g
      subst g'
      obtain ⟨hb, o1, o2⟩ := getS_back l x v hby hr
      obtain ⟨d2, u2, e2, hr2⟩ : ∃ p s t, getNS n (l.drop v.toNat) = (p, s, t) := ⟨_, _, _, rfl⟩
      rw [hr2] at h
      simp only at h
      by_cases g2 : e2 ≠ 0
      · rw [if_pos g2] at h
        simp only [Prod.mk.injEq] at h
        exact absurd h.2.2 g2
      · rw [if_neg g2] at h
        have g2' : e2 = 0 := by simpa using g2
        subst g2'
        simp only [Prod.mk.injEq, and_true] at h
        obtain ⟨rfl, rfl⟩ := h
        obtain ⟨i1, i2, i3, i4⟩ := getNS_back n (l.drop v.toNat) d2 u2 (fun c hc => hby c (List.mem_of_mem_drop hc)) hr2
        rw [List.length_drop] at i4
        refine ⟨?_, by simp [i2], by omega, by omega⟩
        rw [show (v + u2).toNat = v.toNat + u2.toNat by omega, List.take_add, hb, i1]
        simp

theorem getStrs_take (bs : List Int) (ds : List ByteArray) (u : Int) (hby : ∀ c ∈ bs, 0 ≤ c ∧ c < 256) (h : getStrs bs = (ds, u, 0)) : bs.take u.toNat = strsB ds ∧ 0 ≤ u ∧ u ≤ bs.length := by
  rw [getStrs] at h
  obtain ⟨n, v, e, hr⟩ : ∃ x v e, lenL bs 1 = (x, v, e) := ⟨_, _, _, rfl⟩
  rw [hr] at h
  simp only at h
  by_cases g : e ≠ 0
  · rw [if_pos g] at h
    simp only [Prod.mk.injEq] at h
    exact absurd h.2.2 g
  · rw [if_neg g] at h
    have g' : e = 0 := by simpa using g
    subst g'
    obtain ⟨hb, o1, o2, o3, o4⟩ := lenL_back bs n v hby hr
    obtain ⟨d2, u2, e2, hr2⟩ : ∃ p s t, getNS n.toNat (bs.drop v.toNat) = (p, s, t) := ⟨_, _, _, rfl⟩
    rw [hr2, andThenS] at h
    simp only at h
    by_cases g2 : e2 ≠ 0
    · rw [if_pos g2] at h
      simp only [Prod.mk.injEq] at h
      exact absurd h.2.2 g2
    · rw [if_neg g2] at h
      have g2' : e2 = 0 := by simpa using g2
      subst g2'
      simp only [Prod.mk.injEq, and_true, List.nil_append] at h
      obtain ⟨rfl, rfl⟩ := h
      obtain ⟨i1, i2, i3, i4⟩ := getNS_back n.toNat (bs.drop v.toNat) d2 u2 (fun c hc => hby c (List.mem_of_mem_drop hc)) hr2
      rw [List.length_drop] at i4
      refine ⟨?_, by omega, by omega⟩
      rw [strsB, i2, show ((n.toNat : Nat) : Int) = n by omega, ← hb, ← i1, show (v + u2).toNat = v.toNat + u2.toNat by omega, List.take_add]

/-- The numbers and strings that are decoded are not longer than the bytes. -/
theorem getInts_short (bs ds : List Int) (u : Int) (hby : ∀ c ∈ bs, 0 ≤ c ∧ c < 256) (h : getInts bs = (ds, u, 0)) : ds.length ≤ bs.length := by
  obtain ⟨h1, h2, h3⟩ := getInts_take bs ds u hby h
  have := congrArg List.length h1
  rw [intsB, List.length_append, List.length_take] at this
  have := flat_ge ds
  omega
theorem strB_pos (s : ByteArray) : 1 ≤ (strB s).length := by
  have : 1 ≤ (intB s.size).length := leb_pos _
  rw [strB, List.length_append]; omega
theorem strs_all (l : List ByteArray) : l.length ≤ ((l.map strB).flatten).length ∧ ∀ s ∈ l, s.size ≤ ((l.map strB).flatten).length := by
  induction l with
  | nil => simp
  | cons a r ih =>
    have h1 := strB_pos a
    have h2 : (strB a).length = (intB a.size).length + a.size := by rw [strB, List.length_append, bytesL_len]
    simp only [List.map_cons, List.flatten_cons, List.length_append, List.length_cons, List.mem_cons]
    refine ⟨by omega, fun s hs => ?_⟩
    rcases hs with rfl | hs
    · omega
    · have := ih.2 s hs; omega
theorem getStrs_len (bs : List Int) (ds : List ByteArray) (u : Int) (hby : ∀ c ∈ bs, 0 ≤ c ∧ c < 256) (h : getStrs bs = (ds, u, 0)) : ds.length ≤ bs.length ∧ ∀ s ∈ ds, s.size ≤ bs.length := by
  obtain ⟨h1, h2, h3⟩ := getStrs_take bs ds u hby h
  have := congrArg List.length h1
  rw [strsB, List.length_append, List.length_take] at this
  obtain ⟨a, b⟩ := strs_all ds
  exact ⟨by omega, fun s hs => by have := b s hs; omega⟩

end Go.Proofs.YtnjopfjmepbpoaaDoor

/- The hash: a message that grows. -/
namespace Go.Proofs.YtnjopfjmepbpoaaDoor
set_option linter.unusedSimpArgs false
set_option linter.unusedVariables false
set_option linter.unnecessarySimpa false
open Go.RowKit

structure Strm where
  st : H8
  blk : List Int
  n : Nat
def pS (s : Strm) : List PV := pH s.st ++ (s.blk.map pbyte ++ [pu64 s.n])
theorem low_pS (s : Strm) : ∀ c ∈ pS s, Low c := by
  intro c hc
  rcases List.mem_append.1 hc with h | h
  · exact low_pH _ c h
  · rcases List.mem_append.1 h with h | h
    · exact low_map (fun _ => Low.val _) _ c h
    · simp at h; subst h; exact .val _
theorem bare_pS (s : Strm) : (pS s).map PV.bare = pS s := by
  have : (s.blk.map pbyte).map PV.bare = s.blk.map pbyte := bare_map (fun _ => rfl) _
  rw [pS, List.map_append, List.map_append, this]; rfl
theorem one_pS (s : Strm) : (pS s).all PV.one = true := by
  have : (s.blk.map pbyte).all PV.one = true := one_map (fun _ => rfl) _
  rw [pS, List.all_append, List.all_append, this]; rfl
theorem len_pS {s : Strm} (h : s.blk.length = 64) : (pS s).length = 73 := by simp [pS, pH, h]
def splI (l : List Int) (at_ : Nat) (x : List Int) : List Int := l.take at_ ++ x ++ l.drop (at_ + x.length)
/-- A round. -/
def Strm.put (s : Strm) (x : List Int) : Strm := ⟨s.st, splI s.blk (s.n % 64) x, s.n + x.length⟩
def Strm.full (s : Strm) (ks : List Int) : Strm := ⟨cmpH ks s.st s.blk, s.blk, s.n⟩
def Strm.turn (ks : List Int) (s : Strm) (x : List Int) : Strm := if s.n % 64 + x.length = 64 then (s.put x).full ks else s.put x
def addS (ks : List Int) (s : Strm) (bs : List Int) : Strm :=
  if h : bs = [] then s else addS ks (s.turn ks (bs.take (64 - s.n % 64))) (bs.drop (64 - s.n % 64))
termination_by bs.length
decreasing_by
  rw [List.length_drop]
  have : bs.length ≠ 0 := fun e => h (List.eq_nil_of_length_eq_zero e)
  have := Nat.mod_lt s.n (show 0 < 64 by omega)
  omega
theorem addS_nil (ks : List Int) (s : Strm) : addS ks s [] = s := by rw [addS]; simp
theorem addS_cons (ks : List Int) (s : Strm) {bs : List Int} (h : bs ≠ []) : addS ks s bs = addS ks (s.turn ks (bs.take (64 - s.n % 64))) (bs.drop (64 - s.n % 64)) := by rw [addS, dif_neg h]
theorem splI_len {l x : List Int} {a : Nat} (h : a + x.length ≤ l.length) : (splI l a x).length = l.length := by
  simp only [splI, List.length_append, List.length_take, List.length_drop]; omega
theorem turn_blk (ks : List Int) (s : Strm) (x : List Int) : (s.turn ks x).blk = splI s.blk (s.n % 64) x := by
  unfold Strm.turn; split <;> rfl
theorem turn_n (ks : List Int) (s : Strm) (x : List Int) : (s.turn ks x).n = s.n + x.length := by
  unfold Strm.turn; split <;> rfl

theorem flat_pH (s : H8) : ∀ c ∈ pH s, Flat c := by intro c hc; simp [pH] at hc; rcases hc with rfl | rfl | rfl | rfl | rfl | rfl | rfl | rfl <;> exact .val _
theorem pS_n {s : Strm} (h : s.blk.length = 64) : (pS s)[72]? = some (pu64 s.n) := by
  rw [pS, List.getElem?_append_right (by simp [pH]), List.getElem?_append_right (by simp [pH, h])]
  simp [pH, h]
theorem pS_setN {s : Strm} (h : s.blk.length = 64) (m : Nat) : splice (pS s) (0 + 72) [pu64 m] = pS ⟨s.st, s.blk, m⟩ := by
  have h1 : (pS s).take 72 = pH s.st ++ s.blk.map pbyte := by
    rw [pS, ← List.append_assoc, List.take_left' (by simp [pH, h])]
  have h2 : (pS s).drop 73 = [] := List.drop_eq_nil_of_le (by rw [len_pS h]; omega)
  show (pS s).take 72 ++ [pu64 m] ++ (pS s).drop 73 = _
  rw [h1, h2, List.append_nil, pS, List.append_assoc]
theorem pS_setH {s : Strm} (v : H8) : splice (pS s) 0 (pH v) = pS ⟨v, s.blk, s.n⟩ := by
  show (pS s).take 0 ++ pH v ++ (pS s).drop 8 = _
  rfl
theorem pS_setB {s : Strm} (h : s.blk.length = 64) {a : Nat} {X : List Int} (hx : a + X.length ≤ 64) : splice (pS s) (8 + a) (X.map pbyte) = pS ⟨s.st, splI s.blk a X, s.n⟩ := by
  have hp : (pH s.st).length = 8 := rfl
  unfold splice
  have h1 : (pS s).take (8 + a) = pH s.st ++ (s.blk.take a).map pbyte := by
    rw [pS, ← hp, List.take_append, List.take_append_of_le_length (by simp; omega), List.take_of_length_le (by omega), Nat.add_sub_cancel_left, List.map_take]
  have h2 : (pS s).drop (8 + a + (X.map pbyte).length) = (s.blk.drop (a + X.length)).map pbyte ++ [pu64 s.n] := by
    rw [pS, List.length_map, Nat.add_assoc, ← hp, List.drop_append, List.drop_append_of_le_length (by simp; omega), List.drop_eq_nil_of_le (by omega), Nat.add_sub_cancel_left, List.nil_append, List.map_drop]
  rw [h1, h2, pS, splI]
  simp
theorem strOf_cells {M : List Int} (h : ∀ c ∈ M, 0 ≤ c ∧ c < 256) : (strOf M).data.toList.map (fun x => PV.val (.int .u8 (x.toNat : Int))) = M.map pbyte := by
  have h1 := bytesL_strOf M h
  conv => rhs; rw [← h1]
  rw [bytesL, List.map_map]; rfl
theorem heqB_iff {a b : ByteArray} : (a.toList == b.toList) = true ↔ a = b := by
  rw [ByteArray.toList_eq, ByteArray.toList_eq, beq_iff_eq]
  exact ⟨fun h => ba_ext h, fun h => h ▸ rfl⟩
theorem htoList_ne {a b : ByteArray} (h : a ≠ b) : (a.toList == b.toList) = false := by
  cases hh : (a.toList == b.toList) with
  | false => rfl
  | true => exact absurd (heqB_iff.1 hh) h
def zeroS : Strm := ⟨⟨0, 0, 0, 0, 0, 0, 0, 0⟩, List.replicate 64 0, 0⟩
theorem strOf_drop {bs : List Int} (h : ∀ c ∈ bs, 0 ≤ c ∧ c < 256) (k : Nat) : (strOf bs).extract k (strOf bs).size = strOf (bs.drop k) := by
  apply ByteArray.ext
  apply Array.ext'
  rw [strOf_data, ByteArray.data_extract, Array.toList_extract, strOf_data, strOf_size, List.extract_eq_take_drop, List.map_drop, List.take_of_length_le (by simp)]

set_option maxRecDepth 10000 in
set_option maxHeartbeats 2000000 in
theorem pw_add (s : Strm) (bs : List Int) (hs : s.blk.length = 64) (hb : ∀ c ∈ bs, 0 ≤ c ∧ c < 256) (hn : s.n + bs.length ≤ 1000000000000000) : PCalls Tryd.prog 82 [.agg (pS s), pstr (strOf bs)] (· = .agg (pS (addS glob0 s bs))) := by
  refine pcalls_of_pw typeTab_ok Tryd.func82 rfl (by kernel_rfl) (by intro p hp; simp at hp; rcases hp with rfl | rfl; exact .agg _ (low_pS s); exact lw) (by simp [pstr, PV.ownB]) (Nat.le_of_ble_eq_true rfl) ?_
  refine wk ?_
  refine PWops.boxA rfl rfl rfl rfl rfl (one_pS s) (bare_pS s) ?_
  refine wk ?_
  refine PW.loop (fun x : Strm × List Int => ((((bot.setb 0 (pS x.1)).put 2 (.ptr 0 0)).setb 1 (pS zeroS)).put 4 (.ptr 1 0)).put 1 (pstr (strOf x.2))) (fun x => x.1.blk.length = 64 ∧ (∀ c ∈ x.2, 0 ≤ c ∧ c < 256) ∧ x.1.n + x.2.length ≤ 1000000000000000 ∧ addS glob0 x.1 x.2 = addS glob0 s bs) (fun x => x.2.length) (s, bs) ⟨hs, hb, hn, rfl⟩ ?_ ?_
  · dsimp only
    have l1 := low_pS s
    have l2 := low_pS zeroS
    exact sb
  · rintro ⟨u, M⟩ ⟨hu, hM, hun, he⟩
    simp only at hu hM hun he
    simp only
    have hlt := Nat.mod_lt u.n (show 0 < 64 by omega)
    by_cases h0 : M = []
    · have hne : (!((strOf M).toList == ByteArray.empty.toList)) = false := by subst h0; rw [show strOf [] = ByteArray.empty from rfl]; simp
      refine wk ?_
      refine PWops.ldAll rfl rfl rfl rfl rfl rfl rfl (len_pS hu) (bare_pS u) ?_
      refine PWops.stAll rfl rfl rfl rfl rfl rfl rfl rfl rfl (len_pS hu) (len_pS (s := zeroS) rfl) (one_pS u) (bare_pS u) ?_
      refine wk ?_
      refine ⟨_, presult1 (pres_cell rfl rfl rfl (len_pS hu) (bare_pS u)), .agg _ (low_pS u), ?_⟩
      rw [← he, h0, addS_nil]
    · have hne : (!((strOf M).toList == ByteArray.empty.toList)) = true := by
        have h1 : strOf M ≠ ByteArray.empty := by
          intro h; apply h0
          have h2 : (strOf M).size = 0 := by rw [h]; rfl
          rw [strOf_size] at h2; exact List.eq_nil_of_length_eq_zero h2
        rw [htoList_ne h1]; rfl
      have hnn : (pS u)[72]? = some (pu64 u.n) := by
        rw [pS, List.getElem?_append_right (by simp [pH]), List.getElem?_append_right (by simp [pH, hu])]
        simp [pH, hu]
      refine wk ?_
      refine PWops.ldB rfl rfl rfl rfl rfl rfl rfl rfl hnn rfl ?_
      refine PWops.remU (b := 64) rfl rfl rfl rfl rfl rfl rfl rfl (by decide) ?_
      refine PWops.valE (q := pint ((u.n % 64 : Nat) : Int)) rfl rfl rfl (by show PV.val (.int .i64 (IntKind.i64.wrap _)) = PV.val _; rw [wrap64_id (by omega) (by omega)]) rfl ?_
      refine wk ?_
      refine PWops.slcP (h := 64) (l := u.n % 64) rfl rfl rfl rfl rfl rfl rfl rfl (by simp [pbound, pev, PS.put, upd, PV.bare]; omega) (by decide) ?_
      refine wk ?_
      have hX : (M.take (64 - u.n % 64)).length = min M.length (64 - u.n % 64) := by rw [List.length_take]; omega
      have hbl : (splI u.blk (u.n % 64) (M.take (64 - u.n % 64))).length = 64 := by rw [splI_len (by rw [hX, hu]; omega), hu]
      have hM0 : M.length ≠ 0 := fun e => h0 (List.eq_nil_of_length_eq_zero e)
      refine PWops.copy (out := pS ⟨u.st, splI u.blk (u.n % 64) (M.take (64 - u.n % 64)), u.n⟩) (n2 := M.length) (cs := M.map pbyte) rfl rfl rfl rfl rfl (by show (some ((strOf M).size, (strOf M).data.toList.map (fun x => PV.val (.int .u8 (x.toNat : Int)))) : Option _) = _; rw [strOf_cells hM, strOf_size]) rfl rfl rfl ?_ ?_ ?_ ?_
      · rw [len_pS hu]; omega
      · rw [List.length_map]; omega
      · rw [← pS_setB hu (by rw [hX]; omega), Nat.zero_add, Nat.mul_one, Nat.mul_one, ← List.map_take]
        congr 2
        exact List.take_eq_take_iff.2 (by omega)
      refine wk ?_
      refine PWops.slcS (k := min M.length (64 - u.n % 64)) (q := strOf (M.drop (64 - u.n % 64))) rfl rfl rfl rfl rfl rfl rfl rfl rfl (by rw [strOf_size]; omega) ?_ ?_
      · rw [strOf_drop hM]
        congr 1
        by_cases hh : M.length ≤ 64 - u.n % 64
        · rw [Nat.min_eq_left hh, List.drop_eq_nil_of_le (Nat.le_refl _), List.drop_eq_nil_of_le hh]
        · rw [Nat.min_eq_right (by omega)]
      refine wk ?_
      refine PWops.ldB rfl rfl rfl rfl rfl rfl rfl rfl (pS_n hbl) rfl ?_
      refine PWops.idd ?_
      first | refine PWops.stepA rfl ?_ | refine PWops.doneI rfl ?_ | refine PWops.boolK true rfl rfl rfl rfl (by (first | rfl | assumption | (simp only [decide_eq_true_eq, decide_eq_false_iff_not, bne_iff_ne, beq_iff_eq, beq_eq_false_iff_ne, bne_eq_false_iff_eq, ne_eq] ; omega))) rfl ?_ | refine PWops.boolK false rfl rfl rfl rfl (by (first | rfl | assumption | (simp only [decide_eq_true_eq, decide_eq_false_iff_not, bne_iff_ne, beq_iff_eq, beq_eq_false_iff_ne, bne_eq_false_iff_eq, ne_eq] ; omega))) rfl ?_ | refine PWops.fitsK rfl rfl rfl rfl (by (first | omega | (dsimp only ; omega))) (by (first | omega | (dsimp only ; omega))) rfl ?_ | refine PWops.remK rfl rfl rfl rfl (by (first | omega | (dsimp only ; omega))) rfl ?_ | refine PWops.quoK rfl rfl rfl rfl (by (first | omega | (dsimp only ; omega))) rfl ?_ | refine PWops.app rfl rfl rfl rfl rfl rfl rfl rfl (by (first | omega | (dsimp only ; omega))) (by (first | omega | (dsimp only ; omega))) (by first | rfl | exact secL_one _ | exact one_pint _ | exact one_pstr _ | exact one_pbyte _ | exact one_pattrs _) ?_ | refine PWops.app0 rfl rfl rfl rfl rfl rfl rfl rfl (by (first | omega | (dsimp only ; omega))) (by (first | omega | (dsimp only ; omega))) (by first | rfl | exact secL_one _ | exact one_pint _ | exact one_pstr _ | exact one_pbyte _ | exact one_pattrs _) ?_ | refine PWops.idx1 rfl rfl rfl rfl rfl rfl rfl rfl (by (first | omega | (dsimp only ; omega))) ?_ | refine PWops.idx rfl rfl rfl rfl rfl rfl rfl rfl (by (first | omega | (dsimp only ; omega))) ?_ | refine PWops.ld rfl rfl rfl rfl rfl rfl rfl (by assumption) rfl ?_ | refine PWops.ldA rfl rfl rfl rfl rfl rfl (by (first | omega | (dsimp only ; omega))) (by assumption) ?_ | refine PWops.str rfl rfl rfl rfl rfl rfl rfl rfl rfl rfl rfl ?_
      first | refine PWops.stepA rfl ?_ | refine PWops.doneI rfl ?_ | refine PWops.boolK true rfl rfl rfl rfl (by (first | rfl | assumption | (simp only [decide_eq_true_eq, decide_eq_false_iff_not, bne_iff_ne, beq_iff_eq, beq_eq_false_iff_ne, bne_eq_false_iff_eq, ne_eq] ; omega))) rfl ?_ | refine PWops.boolK false rfl rfl rfl rfl (by (first | rfl | assumption | (simp only [decide_eq_true_eq, decide_eq_false_iff_not, bne_iff_ne, beq_iff_eq, beq_eq_false_iff_ne, bne_eq_false_iff_eq, ne_eq] ; omega))) rfl ?_ | refine PWops.fitsK rfl rfl rfl rfl (by (first | omega | (dsimp only ; omega))) (by (first | omega | (dsimp only ; omega))) rfl ?_ | refine PWops.remK rfl rfl rfl rfl (by (first | omega | (dsimp only ; omega))) rfl ?_ | refine PWops.quoK rfl rfl rfl rfl (by (first | omega | (dsimp only ; omega))) rfl ?_ | refine PWops.app rfl rfl rfl rfl rfl rfl rfl rfl (by (first | omega | (dsimp only ; omega))) (by (first | omega | (dsimp only ; omega))) (by first | rfl | exact secL_one _ | exact one_pint _ | exact one_pstr _ | exact one_pbyte _ | exact one_pattrs _) ?_ | refine PWops.app0 rfl rfl rfl rfl rfl rfl rfl rfl (by (first | omega | (dsimp only ; omega))) (by (first | omega | (dsimp only ; omega))) (by first | rfl | exact secL_one _ | exact one_pint _ | exact one_pstr _ | exact one_pbyte _ | exact one_pattrs _) ?_ | refine PWops.idx1 rfl rfl rfl rfl rfl rfl rfl rfl (by (first | omega | (dsimp only ; omega))) ?_ | refine PWops.idx rfl rfl rfl rfl rfl rfl rfl rfl (by (first | omega | (dsimp only ; omega))) ?_ | refine PWops.ld rfl rfl rfl rfl rfl rfl rfl (by assumption) rfl ?_ | refine PWops.ldA rfl rfl rfl rfl rfl rfl (by (first | omega | (dsimp only ; omega))) (by assumption) ?_ | refine PWops.str rfl rfl rfl rfl rfl rfl rfl rfl rfl rfl rfl ?_
      refine PWops.valE (q := pu64 ((u.n + min M.length (64 - u.n % 64) : Nat) : Int)) rfl rfl rfl (by show PV.val (.int .u64 (IntKind.u64.wrap ((u.n : Int) + IntKind.u64.wrap _))) = PV.val _; rw [IntWalk.u64_in ((min M.length (64 - u.n % 64) : Nat) : Int) (by omega), IntWalk.u64_in _ (by omega)]; congr 2) rfl ?_
      refine wk ?_
      refine PWops.stB (new := [pu64 ((u.n + min M.length (64 - u.n % 64) : Nat) : Int)]) rfl rfl rfl rfl rfl rfl rfl rfl rfl ⟨rfl, by rw [len_pS hbl]; show 0 + 72 + 1 ≤ 73; omega⟩ (pS_setN hbl _) ?_
      have hdl : (M.drop (64 - u.n % 64)).length = M.length - (64 - u.n % 64) := List.length_drop
      have l2 := low_pS zeroS
      by_cases hful : u.n % 64 + min M.length (64 - u.n % 64) = 64
      · have hc := HCalls.ofP (gm := []) (given := [(0, pS ⟨u.st, splI u.blk (u.n % 64) (M.take (64 - u.n % 64)), u.n + min M.length (64 - u.n % 64)⟩)]) (args' := [.agg (pH u.st), .msl 0 (0 + 8 + 0 * 1) (64 - 0) 1]) (pw_compress u.st (splI u.blk (u.n % 64) (M.take (64 - u.n % 64))) hbl)
          (.cons (.same _) (by
            have e : pbytes (splI u.blk (u.n % 64) (M.take (64 - u.n % 64))) = .sl (64 - 0) 1 (((pS ⟨u.st, splI u.blk (u.n % 64) (M.take (64 - u.n % 64)), u.n + min M.length (64 - u.n % 64)⟩).drop (0 + 8 + 0 * 1)).take ((64 - 0) * 1)) none := by
              rw [pbytes]
              refine sl_eq (by rw [hbl]) ?_
              show _ = (((splI u.blk (u.n % 64) (M.take (64 - u.n % 64))).map pbyte ++ [_])).take 64
              rw [List.take_left' (by rw [List.length_map, hbl])]
            rw [e]
            exact .cons (.msl _ _ _ _ _ (by simp) (by rw [len_pS hbl]; decide)) .nil))
          (fun x hx c hcx => by simp at hx; subst hx; exact (low_pS _ c hcx).lowI) (by simp) (.agg _ (flat_pH _)) rfl
        refine wk ?_
        refine PWops.stB (new := pH (cmpH glob0 u.st (splI u.blk (u.n % 64) (M.take (64 - u.n % 64))))) rfl rfl rfl rfl rfl rfl rfl rfl rfl ⟨rfl, by rw [len_pS hbl]; show 0 + 8 ≤ 73; omega⟩ (pS_setH _) ?_
        refine wk ?_
        have ht : u.turn glob0 (M.take (64 - u.n % 64)) = ⟨cmpH glob0 u.st (splI u.blk (u.n % 64) (M.take (64 - u.n % 64))), splI u.blk (u.n % 64) (M.take (64 - u.n % 64)), u.n + min M.length (64 - u.n % 64)⟩ := by rw [Strm.turn, if_pos (by rw [hX]; exact hful), Strm.put, Strm.full, hX]
        have l1 := low_pS ⟨cmpH glob0 u.st (splI u.blk (u.n % 64) (M.take (64 - u.n % 64))), splI u.blk (u.n % 64) (M.take (64 - u.n % 64)), u.n + min M.length (64 - u.n % 64)⟩
        refine loopP (⟨cmpH glob0 u.st (splI u.blk (u.n % 64) (M.take (64 - u.n % 64))), splI u.blk (u.n % 64) (M.take (64 - u.n % 64)), u.n + min M.length (64 - u.n % 64)⟩, M.drop (64 - u.n % 64)) ⟨hbl, fun c hcx => hM c (List.mem_of_mem_drop hcx), by simp only [hdl]; omega, ?_⟩ (by simp only [hdl]; omega) ?_
        · rw [← he, addS_cons glob0 u h0, ht]
        · dsimp only
          exact sb
      · refine wk ?_
        have ht : u.turn glob0 (M.take (64 - u.n % 64)) = ⟨u.st, splI u.blk (u.n % 64) (M.take (64 - u.n % 64)), u.n + min M.length (64 - u.n % 64)⟩ := by rw [Strm.turn, if_neg (by rw [hX]; exact hful), Strm.put, hX]
        have l1 := low_pS ⟨u.st, splI u.blk (u.n % 64) (M.take (64 - u.n % 64)), u.n + min M.length (64 - u.n % 64)⟩
        refine loopP (⟨u.st, splI u.blk (u.n % 64) (M.take (64 - u.n % 64)), u.n + min M.length (64 - u.n % 64)⟩, M.drop (64 - u.n % 64)) ⟨hbl, fun c hcx => hM c (List.mem_of_mem_drop hcx), by simp only [hdl]; omega, ?_⟩ (by simp only [hdl]; omega) ?_
        · rw [← he, addS_cons glob0 u h0, ht]
        · dsimp only
          exact sb
end Go.Proofs.YtnjopfjmepbpoaaDoor

/- The hash: the end of a message. -/
namespace Go.Proofs.YtnjopfjmepbpoaaDoor
set_option linter.unusedSimpArgs false
set_option linter.unusedVariables false
set_option linter.unnecessarySimpa false
open Go.RowKit

def h8L (s : H8) : List Int := [s.a, s.b, s.c, s.d, s.e, s.f, s.g, s.h]
/-- How many zeros the padding has. -/
def zc (n : Nat) : Nat := (119 - n % 64) % 64
def hByteAt (m : Int) (i : Nat) : Int := IntKind.u8.wrap (m.fdiv (2 ^ (min (56 - 8 * (i : Int)).toNat IntKind.u64.bits)))
def be8 (m : Int) (k : Nat) : List Int := (List.range k).map (hByteAt m)
def padI (n : Nat) : List Int := 128 :: List.replicate (zc n) 0 ++ be8 (IntKind.u64.wrap (8 * (n : Int))) 8
def outV (s : H8) (i : Nat) : Int := IntKind.u8.wrap (((h8L s).getD (i / 4) default).fdiv (2 ^ (min (24 - 8 * ((i : Int) % 4)).toNat IntKind.u32.bits)))
def outW (s : H8) : Nat → List Int
  | 0 => List.replicate 32 0
  | i + 1 => (outW s i).set i (outV s i)
theorem outW_len (s : H8) : ∀ i, (outW s i).length = 32
  | 0 => by simp [outW]
  | i + 1 => by rw [outW, List.length_set, outW_len s i]
def sumS (ks : List Int) (s : Strm) : List Int := outW (addS ks s (padI s.n)).st 32
theorem pS_h {s : Strm} {j : Nat} (h : j < 8) : (pS s)[j]? = some (pu32 ((h8L s.st).getD j default)) := by
  match j, h with
  | 0, _ => rfl
  | 1, _ => rfl
  | 2, _ => rfl
  | 3, _ => rfl
  | 4, _ => rfl
  | 5, _ => rfl
  | 6, _ => rfl
  | 7, _ => rfl
theorem hByteAt_ok (m : Int) (i : Nat) : 0 ≤ hByteAt m i ∧ hByteAt m i < 256 := by
  unfold hByteAt
  rw [IntKind.wrap_u8]; omega
theorem padI_byte (n : Nat) : ∀ c ∈ padI n, 0 ≤ c ∧ c < 256 := by
  intro c hc
  rcases List.mem_append.1 hc with h | h
  · rcases List.mem_cons.1 h with rfl | h
    · decide
    · obtain ⟨-, rfl⟩ := List.mem_replicate.1 h; decide
  · obtain ⟨i, -, rfl⟩ := List.mem_map.1 h; exact hByteAt_ok _ _
theorem padI_len (n : Nat) : (padI n).length = zc n + 9 := by simp [padI, be8]
theorem turn_len {ks : List Int} {s : Strm} {x : List Int} (h : s.blk.length = 64) (hx : s.n % 64 + x.length ≤ 64) : (s.turn ks x).blk.length = 64 := by
  rw [turn_blk, splI_len (by omega), h]

theorem addS_len (ks : List Int) : ∀ (n : Nat) (s : Strm) (bs : List Int), bs.length = n → s.blk.length = 64 → (addS ks s bs).blk.length = 64 := by
  intro n
  induction n using Nat.strongRecOn with
  | _ n ih =>
    intro s bs hl h
    by_cases h0 : bs = []
    · subst h0; rw [addS_nil]; exact h
    · have h1 : bs.length ≠ 0 := fun e => h0 (List.eq_nil_of_length_eq_zero e)
      have h2 := Nat.mod_lt s.n (show 0 < 64 by omega)
      rw [addS_cons ks s h0]
      exact ih _ (by rw [← hl, List.length_drop]; omega) _ _ rfl (turn_len h (by rw [List.length_take]; omega))

set_option maxRecDepth 10000 in
set_option maxHeartbeats 2000000 in
theorem pw_sum (s : Strm) (hs : s.blk.length = 64) (hn : s.n ≤ 100000000000000) : PCalls Tryd.prog 83 [.agg (pS s)] (· = .agg ((sumS glob0 s).map pbyte)) := by
  refine pcalls_of_pw typeTab_ok Tryd.func83 rfl (by kernel_rfl) (by intro p hp; simp at hp; subst hp; exact .agg _ (low_pS s)) (by simp [PV.ownB]) (Nat.le_of_ble_eq_true rfl) ?_
  have hlt := Nat.mod_lt s.n (show 0 < 64 by omega)
  have l1 := low_pS s
  refine wk ?_
  refine PWops.boxA rfl rfl rfl rfl rfl (one_pS s) (bare_pS s) ?_
  refine wk ?_
  refine PWops.ldB rfl rfl rfl rfl rfl rfl rfl rfl (pS_n hs) rfl ?_
  refine wk ?_
  refine PW.loop (fun k : Nat => ((((((bot.setb 0 (pS s)).put 1 (.ptr 0 0)).setb 1 (List.replicate 32 (pbyte 0))).put 2 (.ptr 1 0)).put 3 (pu64 (IntKind.u64.wrap (8 * (s.n : Int))))).put 4 (.sl (k + 1) 1 ((128 :: List.replicate k 0).map pbyte) (some 5)))) (fun k => k ≤ zc s.n) (fun k => zc s.n - k) 0 (by omega) ?_ ?_
  · exact sb
  · intro k hk
    have hz : zc s.n = (119 - s.n % 64) % 64 := rfl
    refine wk ?_
    refine PWops.ldB rfl rfl rfl rfl rfl rfl rfl rfl (pS_n hs) rfl ?_
    refine PWops.valE (q := pint (s.n : Int)) rfl rfl rfl (by show PV.val (.int .i64 (IntKind.i64.wrap _)) = PV.val _; rw [wrap64_id (by omega) (by omega)]) rfl ?_
    by_cases hkz : k < zc s.n
    · refine wk ?_
      refine loopP (k + 1) (by omega) (by omega) ?_
      have e : (128 :: List.replicate (k + 1) (0 : Int)).map pbyte = (128 :: List.replicate k 0).map pbyte ++ [pbyte 0] := by
        rw [List.replicate_succ']; simp
      have ll : Low (.sl (k + 1 + 1) 1 ((128 :: List.replicate (k + 1) (0 : Int)).map pbyte) (some 5)) := low_mapB
      rw [e] at ll ⊢
      exact sb
    · have e : k = zc s.n := by omega
      subst e
      refine wk ?_
      have hp0 : (128 :: List.replicate (zc s.n) (0 : Int)) ++ be8 (IntKind.u64.wrap (8 * (s.n : Int))) 0 = 128 :: List.replicate (zc s.n) 0 := by simp [be8]
      have hpl : ∀ i, ((128 :: List.replicate (zc s.n) (0 : Int)) ++ be8 (IntKind.u64.wrap (8 * (s.n : Int))) i).length = zc s.n + 1 + i := by intro i; simp [be8]; omega
      refine PW.loop (fun i : Nat => ((((((bot.setb 0 (pS s)).put 1 (.ptr 0 0)).setb 1 (List.replicate 32 (pbyte 0))).put 2 (.ptr 1 0)).put 3 (pu64 (IntKind.u64.wrap (8 * (s.n : Int))))).put 4 (.sl (zc s.n + 1 + i) 1 (((128 :: List.replicate (zc s.n) 0) ++ be8 (IntKind.u64.wrap (8 * (s.n : Int))) i).map pbyte) (some 5))).put 23 (pint i)) (fun i => i ≤ 8) (fun i => 8 - i) 0 (by omega) ?_ ?_
      · rw [hp0]
        exact sb
      · intro i hi
        by_cases h8 : i < 8
        · refine wk ?_
          refine loopP (i + 1) (by omega) (by omega) ?_
          have e2 : ((128 :: List.replicate (zc s.n) (0 : Int)) ++ be8 (IntKind.u64.wrap (8 * (s.n : Int))) (i + 1)).map pbyte = ((128 :: List.replicate (zc s.n) (0 : Int)) ++ be8 (IntKind.u64.wrap (8 * (s.n : Int))) i).map pbyte ++ [pbyte (hByteAt (IntKind.u64.wrap (8 * (s.n : Int))) i)] := by
            rw [be8, be8, List.range_succ]; simp
          have ll : Low (.sl (zc s.n + 1 + (i + 1)) 1 (((128 :: List.replicate (zc s.n) (0 : Int)) ++ be8 (IntKind.u64.wrap (8 * (s.n : Int))) (i + 1)).map pbyte) (some 5)) := low_mapB
          rw [e2] at ll ⊢
          exact sb
        · have e : i = 8 := by omega
          subst e
          have ha := pw_add s (padI s.n) hs (padI_byte _) (by rw [padI_len]; omega)
          have hul := addS_len glob0 _ s (padI s.n) rfl hs
          obtain ⟨u, hu⟩ : ∃ u, u = addS glob0 s (padI s.n) := ⟨_, rfl⟩
          rw [← hu] at ha hul
          rw [show sumS glob0 s = outW u.st 32 by rw [sumS, hu]]
          have l2 := low_pS u
          refine wk ?_
          refine PWops.ldAll rfl rfl rfl rfl rfl rfl rfl (len_pS hs) (bare_pS s) ?_
          refine wk ?_
          refine PWops.stAll rfl rfl rfl rfl rfl rfl rfl rfl rfl (len_pS hul) (len_pS hs) (one_pS u) (bare_pS u) ?_
          refine wk ?_
          refine PW.loop (fun i : Nat => ((((((bot.setb 0 (pS u)).put 1 (.ptr 0 0)).setb 1 (List.replicate 32 (pbyte 0))).put 2 (.ptr 1 0)).setb 11000 ((outW u.st i).map pbyte)).put 6 (.ptr 11000 0)).put 40 (pint i)) (fun i => i ≤ 32) (fun i => 32 - i) 0 (by omega) ?_ ?_
          · exact sb
          · intro i hi
            have hol := outW_len u.st i
            by_cases h32 : i < 32
            · have hc : (pS u)[((i : Int) / 4).toNat]? = some (pu32 ((h8L u.st).getD (i / 4) default)) := by
                rw [show ((i : Int) / 4).toNat = i / 4 by omega]; exact pS_h (by omega)
              have hS : (outW u.st (i + 1)).map pbyte = ((outW u.st i).set (i : Int).toNat (outV u.st i)).map pbyte := rfl
              refine wk ?_
              refine PWops.ldB rfl rfl rfl rfl rfl rfl rfl rfl hc rfl ?_
              refine wk ?_
              refine loopP (i + 1) (by omega) (by omega) ?_
              exact sb
            · have e : i = 32 := by omega
              subst e
              generalize outW u.st 32 = O at *
              refine wk ?_
              exact ⟨_, presult1 (pres_cell rfl rfl rfl (len_map hol) (bare_map (fun _ => rfl) _)), by exact lw, rfl⟩
end Go.Proofs.YtnjopfjmepbpoaaDoor

/- What the operators on bits give, where wire uses them. -/
namespace Go.Proofs.YtnjopfjmepbpoaaDoor
set_option linter.unusedSimpArgs false
set_option linter.unusedVariables false
set_option linter.unnecessarySimpa false

theorem wraps_u64 (n : Int) (h₀ : 0 ≤ n) (h₁ : n < 2 ^ 64) : IntKind.u64.wrap n = n := by rw [IntKind.wrap_u64]; omega

theorem xor_u64_0 (x : Int) (h0 : 0 ≤ x) (h1 : x < 18446744073709551616) : bits .xor .u64 x 0 = x := by
  obtain ⟨a, rfl⟩ : ∃ a : Nat, x = a := ⟨x.toNat, by omega⟩
  have := bits_xor_u64_nat a 0 (by omega) (by omega)
  simpa using this

theorem xor_u64_ones (x : Int) (h0 : 0 ≤ x) (h1 : x < 18446744073709551616) : bits .xor .u64 x 18446744073709551615 = 18446744073709551615 - x := by
  obtain ⟨a, rfl⟩ : ∃ a : Nat, x = a := ⟨x.toNat, by omega⟩
  have e : (BitVec.ofInt IntKind.u64.bits 18446744073709551615 : BitVec IntKind.u64.bits) = BitVec.allOnes 64 := rfl
  have e2 : ((BitVec.ofInt IntKind.u64.bits (a : Int) : BitVec IntKind.u64.bits) ^^^ BitVec.ofInt IntKind.u64.bits 18446744073709551615).toNat = 18446744073709551615 - a := by
    rw [e]
    show ((BitVec.ofInt 64 (a : Int)) ^^^ BitVec.allOnes 64).toNat = _
    rw [BitVec.xor_allOnes, BitVec.toNat_not, BitVec.toNat_ofInt]
    omega
  show IntKind.u64.wrap _ = _
  simp only []
  rw [e2, IntKind.wrap_u64]
  omega

theorem xor_i64_0 (x : Int) (h0 : -9223372036854775808 ≤ x) (h1 : x < 9223372036854775808) : bits .xor .i64 x 0 = x := by
  have e2 : ((BitVec.ofInt IntKind.i64.bits x : BitVec IntKind.i64.bits) ^^^ BitVec.ofInt IntKind.i64.bits 0).toNat = (x % 18446744073709551616).toNat := by
    show ((BitVec.ofInt 64 x) ^^^ BitVec.ofInt 64 0).toNat = _
    rw [show BitVec.ofInt 64 0 = 0#64 from rfl, BitVec.xor_zero, BitVec.toNat_ofInt]
    rfl
  show IntKind.i64.wrap _ = _
  simp only []
  rw [e2, IntKind.wrap_i64]
  omega

theorem xor_i64_ones (x : Int) (h0 : -9223372036854775808 ≤ x) (h1 : x < 9223372036854775808) : bits .xor .i64 x (-1) = -1 - x := by
  have e2 : ((BitVec.ofInt IntKind.i64.bits x : BitVec IntKind.i64.bits) ^^^ BitVec.ofInt IntKind.i64.bits (-1)).toNat = 18446744073709551615 - (x % 18446744073709551616).toNat := by
    show ((BitVec.ofInt 64 x) ^^^ BitVec.ofInt 64 (-1)).toNat = _
    rw [show BitVec.ofInt 64 (-1) = BitVec.allOnes 64 from rfl, BitVec.xor_allOnes, BitVec.toNat_not, BitVec.toNat_ofInt]
    rfl
  show IntKind.i64.wrap _ = _
  simp only []
  rw [e2, IntKind.wrap_i64]
  omega

theorem u8_and127 (x : Int) (h₀ : 0 ≤ x) (h₁ : x < 256) : bits .and .u8 x 127 = x % 128 := bits_mask .u8 8 (by decide) wraps_u8 7 (by decide) x h₀ h₁
theorem u64_and1 (x : Int) (h₀ : 0 ≤ x) (h₁ : x < 18446744073709551616) : bits .and .u64 x 1 = x % 2 := bits_mask .u64 64 (by decide) wraps_u64 1 (by decide) x h₀ h₁

theorem bits_or_comm (k : IntKind) (x y : Int) : bits .or k x y = bits .or k y x := by
  simp only [bits, BitVec.or_comm]

theorem u8_or128' (q : Int) (h0 : 0 ≤ q) : bits .or .u8 (q % 256) 128 = q % 128 + 128 := by
  obtain ⟨a, rfl⟩ : ∃ a : Nat, q = a := ⟨q.toNat, by omega⟩
  have h := (bits_nat .u8 8 (by decide) wraps_u8 (a % 256) 128 (by omega) (by omega)).2
  have e : (a % 256 ||| 128 : Nat) = a % 128 + 128 := by
    have key : ∀ x : Fin 256, (x.val ||| 128 : Nat) = x.val % 128 + 128 := by decide +kernel
    have := key ⟨a % 256, by omega⟩
    simp only at this
    rw [this]; omega
  rw [e] at h
  have c1 : ((a % 256 : Nat) : Int) = (a : Int) % 256 := by omega
  have c2 : ((128 : Nat) : Int) = 128 := rfl
  rw [c1, c2] at h
  rw [h]; omega

/-- z |= d << (7k), where z has only lower bits. -/
theorem u64_or_shift (z d : Int) (k : Nat) (hk : k ≤ 9) (hz0 : 0 ≤ z) (hz : z < 2 ^ (7 * k)) (hd0 : 0 ≤ d) (hd9 : d * 2 ^ (7 * k) < 18446744073709551616) :
    bits .or .u64 z (d * 2 ^ (7 * k)) = z + d * 2 ^ (7 * k) := by
  have hp : (0 : Int) < 2 ^ (7 * k) := Int.pow_pos (by decide)
  have hle : (2 : Int) ^ (7 * k) ≤ 9223372036854775808 := by
    have : (2 : Int) ^ (7 * k) ≤ 2 ^ 63 := by
      have h := Nat.pow_le_pow_right (n := 2) (by decide) (show 7 * k ≤ 63 by omega)
      exact_mod_cast h
    simpa using this
  rw [bits_or_comm, bits_join .u64 64 (by decide) wraps_u64 (7 * k) _ _ (Int.mul_nonneg hd0 (by omega)) (by simp) (by simpa using hd9) hz0 hz (by
    have : (2 : Int) ^ 64 = 18446744073709551616 := by decide
    omega)]
  omega

end Go.Proofs.YtnjopfjmepbpoaaDoor

/- The walks of wire and antiquaryref01: Int and GetInt. -/
namespace Go.Proofs.YtnjopfjmepbpoaaDoor
set_option linter.unusedSimpArgs false
set_option linter.unusedVariables false
set_option linter.unnecessarySimpa false
open Go.RowKit
theorem elemByte : Elem1 Tryd.prog 5 (.int .u8 0) 1 := ⟨by kernel_rfl, rfl⟩

/-- The call returns a new slice of bytes. -/
def MadeBytes (w : World) (bs : List Int) (e : Ending) (w' : World) : Prop :=
  ∃ v, e = .returned v ∧ Own w.heap.size 5 w' v (bs.map (Value.int .u8)) ∧ Below w.heap.size w w'

/-- A slice of bytes. -/
def Bytes (w : World) (v : Value) (bs : List Int) : Prop := Rd w v (bs.map (Value.int .u8))

theorem Bytes.open {w : World} {v : Value} {zs : List Int} (h : Bytes w v zs) : ∃ a cap b off, v = .slice a zs.length cap ∧ zs.length ≤ cap ∧ cap ≤ maxLen ∧
    (0 < zs.length → a = some ⟨b, off, none⟩) ∧ Hid (∀ (j : Nat) (x : Int), zs[j]? = some x → w.cell? ⟨b, off + j, none⟩ = some (.int .u8 x)) := by
  obtain ⟨a, cap, b, off, h1, h2, h3, h4, h5⟩ := h
  simp only [List.length_map] at h1 h2 h4
  exact ⟨a, cap, b, off, h1, h2, h3, h4, fun j x hx => h5 j _ (by simp [hx])⟩

def Byte (bs : List Int) : Prop := ∀ (k : Nat) (c : Int), bs[k]? = some c → 0 ≤ c ∧ c < 256

theorem zig_walk (n : Int) (h1 : -9223372036854775808 ≤ n) (h2 : n ≤ 9223372036854775807) :
    bits BinOp.xor IntKind.u64 (IntKind.u64.wrap (IntKind.u64.wrap n * 2)) (IntKind.u64.wrap (n / 9223372036854775808)) = zig n := by
  simp only [IntKind.wrap_u64]
  by_cases h : 0 ≤ n
  · have e : n / 9223372036854775808 % 18446744073709551616 = 0 := by omega
    rw [e, xor_u64_0 _ (by omega) (by omega)]; unfold zig; rw [if_pos h]; omega
  · have e : n / 9223372036854775808 % 18446744073709551616 = 18446744073709551615 := by omega
    rw [e, xor_u64_ones _ (by omega) (by omega)]; unfold zig; rw [if_neg h]; omega

set_option maxRecDepth 100000 in
set_option maxHeartbeats 400000 in
theorem wireInt (n : Int) (w : World) (h1 : -9223372036854775808 ≤ n) (h2 : n ≤ 9223372036854775807) : Calls Tryd.prog 76 #[.int .i64 n] w (MadeBytes w (intB n)) := by
  have hz := zig_lt n h1 h2
  have hlen := leb64 _ hz
  go_enter Tryd.func76, Tryd.ntmps76
  go_wp2
  go_loopw [3, 4] (fun z o wr => ∃ (q : Nat) (out : List Int), q < 18446744073709551616 ∧ z = .int .u64 q ∧ out.length ≤ 9 ∧ Own w.heap.size 5 wr o (out.map (Value.int .u8)) ∧ Below w.heap.size w wr ∧ Hid (intB n = out ++ leb q)) (fun z _ _ => (intOf z).toNat)
  case atStart => exact ⟨zig n, [], hz, by rw [zig_walk n h1 h2], by simp, Own.nil _ _ _, Below.refl _ _, rfl⟩
  case round =>
    obtain ⟨q, out, hq, rfl, ho, hown, hb, hh⟩ := hrel
    have HB := Hid.mk hb
    clear hb
    have hb2 := HB.out.size
    by_cases g : 127 < q
    · have H := Hid.mk (leb_big q (by omega))
      have hl : out.length + 1 ≤ 9 := by
        have e := congrArg List.length hh.out
        rw [H.out] at e
        have := leb_pos (q / 128)
        simp at e
        unfold intB at e
        omega
      have eor := u8_or128' q (by omega)
      go_wp2_with (at_builtin; refine wp_push (.tmp 16) (.tmp 20) 26 _ 5 1 _ elemByte rfl rfl Tryd.underlying26 w.heap.size _ _ _ rfl hown rfl rfl (by simp [maxLen]; omega) (by simp; omega) hb2 ?_; intro v' w' hown' hb')
      go_roundw
      case rel => exact ⟨q / 128, out ++ [((q % 128 + 128 : Nat) : Int)], by omega, by go_num, by simpa using hl, by simpa using hown', HB.out.trans hb', by rw [Hid, hh.out, H.out]; simp⟩
      case measure => simp [intOf]; omega
    · have H := Hid.mk (leb_small q (by omega))
      go_wp2_with (at_builtin; refine wp_push (.tmp 22) (.tmp 25) 26 _ 5 1 _ elemByte rfl rfl Tryd.underlying26 w.heap.size _ _ _ rfl hown rfl rfl (by simp [maxLen]; omega) (by simp; omega) hb2 ?_; intro v' w' hown' hb')
      go_ret
      exact ⟨_, rfl, by rw [hh.out, H.out]; simpa using hown', HB.out.trans hb'⟩

set_option maxRecDepth 100000 in
set_option maxHeartbeats 400000 in
theorem refInt (n : Int) (w : World) (h1 : -9223372036854775808 ≤ n) (h2 : n ≤ 9223372036854775807) : Calls Tryd.prog 79 #[.int .i64 n] w (MadeBytes w (intB n)) := by
  have hz := zig_lt n h1 h2
  have hlen := leb64 _ hz
  by_cases hn : n < 0
  all_goals
    go_enter Tryd.func79, Tryd.ntmps79
    go_wp2
    go_loopw [3, 4] (fun z o wr => ∃ (q : Nat) (out : List Int), q < 18446744073709551616 ∧ z = .int .u64 q ∧ out.length ≤ 9 ∧ Own w.heap.size 5 wr o (out.map (Value.int .u8)) ∧ Below w.heap.size w wr ∧ Hid (intB n = out ++ leb q)) (fun z _ _ => (intOf z).toNat)
    case atStart => exact ⟨zig n, [], hz, by congr 1; simp only [IntKind.wrap_u64, IntKind.wrap_i64, zig]; split <;> omega, by simp, Own.nil _ _ _, Below.refl _ _, rfl⟩
    case round =>
      obtain ⟨q, out, hq, rfl, ho, hown, hb, hh⟩ := hrel
      have HB := Hid.mk hb
      clear hb
      have hb2 := HB.out.size
      by_cases g : 127 < q
      · have H := Hid.mk (leb_big q (by omega))
        have hl : out.length + 1 ≤ 9 := by
          have e := congrArg List.length hh.out
          rw [H.out] at e
          have := leb_pos (q / 128)
          simp at e
          unfold intB at e
          omega
        go_wp2_with (at_builtin; refine wp_push (.tmp 17) (.tmp 22) 26 _ 5 1 _ elemByte rfl rfl Tryd.underlying26 w.heap.size _ _ _ rfl hown rfl rfl (by simp [maxLen]; omega) (by simp; omega) hb2 ?_; intro v' w' hown' hb')
        go_roundw
        case rel => exact ⟨q / 128, out ++ [((q % 128 + 128 : Nat) : Int)], by omega, by go_num, by simpa using hl, by simpa using hown', HB.out.trans hb', by rw [Hid, hh.out, H.out]; simp⟩
        case measure => simp [intOf]; omega
      · have H := Hid.mk (leb_small q (by omega))
        go_wp2_with (at_builtin; refine wp_push (.tmp 26) (.tmp 29) 26 _ 5 1 _ elemByte rfl rfl Tryd.underlying26 w.heap.size _ _ _ rfl hown rfl rfl (by simp [maxLen]; omega) (by simp; omega) hb2 ?_; intro v' w' hown' hb')
        go_ret
        exact ⟨_, rfl, by rw [hh.out, H.out]; simpa using hown', HB.out.trans hb'⟩

end Go.Proofs.YtnjopfjmepbpoaaDoor

/- The walk of wire.GetInt. -/
namespace Go.Proofs.YtnjopfjmepbpoaaDoor
set_option linter.unusedSimpArgs false
set_option linter.unusedVariables false
set_option linter.unnecessarySimpa false
open Go.RowKit

theorem unzig_walk (z : Int) (h0 : 0 ≤ z) (h1 : z < 18446744073709551616) : bits BinOp.xor IntKind.i64 (z / 2) (-(z % 2)) = unzig z := by
  unfold unzig
  by_cases h : z % 2 = 0
  · rw [if_pos h, h]; exact xor_i64_0 _ (by omega) (by omega)
  · rw [if_neg h, show z % 2 = 1 by omega]; exact xor_i64_ones _ (by omega) (by omega)

theorem or_walk (q c : Int) (k : Nat) (hk : k ≤ 9) (q0 : 0 ≤ q) (hq : q < 2 ^ (7 * k)) (c0 : 0 ≤ c) (c1 : c < 256) (c9 : k = 9 → c ≤ 1) :
    bits .or .u64 q (IntKind.u64.wrap (c % 128 * 2 ^ (7 * k))) = q + c % 128 * 2 ^ (7 * k) ∧ 0 ≤ q + c % 128 * 2 ^ (7 * k) ∧ q + c % 128 * 2 ^ (7 * k) < 18446744073709551616 ∧ q + c % 128 * 2 ^ (7 * k) < 2 ^ (7 * (k + 1)) := by
  have hp : (0 : Int) < 2 ^ (7 * k) := Int.pow_pos (by decide)
  have e7 : (2 : Int) ^ (7 * (k + 1)) = 128 * 2 ^ (7 * k) := by
    rw [show 7 * (k + 1) = 7 * k + 7 by omega, Int.pow_add, Int.mul_comm]; rfl
  have hd0 : 0 ≤ c % 128 := by omega
  have hd1 : c % 128 < 128 := by omega
  have hm : c % 128 * 2 ^ (7 * k) ≤ 127 * 2 ^ (7 * k) := Int.mul_le_mul_of_nonneg_right (by omega) (by omega)
  have hn : 0 ≤ c % 128 * 2 ^ (7 * k) := Int.mul_nonneg hd0 (by omega)
  have hlt : q + c % 128 * 2 ^ (7 * k) < 18446744073709551616 := by
    by_cases g : k = 9
    · subst g
      have : c % 128 ≤ 1 := by have := c9 rfl; omega
      have hm : c % 128 * 2 ^ (7 * 9) ≤ 1 * 2 ^ (7 * 9) := Int.mul_le_mul_of_nonneg_right this (by omega)
      have e : (2 : Int) ^ (7 * 9) = 9223372036854775808 := by decide
      rw [e] at *
      omega
    · have hle : (2 : Int) ^ (7 * k) ≤ 2 ^ 56 := by
        have h := Nat.pow_le_pow_right (n := 2) (by decide) (show 7 * k ≤ 56 by omega)
        exact_mod_cast h
      have e : (2 : Int) ^ 56 = 72057594037927936 := by decide
      rw [e] at hle
      omega
  have hw : IntKind.u64.wrap (c % 128 * 2 ^ (7 * k)) = c % 128 * 2 ^ (7 * k) := by rw [IntKind.wrap_u64]; omega
  refine ⟨by rw [hw]; exact u64_or_shift q _ k hk q0 hq hd0 (by omega), by omega, hlt, by rw [e7]; omega⟩

/-- The call returns three numbers, and the world is as it was. -/
def Ret3 (w : World) (r : Int × Int × Int) (e : Ending) (w' : World) : Prop :=
  e = .returned (.tuple #[.int .i64 r.1, .int .i64 r.2.1, .int .i64 r.2.2]) ∧ Still w w'

theorem Ret3.mk {w w' : World} {r : Int × Int × Int} {x y z : Int} (h : r = (x, y, z)) (hs : Still w w') : Ret3 w r (.returned (.tuple #[.int .i64 x, .int .i64 y, .int .i64 z])) w' := by
  subst h; exact ⟨rfl, hs⟩

set_option maxRecDepth 100000 in
set_option maxHeartbeats 1000000 in
theorem wireGetInt (v : Value) (bs : List Int) (w : World) (hv : Bytes w v bs) (hby : Byte bs) : Calls Tryd.prog 67 #[v] w (Ret3 w (getI bs)) := by
  obtain ⟨a, cap, b, off, rfl, hcap, hm, ha, hc⟩ := hv.open
  unfold maxLen at hm
  have HBY := Hid.mk hby
  clear hby
  go_enter Tryd.func67, Tryd.ntmps67
  go_wp2
  go_step3
  go_wp2
  go_step3
  go_wp2
  go_loop [5, 6, 11] (fun z u i => ∃ (k : Nat) (q : Int), k ≤ 9 ∧ k ≤ bs.length ∧ 0 ≤ q ∧ Hid (q < 2 ^ (7 * k)) ∧ z = .int .u64 q ∧ u = .int .i64 0 ∧ i = .int .i64 k ∧ Hid (getI bs = getGo (bs.drop k) k q)) (fun _ _ i => bs.length - (intOf i).toNat)
  case atStart => exact ⟨0, 0, by omega, by omega, by omega, by simp [Hid], rfl, rfl, rfl, rfl⟩
  case round =>
    obtain ⟨k, q, hk9, hk, hq0, hq, rfl, rfl, rfl, hh⟩ := hrel
    by_cases hlt : k < bs.length
    · obtain ⟨c, hcc⟩ := ints_get bs k hlt
      have c1 := hc.out k c hcc
      obtain ⟨y1, y2⟩ := HBY.out k c hcc
      obtain rfl := ha (by omega)
      have H := Hid.mk (getGo_drop bs k c q hcc)
      clear ha hcc
      have e127 := u8_and127 c y1 y2
      have bad : Hid ((k = 9 ∧ 1 < c) ∨ (0 < k ∧ c = 0) → getI bs = (0, 0, 11)) := fun h => by rw [hh.out, H.out, if_pos h]
      by_cases g1 : k = 9 ∧ 1 < c
      · obtain ⟨rfl, g1⟩ := g1
        have B := Hid.mk (bad.out (.inl ⟨rfl, g1⟩))
        go_wp2
        go_ret3
        exact Ret3.mk B.out (Still.refl _)
      · by_cases g2 : 0 < k ∧ c = 0
        · obtain ⟨g2, rfl⟩ := g2
          have B := Hid.mk (bad.out (.inr ⟨g2, rfl⟩))
          have g1' : decide ((1 : Int) < 0) = false := rfl
          by_cases g9 : ((k : Int) == 9) = true
          all_goals
            go_wp2
            go_ret3
            exact Ret3.mk B.out (Still.refl _)
        · obtain ⟨o1, o2, o3, o4⟩ := or_walk q c k hk9 hq0 hq.out y1 y2 (by omega)
          have H2 : Hid (getI bs = if c < 128 then (unzig (q + c % 128 * 2 ^ (7 * k)), (k : Int) + 1, 0) else getGo (bs.drop (k+1)) (k + 1) (q + c % 128 * 2 ^ (7 * k))) := by
            rw [Hid, hh.out, H.out, if_neg (by omega)]
          clear hh H bad
          generalize q + c % 128 * 2 ^ (7 * k) = z' at o1 o2 o3 o4 H2
          have O4 := Hid.mk o4
          clear o4
          have eand := u64_and1 z' o2 o3
          have eun := unzig_walk z' o2 o3
          have d1 : Hid (((k : Int) == 9) = true → decide (1 < c) = false) := fun h => by simp at h ⊢; omega
          have d2 : Hid (decide (0 < (k : Int)) = true → (c == 0) = false) := fun h => by simp at h ⊢; omega
          cases g9 : ((k : Int) == 9)
          all_goals cases gk : decide (0 < (k : Int))
          all_goals try have d1' := d1.out g9
          all_goals try have d2' := d2.out gk
          all_goals clear d1 d2
          all_goals by_cases g4 : c < 128
          all_goals go_wp2
          all_goals first
            | (go_ret3
               exact Ret3.mk (by rw [H2.out, if_pos (by omega)]) (Still.refl _))
            | (go_round
               case rel => exact ⟨k + 1, z', by omega, by omega, o2, O4.out, rfl, rfl, by go_num, by rw [Hid, H2.out, if_neg (by omega)]⟩
               case measure => simp [intOf]; omega)
    · have B : Hid (getI bs = (0, 0, 10)) := by rw [Hid, hh.out, getGo_end _ _ _ (by omega)]
      go_wp2
      go_ret3
      exact Ret3.mk B.out (Still.refl _)
end Go.Proofs.YtnjopfjmepbpoaaDoor

/- The walk of antiquaryref01.GetInt. -/
namespace Go.Proofs.YtnjopfjmepbpoaaDoor
set_option linter.unusedSimpArgs false
set_option linter.unusedVariables false
set_option linter.unnecessarySimpa false
open Go.RowKit

set_option maxRecDepth 100000 in
set_option maxHeartbeats 1000000 in
theorem refGetInt (v : Value) (bs : List Int) (w : World) (hv : Bytes w v bs) (hby : Byte bs) : Calls Tryd.prog 71 #[v] w (Ret3 w (getI bs)) := by
  obtain ⟨a, cap, b, off, rfl, hcap, hm, ha, hc⟩ := hv.open
  unfold maxLen at hm
  have HBY := Hid.mk hby
  clear hby
  go_enter Tryd.func71, Tryd.ntmps71
  go_wp2
  go_loop [5] (fun i => ∃ (k : Nat), k ≤ 10 ∧ k ≤ bs.length ∧ i = .int .i64 k ∧ Hid (∀ (j : Nat) (c : Int), j < k → bs[j]? = some c → 128 ≤ c)) (fun i => bs.length - (intOf i).toNat)
  case atStart => exact ⟨0, by omega, by omega, rfl, fun j c h => absurd h (by omega)⟩
  case round =>
    obtain ⟨k, hk10, hk, rfl, hall⟩ := hrel
    by_cases g1 : k < bs.length
    · obtain ⟨c, hcc⟩ := ints_get bs k g1
      have c1 := hc.out k c hcc
      obtain ⟨y1, y2⟩ := HBY.out k c hcc
      obtain rfl := ha (by omega)
      by_cases g2 : k < 10
      · by_cases g3 : 128 ≤ c
        · have N : Hid (∀ (j : Nat) (c : Int), j < k + 1 → bs[j]? = some c → 128 ≤ c) := by
            intro j d hj hd
            by_cases e : j = k
            · subst e; rw [hcc] at hd; cases hd; exact g3
            · exact hall.out j d (by omega) hd
          clear hcc ha
          go_wp2
          go_round
          case rel => exact ⟨k + 1, by omega, by omega, by go_num, N⟩
          case measure => simp [intOf]; omega
        · have g3' : decide (128 ≤ c) = false := by simpa using g3
          have gk10 : ((k : Int) == 10) = false := by simp; omega
          have gkl : ((k : Int) == (bs.length : Int)) = false := by simp; omega
          by_cases bad : (k = 9 ∧ 1 < c) ∨ (0 < k ∧ c = 0)
          · have B := Hid.mk (getI_bad bs k c (by omega) hall.out hcc bad)
            clear hcc ha
            rcases bad with ⟨rfl, bad⟩ | ⟨bad, rfl⟩
            · go_wp2
              go_ret3
              exact Ret3.mk B.out (Still.refl _)
            · have b1 : decide ((1 : Int) < 0) = false := rfl
              cases g9 : ((k : Int) == 9)
              all_goals
                go_wp2
                go_ret3
                exact Ret3.mk B.out (Still.refl _)
          · have GD := Hid.mk (getI_good bs k c (by omega) hall.out hcc bad (by omega))
            have FITS : Hid (∀ i, i ≤ k + 1 → 0 ≤ val ((bs.take (k+1)).drop i) ∧ val ((bs.take (k+1)).drop i) < 18446744073709551616) := fun i hi => val_fits bs k i c hcc (by omega) hi (by omega) y1
            have d1 : Hid (((k : Int) == 9) = true → decide (1 < c) = false) := fun h => by simp at h ⊢; omega
            have d2 : Hid (decide (0 < k) = true → (c == 0) = false) := fun h => by simp at h ⊢; omega
            have V0 : Hid (val ((bs.take (k+1)).drop (k+1)) = 0) := by rw [Hid, List.drop_eq_nil_of_le (by simp; omega)]; rfl
            clear hcc ha bad
            cases g9 : ((k : Int) == 9)
            all_goals cases gk : decide (0 < k)
            all_goals try have d1' := d1.out g9
            all_goals try have d2' := d2.out gk
            all_goals clear d1 d2
            all_goals
              go_wp2
              go_loop [6, 7] (fun z i => ∃ (m : Nat), m ≤ k + 1 ∧ i = .int .i64 ((m : Int) - 1) ∧ z = .int .u64 (val ((bs.take (k+1)).drop m))) (fun _ i => (intOf i + 1).toNat)
              case atStart => exact ⟨k + 1, by omega, by go_num, by rw [V0.out]⟩
              case round =>
                obtain ⟨m, hm1, rfl, rfl⟩ := hrel
                obtain ⟨f1, f2⟩ := FITS.out m hm1
                by_cases gm : 0 < m
                · obtain ⟨d, hd⟩ := ints_get bs (m-1) (by omega)
                  have c2 := hc.out (m-1) d hd
                  obtain ⟨y3, y4⟩ := HBY.out (m-1) d hd
                  obtain ⟨f3, f4⟩ := FITS.out (m-1) (by omega)
                  have VS := Hid.mk (val_step bs k (m-1) d (by omega) hd)
                  rw [show m - 1 + 1 = m by omega] at VS
                  have vb : val ((bs.take (k+1)).drop m) * 128 + d % 128 < 18446744073709551616 := by rw [VS.out] at f4; omega
                  clear hd f3 f4
                  go_wp2
                  go_round
                  case rel => exact ⟨m - 1, by omega, by go_num, by rw [VS.out]; go_num⟩
                  case measure => simp [intOf]; omega
                · obtain rfl : m = 0 := by omega
                  have e0 : (bs.take (k+1)).drop 0 = bs.take (k+1) := rfl
                  rw [e0] at f1 f2 ⊢
                  clear e0
                  have GD' := GD
                  generalize val (bs.take (k+1)) = z' at f1 f2 GD' ⊢
                  by_cases gz : z' % 2 = 1
                  · have gz' : (z' % 2 == 1) = true := by simpa using gz
                    go_wp2
                    all_goals go_ret3
                    all_goals refine Ret3.mk ?_ (Still.refl _)
                    all_goals rw [GD'.out]
                    all_goals congr 1
                    all_goals unfold unzig
                    all_goals split <;> omega
                  have gz' : (z' % 2 == 1) = false := by simpa using gz
                  go_wp2
                  all_goals go_ret3
                  all_goals refine Ret3.mk ?_ (Still.refl _)
                  all_goals rw [GD'.out]
                  all_goals congr 1
                  all_goals unfold unzig
                  all_goals split <;> omega
      · have hk' : k = 10 := by omega
        obtain rfl := hk'
        have B := Hid.mk (getI_ten bs hall.out hk)
        clear hcc ha
        go_wp2
        go_ret3
        exact Ret3.mk B.out (Still.refl _)
    · by_cases g10 : k = 10
      · obtain rfl := g10
        have B := Hid.mk (getI_ten bs hall.out hk)
        go_wp2
        go_ret3
        exact Ret3.mk B.out (Still.refl _)
      · have gk10 : ((k : Int) == 10) = false := by simp; omega
        have gkl : ((k : Int) == (bs.length : Int)) = true := by simp; omega
        have B := Hid.mk (getI_short bs k (by omega) hall.out (by omega))
        go_wp2
        go_ret3
        exact Ret3.mk B.out (Still.refl _)
end Go.Proofs.YtnjopfjmepbpoaaDoor

/- The walks of wire and antiquaryref01: length, Ints. -/
namespace Go.Proofs.YtnjopfjmepbpoaaDoor
set_option linter.unusedSimpArgs false
set_option linter.unusedVariables false
set_option linter.unnecessarySimpa false
open Go.RowKit

theorem Byte.all {bs : List Int} (h : Byte bs) : ∀ c ∈ bs, 0 ≤ c ∧ c < 256 := by
  intro c hc
  obtain ⟨k, hk⟩ := List.getElem?_of_mem hc
  exact h k c hk
theorem Byte.of {bs : List Int} (h : ∀ c ∈ bs, 0 ≤ c ∧ c < 256) : Byte bs := fun _ c hk => h c (List.mem_of_getElem? hk)

set_option maxRecDepth 100000 in
set_option maxHeartbeats 1000000 in
theorem wireLength (v : Value) (bs : List Int) (least : Int) (w : World) (hv : Bytes w v bs) (hby : Byte bs) (hl : 1 ≤ least) (hl2 : least ≤ 1000) : Calls Tryd.prog 102 #[v, .int .i64 least] w (Ret3 w (lenL bs least)) := by
  obtain ⟨a, cap, b, off, hvv, hcap, hm, -⟩ := hv.open
  unfold maxLen at hm
  have ok := Hid.mk (getI_ok bs hby.all)
  obtain ⟨n, u, er, hr⟩ : ∃ n u er, getI bs = (n, u, er) := ⟨_, _, _, rfl⟩
  have L : Hid (lenL bs least = if er ≠ 0 then (0, 0, er) else if n < 0 then (0, 0, 11) else if (bs.length - u) / least < n then (0, 0, 10) else (n, u, 0)) := by
    rw [Hid, lenL, hr]
  have HR := Hid.mk hr
  rw [hr] at ok
  clear hr
  subst hvv
  by_cases g : er = 0
  · obtain rfl := g
    obtain ⟨o1, o2, o3, o4⟩ := ok.out rfl
    simp only at o1 o2 o3 o4
    by_cases g1 : n < 0
    · have L2 : Hid (lenL bs least = (0, 0, 11)) := by rw [Hid, L.out, if_neg (by simp), if_pos g1]
      go_enter Tryd.func102, Tryd.ntmps102
      go_wp2_with (go_at_call 67; refine (wireGetInt _ bs _ hv hby).mono ?_; rintro e w' ⟨rfl, k, rfl⟩; rw [HR.out])
      go_ret3
      exact Ret3.mk L2.out (Still.one _ _)
    · by_cases g2 : (bs.length - u) / least < n
      · have L2 : Hid (lenL bs least = (0, 0, 10)) := by rw [Hid, L.out, if_neg (by simp), if_neg g1, if_pos g2]
        go_enter Tryd.func102, Tryd.ntmps102
        go_wp2_with (go_at_call 67; refine (wireGetInt _ bs _ hv hby).mono ?_; rintro e w' ⟨rfl, k, rfl⟩; rw [HR.out])
        go_ret3
        exact Ret3.mk L2.out (Still.one _ _)
      · have L2 : Hid (lenL bs least = (n, u, 0)) := by rw [Hid, L.out, if_neg (by simp), if_neg g1, if_neg g2]
        go_enter Tryd.func102, Tryd.ntmps102
        go_wp2_with (go_at_call 67; refine (wireGetInt _ bs _ hv hby).mono ?_; rintro e w' ⟨rfl, k, rfl⟩; rw [HR.out])
        go_ret3
        exact Ret3.mk L2.out (Still.one _ _)
  · have g' : (er == 0) = false := by simpa using g
    have L2 : Hid (lenL bs least = (0, 0, er)) := by rw [Hid, L.out, if_pos g]
    go_enter Tryd.func102, Tryd.ntmps102
    go_wp2_with (go_at_call 67; refine (wireGetInt _ bs _ hv hby).mono ?_; rintro e w' ⟨rfl, k, rfl⟩; rw [HR.out])
    go_ret3
    exact Ret3.mk L2.out (Still.one _ _)

set_option maxRecDepth 100000 in
set_option maxHeartbeats 1000000 in
theorem refLength (v : Value) (bs : List Int) (least : Int) (w : World) (hv : Bytes w v bs) (hby : Byte bs) (hl : 1 ≤ least) (hl2 : least ≤ 1000) : Calls Tryd.prog 70 #[v, .int .i64 least] w (Ret3 w (lenL bs least)) := by
  obtain ⟨a, cap, b, off, hvv, hcap, hm, -⟩ := hv.open
  unfold maxLen at hm
  have ok := Hid.mk (getI_ok bs hby.all)
  obtain ⟨n, u, er, hr⟩ : ∃ n u er, getI bs = (n, u, er) := ⟨_, _, _, rfl⟩
  have L : Hid (lenL bs least = if er ≠ 0 then (0, 0, er) else if n < 0 then (0, 0, 11) else if (bs.length - u) / least < n then (0, 0, 10) else (n, u, 0)) := by
    rw [Hid, lenL, hr]
  have HR := Hid.mk hr
  rw [hr] at ok
  clear hr
  subst hvv
  by_cases g : er = 0
  · obtain rfl := g
    obtain ⟨o1, o2, o3, o4⟩ := ok.out rfl
    simp only at o1 o2 o3 o4
    by_cases g1 : n < 0
    · have L2 : Hid (lenL bs least = (0, 0, 11)) := by rw [Hid, L.out, if_neg (by simp), if_pos g1]
      go_enter Tryd.func70, Tryd.ntmps70
      go_wp2_with (go_at_call 71; refine (refGetInt _ bs _ hv hby).mono ?_; rintro e w' ⟨rfl, k, rfl⟩; rw [HR.out])
      go_ret3
      exact Ret3.mk L2.out (Still.one _ _)
    · by_cases g2 : (bs.length - u) / least < n
      · have L2 : Hid (lenL bs least = (0, 0, 10)) := by rw [Hid, L.out, if_neg (by simp), if_neg g1, if_pos g2]
        go_enter Tryd.func70, Tryd.ntmps70
        go_wp2_with (go_at_call 71; refine (refGetInt _ bs _ hv hby).mono ?_; rintro e w' ⟨rfl, k, rfl⟩; rw [HR.out])
        go_ret3
        exact Ret3.mk L2.out (Still.one _ _)
      · have L2 : Hid (lenL bs least = (n, u, 0)) := by rw [Hid, L.out, if_neg (by simp), if_neg g1, if_neg g2]
        go_enter Tryd.func70, Tryd.ntmps70
        go_wp2_with (go_at_call 71; refine (refGetInt _ bs _ hv hby).mono ?_; rintro e w' ⟨rfl, k, rfl⟩; rw [HR.out])
        go_ret3
        exact Ret3.mk L2.out (Still.one _ _)
  · have g' : (er == 0) = false := by simpa using g
    have L2 : Hid (lenL bs least = (0, 0, er)) := by rw [Hid, L.out, if_pos g]
    go_enter Tryd.func70, Tryd.ntmps70
    go_wp2_with (go_at_call 71; refine (refGetInt _ bs _ hv hby).mono ?_; rintro e w' ⟨rfl, k, rfl⟩; rw [HR.out])
    go_ret3
    exact Ret3.mk L2.out (Still.one _ _)

/-- All numbers fit into 64 bits. -/
def Fit (l : List Int) : Prop := ∀ z ∈ l, -9223372036854775808 ≤ z ∧ z ≤ 9223372036854775807

theorem oneCells (k : IntKind) (l : List Int) : ∀ c ∈ l.map (Value.int k), c.oneCell' = true := by
  intro c hc
  obtain ⟨_, _, rfl⟩ := List.mem_map.1 hc
  rfl

theorem callInt (args : Array Value) (w : World) : (callFunc 76 args).run Tryd.prog w = .ok (.enter 76 args) w := by kernel_rfl

set_option maxRecDepth 100000 in
set_option maxHeartbeats 1000000 in
theorem wireList (v : Value) (zs : List Int) (w : World) (hv : Ints w v zs) (hf : Fit zs) (hl : zs.length ≤ 1000000000) : Calls Tryd.prog 75 #[v, .func (.func 76) #[] #[]] w (MadeBytes w (intsB zs)) := by
  obtain ⟨a, cap, b, off, rfl, hcap, hm, ha, hc⟩ := hv.open
  have HF := Hid.mk hf
  have hl0 := intB_len zs.length (by omega) (by omega)
  go_enter Tryd.func75, Tryd.ntmps75
  go_wp2_with (go_at_call 76; refine (wireInt _ _ (by omega) (by omega)).mono ?_; rintro e w1 ⟨v1, rfl, ho1, hb1⟩)
  go_loopw [5, 13] (fun o i wr => ∃ k : Nat, k ≤ zs.length ∧ i = .int .i64 k ∧ Own w.heap.size 5 wr o ((intB zs.length ++ ((zs.take k).map intB).flatten).map (Value.int .u8)) ∧ Below w.heap.size w wr) (fun _ i _ => zs.length - (intOf i).toNat)
  case atStart => exact ⟨0, by omega, rfl, by simpa using ho1, hb1⟩
  case round =>
    obtain ⟨k, hk, rfl, hown, hb⟩ := hrel
    have HB := Hid.mk hb
    clear hb
    have hb2 := HB.out.size
    by_cases hlt : k < zs.length
    · obtain ⟨y, hy⟩ := ints_get zs k hlt
      have c1 := below_cell HB.out (hc.out k y hy)
      obtain ⟨y1, y2⟩ := HF.out y (List.mem_of_getElem? hy)
      have hl1 := intB_len y y1 y2
      have hl2 := flat_len (zs.take k) (fun z hz => HF.out z (List.mem_of_mem_take hz))
      have hl3 : (zs.take k).length ≤ zs.length := by rw [List.length_take]; omega
      obtain rfl := ha (by omega)
      have T := Hid.mk (flat_take zs k y hy)
      clear ha hy
      go_wp2_with (first | (at_builtin; refine wp_append (.tmp 17) (.tmp 20) 26 5 1 _ elemByte rfl rfl Tryd.underlying26 w.heap.size _ _ _ _ rfl (hown.kept hb3) rfl ho3.rd (by simp only [List.length_map]; omega) (oneCells _ _) (by simp only [List.length_map, List.length_append, maxLen]; omega) (by simp only [List.length_map, List.length_append]; omega) (by have := hb3.size; omega) ?_; intro v' w' hown' hb') | (go_at_call 76; refine (wireInt _ _ y1 y2).mono ?_; rintro e w3 ⟨v3, rfl, ho3, hb3⟩))
      go_roundw
      case rel => exact ⟨k + 1, by omega, by go_num, by rw [T.out, ← List.append_assoc, List.map_append]; exact hown', (HB.out.trans (hb3.mono hb2)).trans hb'⟩
      case measure => simp [intOf]; omega
    · have e : zs.take k = zs := List.take_of_length_le (by omega)
      rw [e] at hown
      go_wp2
      go_ret
      exact ⟨_, rfl, hown, HB.out⟩

theorem wireInts (v : Value) (zs : List Int) (w : World) (hv : Ints w v zs) (hf : Fit zs) (hl : zs.length ≤ 1000000000) : Calls Tryd.prog 34 #[v] w (MadeBytes w (intsB zs)) := by
  go_enter Tryd.func34, Tryd.ntmps34
  go_wp2_with (go_at_call 75; refine (wireList _ zs _ hv hf hl).mono ?_; rintro e w1 ⟨v1, rfl, ho1, hb1⟩)
  go_ret
  exact ⟨_, rfl, ho1, hb1⟩

set_option maxRecDepth 100000 in
set_option maxHeartbeats 1000000 in
theorem refInts (v : Value) (zs : List Int) (w : World) (hv : Ints w v zs) (hf : Fit zs) (hl : zs.length ≤ 1000000000) : Calls Tryd.prog 36 #[v] w (MadeBytes w (intsB zs)) := by
  obtain ⟨a, cap, b, off, rfl, hcap, hm, ha, hc⟩ := hv.open
  have HF := Hid.mk hf
  have hl0 := intB_len zs.length (by omega) (by omega)
  go_enter Tryd.func36, Tryd.ntmps36
  go_wp2_with (go_at_call 79; refine (refInt _ _ (by omega) (by omega)).mono ?_; rintro e w1 ⟨v1, rfl, ho1, hb1⟩)
  go_loopw [3, 4] (fun o i wr => ∃ k : Nat, k ≤ zs.length ∧ i = .int .i64 k ∧ Own w.heap.size 5 wr o ((intB zs.length ++ ((zs.take k).map intB).flatten).map (Value.int .u8)) ∧ Below w.heap.size w wr) (fun _ i _ => zs.length - (intOf i).toNat)
  case atStart => exact ⟨0, by omega, rfl, by simpa using ho1, hb1⟩
  case round =>
    obtain ⟨k, hk, rfl, hown, hb⟩ := hrel
    have HB := Hid.mk hb
    clear hb
    have hb2 := HB.out.size
    by_cases hlt : k < zs.length
    · obtain ⟨y, hy⟩ := ints_get zs k hlt
      have c1 := below_cell HB.out (hc.out k y hy)
      obtain ⟨y1, y2⟩ := HF.out y (List.mem_of_getElem? hy)
      have hl1 := intB_len y y1 y2
      have hl2 := flat_len (zs.take k) (fun z hz => HF.out z (List.mem_of_mem_take hz))
      have hl3 : (zs.take k).length ≤ zs.length := by rw [List.length_take]; omega
      obtain rfl := ha (by omega)
      have T := Hid.mk (flat_take zs k y hy)
      clear ha hy
      go_wp2_with (first | (at_builtin; refine wp_append (.tmp 14) (.tmp 19) 26 5 1 _ elemByte rfl rfl Tryd.underlying26 w.heap.size _ _ _ _ rfl (hown.kept hb3) rfl ho3.rd (by simp only [List.length_map]; omega) (oneCells _ _) (by simp only [List.length_map, List.length_append, maxLen]; omega) (by simp only [List.length_map, List.length_append]; omega) (by have := hb3.size; omega) ?_; intro v' w' hown' hb') | (go_at_call 79; refine (refInt _ _ y1 y2).mono ?_; rintro e w3 ⟨v3, rfl, ho3, hb3⟩))
      go_roundw
      case rel => exact ⟨k + 1, by omega, by go_num, by rw [T.out, ← List.append_assoc, List.map_append]; exact hown', (HB.out.trans (hb3.mono hb2)).trans hb'⟩
      case measure => simp [intOf]; omega
    · have e : zs.take k = zs := List.take_of_length_le (by omega)
      rw [e] at hown
      go_wp2
      go_ret
      exact ⟨_, rfl, hown, HB.out⟩

end Go.Proofs.YtnjopfjmepbpoaaDoor

/- Element types. -/
namespace Go.Proofs.YtnjopfjmepbpoaaDoor
set_option linter.unusedSimpArgs false
set_option linter.unusedVariables false
set_option linter.unnecessarySimpa false
open Go.RowKit

theorem elemInt : Elem1 Tryd.prog 3 (.int .i64 0) 8 := ⟨by kernel_rfl, rfl⟩
end Go.Proofs.YtnjopfjmepbpoaaDoor

/- The walks of wire and antiquaryref01: GetInts. -/
namespace Go.Proofs.YtnjopfjmepbpoaaDoor
set_option linter.unusedSimpArgs false
set_option linter.unusedVariables false
set_option linter.unnecessarySimpa false
open Go.RowKit

/-- The call returns a new list, and two numbers. -/
def MadeIntsN (w : World) (r : List Int × Int × Int) (e : Ending) (w' : World) : Prop :=
  ∃ v, e = .returned (.tuple #[v, .int .i64 r.2.1, .int .i64 r.2.2]) ∧ Own w.heap.size 3 w' v (r.1.map (Value.int .i64)) ∧ Below w.heap.size w w'
theorem MadeIntsN.mk {w w' : World} {r : List Int × Int × Int} {l : List Int} {x y : Int} {v : Value} (h : r = (l, x, y)) (ho : Own w.heap.size 3 w' v (l.map (Value.int .i64))) (hb : Below w.heap.size w w') :
    MadeIntsN w r (.returned (.tuple #[v, .int .i64 x, .int .i64 y])) w' := by
  subst h; exact ⟨v, rfl, ho, hb⟩

theorem Bytes.dropAt {w : World} {bs : List Int} {cap b off m : Nat} (hcap : bs.length ≤ cap) (hm : cap ≤ maxLen) (hc : ∀ (j : Nat) (x : Int), bs[j]? = some x → w.cell? ⟨b, off + j, none⟩ = some (.int .u8 x)) (hle : m ≤ bs.length) :
    Bytes w (.slice (some ⟨b, off + m, none⟩) (bs.length - m) (cap - m)) (bs.drop m) := by
  refine ⟨_, cap - m, b, off + m, by simp, by simp; omega, by omega, fun _ => rfl, fun j u hu => ?_⟩
  rw [List.getElem?_map, List.getElem?_drop] at hu
  obtain ⟨x, hx, rfl⟩ := Option.map_eq_some_iff.1 hu
  rw [Nat.add_assoc]; exact hc _ _ hx
theorem Bytes.dropEnd {w : World} {bs : List Int} {a : Option Addr} {c m : Nat} (hm : m = bs.length) (hc : c ≤ maxLen) :
    Bytes w (.slice a 0 c) (bs.drop m) := by
  subst hm
  rw [List.drop_length]
  exact ⟨a, c, 0, 0, rfl, by simp, hc, fun h => by simp at h, fun j u hu => by simp at hu⟩

theorem Byte.drop {bs : List Int} (h : Byte bs) (m : Nat) : Byte (bs.drop m) := fun k c hk => h (m + k) c (by rw [← List.getElem?_drop]; exact hk)

theorem callGetInt (args : Array Value) (w : World) : (callFunc 67 args).run Tryd.prog w = .ok (.enter 67 args) w := by kernel_rfl

set_option maxRecDepth 100000 in
set_option maxHeartbeats 1000000 in
theorem wireGet (v : Value) (bs : List Int) (w : World) (hv : Bytes w v bs) (hby : Byte bs) (hl : bs.length ≤ 1000000000) : Calls Tryd.prog 66 #[v, .int .i64 1, .func (.func 67) #[] #[]] w (MadeIntsN w (getInts bs)) := by
  obtain ⟨a, cap, b, off, hvv, hcap, hm, ha, hc⟩ := hv.open
  have ok := Hid.mk (lenL_ok bs 1 hby.all)
  obtain ⟨n, u, er, hr⟩ : ∃ n u er, lenL bs 1 = (n, u, er) := ⟨_, _, _, rfl⟩
  have L : Hid (getInts bs = if er ≠ 0 then ([], 0, er) else andThen [] u (getN n.toNat (bs.drop u.toNat))) := by
    rw [Hid, getInts, hr]
  have HR := Hid.mk hr
  rw [hr] at ok
  clear hr
  subst hvv
  by_cases g : er = 0
  · obtain rfl := g
    obtain ⟨o1, o2, o3, o4⟩ := ok.out rfl
    simp only [Int.ediv_one] at o1 o2 o3 o4
    obtain ⟨N, rfl⟩ : ∃ N : Nat, n = N := ⟨n.toNat, by omega⟩
    obtain ⟨U, rfl⟩ : ∃ N : Nat, u = N := ⟨u.toNat, by omega⟩
    have L2 : Hid (getInts bs = andThen [] U (getN N (bs.drop U))) := by rw [Hid, L.out, if_neg (by simp)]; rfl
    obtain rfl := ha (by omega)
    clear ha L ok
    go_enter Tryd.func66, Tryd.ntmps66
    go_wp2_with (go_at_call 102; refine (wireLength _ bs _ _ hv hby (by omega) (by omega)).mono ?_; rintro e w' ⟨rfl, k, rfl⟩; rw [HR.out])
    go_loopw [10, 12, 27] (fun p o i wr => ∃ (j m : Nat) (out : List Int), j ≤ N ∧ U ≤ m ∧ m ≤ bs.length ∧ out.length = j ∧ i = .int .i64 j ∧ p = .int .i64 m ∧ Own w.heap.size 3 wr o (out.map (Value.int .i64)) ∧ Below w.heap.size w wr ∧ Hid (getInts bs = andThen out m (getN (N - j) (bs.drop m)))) (fun _ _ i _ => N - (intOf i).toNat)
    case atStart => exact ⟨0, U, [], by omega, by omega, by omega, rfl, rfl, rfl, Own.nil _ _ _, (Still.one _ _).below _, L2⟩
    case round =>
      obtain ⟨j, m, out, hj, hUm, hmb, ho, rfl, rfl, hown, hb, hh⟩ := hrel
      have HB := Hid.mk hb
      have hb2 := hb.size
      have HO := Hid.mk ho
      clear hb ho
      by_cases hlt : j < N
      · have hv' : Bytes wr (.slice (some (if cap = m then ⟨b, off, none⟩ else ⟨b, off + m, none⟩)) (bs.length - m) (cap - m)) (bs.drop m) := by
          split
          · rw [show bs.length - m = 0 by omega]; exact Bytes.dropEnd (by omega) (by omega)
          · exact Bytes.dropAt hcap hm (fun j x hx => below_cell HB.out (hc.out j x hx)) hmb
        have ok := Hid.mk (getI_ok (bs.drop m) (hby.drop m).all)
        obtain ⟨x, us, e2, hr2⟩ : ∃ x us e2, getI (bs.drop m) = (x, us, e2) := ⟨_, _, _, rfl⟩
        have HV := Hid.mk hv'
        have HR2 := Hid.mk hr2
        have NX : Hid (N - j = (N - (j+1)) + 1) := by rw [Hid]; omega
        rw [hr2] at ok
        clear hr2 hv'
        by_cases g2 : e2 = 0
        · obtain rfl := g2
          obtain ⟨p1, p2, p3, p4⟩ := ok.out rfl
          simp only [List.length_drop] at p1 p2 p3 p4
          obtain ⟨us, rfl⟩ : ∃ N : Nat, us = N := ⟨us.toNat, by omega⟩
          have ST : Hid (getInts bs = andThen (out ++ [x]) (m + us) (getN (N - (j+1)) (bs.drop (m + us)))) := by
            rw [Hid, hh.out, NX.out, andThen_step out m _ _ _ HR2.out rfl]; simp
          have LO : out.length ≤ N := by rw [HO.out]; omega
          clear ok hh NX
          have ec : ¬ cap = m := by omega
          all_goals have HV' := HV.out
          all_goals first | rw [if_pos ec] at HV' | rw [if_neg ec] at HV'
          all_goals have HVV := Hid.mk HV'
          all_goals clear HV'
          all_goals
            go_wp2_with (first | (at_builtin; refine wp_push (.tmp 41) (.tmp 43) 22 _ 3 8 _ elemInt rfl rfl Tryd.underlying22 w.heap.size _ (.int .i64 x) _ rfl hown.drewN rfl rfl (by simp [maxLen]; omega) (by simp; omega) hb2 ?_; intro v' w' hown' hb') | (go_at_call 67; refine (wireGetInt _ (bs.drop m) _ (by first | exact HVV.out | (have h := HVV.out; simp [ec] at h ⊢; exact h)) (hby.drop m)).mono ?_; rintro e w' ⟨rfl, q, rfl⟩; rw [HR2.out]))
            go_roundw
            case rel => exact ⟨j + 1, m + us, out ++ [x], by omega, by omega, by omega, by simp [HO.out], by go_num, by go_num, by simpa using hown', (HB.out.trans ((Still.one _ _).below _)).trans hb', ST⟩
            case measure => simp [intOf]; omega
        · have g2' : (e2 == 0) = false := by simpa using g2
          have ST : Hid (getInts bs = ([], 0, e2)) := by
            rw [Hid, hh.out, NX.out, andThen_err out m _ _ _ HR2.out g2]
          clear ok hh NX
          by_cases ec : cap = m
          all_goals have HV' := HV.out
          all_goals first | rw [if_pos ec] at HV' | rw [if_neg ec] at HV'
          all_goals have HVV := Hid.mk HV'
          all_goals clear HV'
          all_goals
            go_wp2_with (go_at_call 67; refine (wireGetInt _ (bs.drop m) _ (by first | exact HVV.out | (have h := HVV.out; simp [ec] at h ⊢; exact h)) (hby.drop m)).mono ?_; rintro e w' ⟨rfl, q, rfl⟩; rw [HR2.out])
            go_ret3
            exact MadeIntsN.mk ST.out (Own.nil _ _ _) (HB.out.trans ((Still.one _ _).below _))
      · have DN : Hid (getInts bs = (out, (m : Int), 0)) := by
          rw [Hid, hh.out, show N - j = 0 by omega, andThen_done]
        go_wp2
        go_ret3
        exact MadeIntsN.mk DN.out hown HB.out
  · have g' : (er == 0) = false := by simpa using g
    have L2 : Hid (getInts bs = ([], 0, er)) := by rw [Hid, L.out, if_pos g]
    go_enter Tryd.func66, Tryd.ntmps66
    go_wp2_with (go_at_call 102; refine (wireLength _ bs _ _ hv hby (by omega) (by omega)).mono ?_; rintro e w' ⟨rfl, k, rfl⟩; rw [HR.out])
    go_ret3
    exact MadeIntsN.mk L2.out (Own.nil _ _ _) ((Still.one _ _).below _)

set_option maxRecDepth 100000 in
set_option maxHeartbeats 1000000 in
theorem refGetInts (v : Value) (bs : List Int) (w : World) (hv : Bytes w v bs) (hby : Byte bs) (hl : bs.length ≤ 1000000000) : Calls Tryd.prog 29 #[v] w (MadeIntsN w (getInts bs)) := by
  obtain ⟨a, cap, b, off, hvv, hcap, hm, ha, hc⟩ := hv.open
  have ok := Hid.mk (lenL_ok bs 1 hby.all)
  obtain ⟨n, u, er, hr⟩ : ∃ n u er, lenL bs 1 = (n, u, er) := ⟨_, _, _, rfl⟩
  have L : Hid (getInts bs = if er ≠ 0 then ([], 0, er) else andThen [] u (getN n.toNat (bs.drop u.toNat))) := by
    rw [Hid, getInts, hr]
  have HR := Hid.mk hr
  rw [hr] at ok
  clear hr
  subst hvv
  by_cases g : er = 0
  · obtain rfl := g
    obtain ⟨o1, o2, o3, o4⟩ := ok.out rfl
    simp only [Int.ediv_one] at o1 o2 o3 o4
    obtain ⟨N, rfl⟩ : ∃ N : Nat, n = N := ⟨n.toNat, by omega⟩
    obtain ⟨U, rfl⟩ : ∃ N : Nat, u = N := ⟨u.toNat, by omega⟩
    have L2 : Hid (getInts bs = andThen [] U (getN N (bs.drop U))) := by rw [Hid, L.out, if_neg (by simp)]; rfl
    obtain rfl := ha (by omega)
    clear ha L ok
    go_enter Tryd.func29, Tryd.ntmps29
    go_wp2_with (go_at_call 70; refine (refLength _ bs _ _ hv hby (by omega) (by omega)).mono ?_; rintro e w' ⟨rfl, k, rfl⟩; rw [HR.out])
    go_loopw [6, 8, 9] (fun p o i wr => ∃ (j m : Nat) (out : List Int), j ≤ N ∧ U ≤ m ∧ m ≤ bs.length ∧ out.length = j ∧ i = .int .i64 j ∧ p = .int .i64 m ∧ Own w.heap.size 3 wr o (out.map (Value.int .i64)) ∧ Below w.heap.size w wr ∧ Hid (getInts bs = andThen out m (getN (N - j) (bs.drop m)))) (fun _ _ i _ => N - (intOf i).toNat)
    case atStart => exact ⟨0, U, [], by omega, by omega, by omega, rfl, rfl, rfl, Own.nil _ _ _, (Still.one _ _).below _, L2⟩
    case round =>
      obtain ⟨j, m, out, hj, hUm, hmb, ho, rfl, rfl, hown, hb, hh⟩ := hrel
      have HB := Hid.mk hb
      have hb2 := hb.size
      have HO := Hid.mk ho
      clear hb ho
      by_cases hlt : j < N
      · have hv' : Bytes wr (.slice (some (if cap = m then ⟨b, off, none⟩ else ⟨b, off + m, none⟩)) (bs.length - m) (cap - m)) (bs.drop m) := by
          split
          · rw [show bs.length - m = 0 by omega]; exact Bytes.dropEnd (by omega) (by omega)
          · exact Bytes.dropAt hcap hm (fun j x hx => below_cell HB.out (hc.out j x hx)) hmb
        have ok := Hid.mk (getI_ok (bs.drop m) (hby.drop m).all)
        obtain ⟨x, us, e2, hr2⟩ : ∃ x us e2, getI (bs.drop m) = (x, us, e2) := ⟨_, _, _, rfl⟩
        have HV := Hid.mk hv'
        have HR2 := Hid.mk hr2
        have NX : Hid (N - j = (N - (j+1)) + 1) := by rw [Hid]; omega
        rw [hr2] at ok
        clear hr2 hv'
        by_cases g2 : e2 = 0
        · obtain rfl := g2
          obtain ⟨p1, p2, p3, p4⟩ := ok.out rfl
          simp only [List.length_drop] at p1 p2 p3 p4
          obtain ⟨us, rfl⟩ : ∃ N : Nat, us = N := ⟨us.toNat, by omega⟩
          have ST : Hid (getInts bs = andThen (out ++ [x]) (m + us) (getN (N - (j+1)) (bs.drop (m + us)))) := by
            rw [Hid, hh.out, NX.out, andThen_step out m _ _ _ HR2.out rfl]; simp
          have LO : out.length ≤ N := by rw [HO.out]; omega
          clear ok hh NX
          have ec : ¬ cap = m := by omega
          all_goals have HV' := HV.out
          all_goals first | rw [if_pos ec] at HV' | rw [if_neg ec] at HV'
          all_goals have HVV := Hid.mk HV'
          all_goals clear HV'
          all_goals
            go_wp2_with (first | (at_builtin; refine wp_push (.tmp 38) (.tmp 40) 22 _ 3 8 _ elemInt rfl rfl Tryd.underlying22 w.heap.size _ (.int .i64 x) _ rfl hown.drewN rfl rfl (by simp [maxLen]; omega) (by simp; omega) hb2 ?_; intro v' w' hown' hb') | (go_at_call 71; refine (refGetInt _ (bs.drop m) _ (by first | exact HVV.out | (have h := HVV.out; simp [ec] at h ⊢; exact h)) (hby.drop m)).mono ?_; rintro e w' ⟨rfl, q, rfl⟩; rw [HR2.out]))
            go_roundw
            case rel => exact ⟨j + 1, m + us, out ++ [x], by omega, by omega, by omega, by simp [HO.out], by go_num, by go_num, by simpa using hown', (HB.out.trans ((Still.one _ _).below _)).trans hb', ST⟩
            case measure => simp [intOf]; omega
        · have g2' : (e2 == 0) = false := by simpa using g2
          have ST : Hid (getInts bs = ([], 0, e2)) := by
            rw [Hid, hh.out, NX.out, andThen_err out m _ _ _ HR2.out g2]
          clear ok hh NX
          by_cases ec : cap = m
          all_goals have HV' := HV.out
          all_goals first | rw [if_pos ec] at HV' | rw [if_neg ec] at HV'
          all_goals have HVV := Hid.mk HV'
          all_goals clear HV'
          all_goals
            go_wp2_with (go_at_call 71; refine (refGetInt _ (bs.drop m) _ (by first | exact HVV.out | (have h := HVV.out; simp [ec] at h ⊢; exact h)) (hby.drop m)).mono ?_; rintro e w' ⟨rfl, q, rfl⟩; rw [HR2.out])
            go_ret3
            exact MadeIntsN.mk ST.out (Own.nil _ _ _) (HB.out.trans ((Still.one _ _).below _))
      · have DN : Hid (getInts bs = (out, (m : Int), 0)) := by
          rw [Hid, hh.out, show N - j = 0 by omega, andThen_done]
        go_wp2
        go_ret3
        exact MadeIntsN.mk DN.out hown HB.out
  · have g' : (er == 0) = false := by simpa using g
    have L2 : Hid (getInts bs = ([], 0, er)) := by rw [Hid, L.out, if_pos g]
    go_enter Tryd.func29, Tryd.ntmps29
    go_wp2_with (go_at_call 70; refine (refLength _ bs _ _ hv hby (by omega) (by omega)).mono ?_; rintro e w' ⟨rfl, k, rfl⟩; rw [HR.out])
    go_ret3
    exact MadeIntsN.mk L2.out (Own.nil _ _ _) ((Still.one _ _).below _)

theorem wireGetInts (v : Value) (bs : List Int) (w : World) (hv : Bytes w v bs) (hby : Byte bs) (hl : bs.length ≤ 1000000000) : Calls Tryd.prog 26 #[v] w (MadeIntsN w (getInts bs)) := by
  go_enter Tryd.func26, Tryd.ntmps26
  go_wp2_with (go_at_call 66; refine (wireGet _ bs _ hv hby hl).mono ?_; rintro e w1 ⟨v1, rfl, ho1, hb1⟩)
  go_ret3
  exact ⟨_, rfl, ho1, hb1⟩

end Go.Proofs.YtnjopfjmepbpoaaDoor

/- Plain: attributes, definitions, schemas and entries, as attr and antiquaryref13 have them. -/
namespace Go.Proofs.YtnjopfjmepbpoaaDoor
set_option linter.unusedSimpArgs false
set_option linter.unusedVariables false
set_option linter.unnecessarySimpa false
open Go

structure PAttr where
  name : ByteArray
  kind : Int
  n : Int
  s : ByteArray

structure PDef where
  name : ByteArray
  kind : Int
  lo : Int
  hi : Int
  words : List ByteArray

structure PSchema where
  dims : Int
  metric : Int
  defs : List PDef

structure PEntry where
  id : Int
  ver : Int
  owner : Int
  filed : Int
  frm : Int
  to : Int
  born : Int
  vec : List Int
  attrs : List PAttr

def eqB (a b : ByteArray) : Bool := a.toList == b.toList
def leqB (a b : ByteArray) : Bool := Op.bytesLess a.toList b.toList || a.toList == b.toList

theorem eqB_comm (a b : ByteArray) : eqB a b = eqB b a := by
  unfold eqB
  rw [Bool.eq_iff_iff]; simp only [beq_iff_eq]; exact eq_comm

def hasB (l : List ByteArray) (s : ByteArray) : Bool := l.any (fun x => eqB x s)

/-- The place of the first true one; -1: there is none. -/
def idxGo : List Bool → Int → Int
  | [], _ => -1
  | b :: r, k => if b then k else idxGo r (k + 1)
def idxB (l : List Bool) : Int := idxGo l 0

theorem idxGo_drop (l : List Bool) (k : Nat) (b : Bool) (h : l[k]? = some b) : idxGo (l.drop k) k = if b then (k : Int) else idxGo (l.drop (k+1)) ((k+1 : Nat) : Int) := by
  obtain ⟨hk, rfl⟩ := List.getElem?_eq_some_iff.1 h
  rw [List.drop_eq_getElem_cons (by omega), idxGo]; rfl
theorem idxGo_end (l : List Bool) (k : Nat) (h : l.length ≤ k) : idxGo (l.drop k) k = -1 := by
  rw [List.drop_eq_nil_of_le h, idxGo]

theorem idxGo_bd : ∀ (l : List Bool) (k : Int), 0 ≤ k → (idxGo l k = -1 ∧ l.any id = false) ∨ (k ≤ idxGo l k ∧ idxGo l k < k + l.length ∧ l.any id = true)
  | [], k, _ => .inl ⟨rfl, rfl⟩
  | b :: r, k, hk => by
    rw [idxGo]
    cases b
    · rcases idxGo_bd r (k+1) (by omega) with ⟨h1, h2⟩ | ⟨h1, h2, h3⟩
      · exact .inl ⟨by simpa using h1, by simpa using h2⟩
      · exact .inr ⟨by simp; omega, by simp; omega, by simpa using h3⟩
    · exact .inr ⟨by simp, by simp; omega, by simp⟩

theorem idxB_any (l : List Bool) : decide (0 ≤ idxB l) = l.any id := by
  rcases idxGo_bd l 0 (by omega) with ⟨h1, h2⟩ | ⟨h1, h2, h3⟩
  · rw [h2, idxB, h1]; rfl
  · rw [h3, decide_eq_true_eq, idxB]; exact h1

theorem idxB_lt (l : List Bool) (h : 0 ≤ idxB l) : idxB l < l.length := by
  rcases idxGo_bd l 0 (by omega) with ⟨h1, h2⟩ | ⟨h1, h2, h3⟩
  · rw [idxB, h1] at h; omega
  · rw [idxB]; omega

theorem idxB_ge (l : List Bool) : -1 ≤ idxB l := by
  rcases idxGo_bd l 0 (by omega) with ⟨h1, h2⟩ | ⟨h1, h2, h3⟩ <;> rw [idxB] <;> omega

/-- The error of the first rule that is broken. -/
def firstE : List (Bool × Int) → Int
  | [] => 0
  | (b, e) :: r => if b then e else firstE r

theorem firstE_drop (l : List (Bool × Int)) (k : Nat) (b : Bool) (e : Int) (h : l[k]? = some (b, e)) : firstE (l.drop k) = if b then e else firstE (l.drop (k+1)) := by
  obtain ⟨hk, he⟩ := List.getElem?_eq_some_iff.1 h
  rw [List.drop_eq_getElem_cons (by omega), he, firstE]
theorem firstE_end (l : List (Bool × Int)) (k : Nat) (h : l.length ≤ k) : firstE (l.drop k) = 0 := by
  rw [List.drop_eq_nil_of_le h, firstE]

/- Names. -/
def lowI (c : Int) : Bool := decide (97 ≤ c) && decide (c ≤ 122)
def resI (c : Int) : Bool := (decide (48 ≤ c) && decide (c ≤ 57)) || c == 95

def nameGo : Bool → List UInt8 → Bool
  | _, [] => true
  | f, c :: r => (lowI c.toNat || (!f && resI c.toNat)) && nameGo false r

theorem nameGo_drop (l : List UInt8) (k : Nat) (c : UInt8) (h : l[k]? = some c) : nameGo (k == 0) (l.drop k) = ((lowI c.toNat || (!(k == 0) && resI c.toNat)) && nameGo (k + 1 == 0) (l.drop (k+1))) := by
  obtain ⟨hk, rfl⟩ := List.getElem?_eq_some_iff.1 h
  rw [List.drop_eq_getElem_cons (by omega), nameGo]
  rfl
theorem nameGo_end (l : List UInt8) (k : Nat) (f : Bool) (h : l.length ≤ k) : nameGo f (l.drop k) = true := by
  rw [List.drop_eq_nil_of_le h, nameGo]

def reserved : List ByteArray := [⟨#[97, 108, 108]⟩, ⟨#[97, 110, 100]⟩, ⟨#[104, 97, 115]⟩, ⟨#[105, 110]⟩, ⟨#[110, 111, 116]⟩, ⟨#[111, 114]⟩]
def nameB (s : ByteArray) : Bool := nameGo true s.data.toList && (decide (1 ≤ s.size) && decide (s.size ≤ 40) && !hasB reserved s)

/- Strictly ascending. -/
def riseGo : ByteArray → List ByteArray → Bool
  | _, [] => true
  | p, x :: r => !leqB x p && riseGo x r
def riseB : List ByteArray → Bool
  | [] => true
  | x :: r => riseGo x r

theorem riseGo_drop (l : List ByteArray) (k : Nat) (p x : ByteArray) (h : l[k+1]? = some x) : riseGo p (l.drop (k+1)) = (!leqB x p && riseGo x (l.drop (k+2))) := by
  obtain ⟨hk, rfl⟩ := List.getElem?_eq_some_iff.1 h
  rw [List.drop_eq_getElem_cons (by omega), riseGo]
theorem riseB_start (l : List ByteArray) (x : ByteArray) (h : l[0]? = some x) : riseB l = riseGo x (l.drop 1) := by
  cases l with
  | nil => simp at h
  | cons a r => simp at h; subst h; rfl
theorem riseGo_end (l : List ByteArray) (k : Nat) (p : ByteArray) (h : l.length ≤ k) : riseGo p (l.drop k) = true := by
  rw [List.drop_eq_nil_of_le h, riseGo]

def wordsE (l : List ByteArray) : Int :=
  if l.length < 1 ∨ 50 < l.length then 2 else if l.any (fun s => !nameB s) then 5 else if riseB l then 0 else 6

def defE (d : PDef) (before : ByteArray) : Int :=
  if !nameB d.name then 5
  else if leqB d.name before then 6
  else if d.kind = 1 then
    (if d.lo < -1099511627776 ∨ 1099511627776 < d.hi ∨ d.hi < d.lo then 131 else if 0 < d.words.length then 3 else 0)
  else if d.kind = 2 then
    (if d.lo ≠ 0 ∨ d.hi ≠ 0 then 3 else wordsE d.words)
  else 130

def defsE : ByteArray → List PDef → Int
  | _, [] => 0
  | b, d :: r => if defE d b ≠ 0 then defE d b else defsE d.name r

def checkE (s : PSchema) : Int :=
  if s.dims < 1 ∨ 32 < s.dims ∨ s.metric < 1 ∨ 3 < s.metric then 1
  else if 16 < s.defs.length then 2
  else defsE ByteArray.empty s.defs

def findI (l : List PDef) (nm : ByteArray) : Int := idxB (l.map fun d => eqB d.name nm)

def valueE (d : PDef) (a : PAttr) : Int :=
  if a.kind ≠ d.kind then 130
  else if a.kind = 1 then (if eqB a.s ByteArray.empty = false then 3 else if a.n < d.lo ∨ d.hi < a.n then 131 else 0)
  else if a.n ≠ 0 then 3
  else if hasB d.words a.s then 0 else 131

def fitE (ds : List PDef) (before : ByteArray) (first : Bool) (a : PAttr) : Int :=
  if findI ds a.name < 0 then 5
  else if !first && leqB a.name before then 6
  else match ds[(findI ds a.name).toNat]? with
    | some d => valueE d a
    | none => 0

def fitsGo (ds : List PDef) : ByteArray → Bool → List PAttr → Int
  | _, _, [] => 0
  | b, f, a :: r => if fitE ds b f a ≠ 0 then fitE ds b f a else fitsGo ds a.name false r
def fitsE (s : PSchema) (l : List PAttr) : Int := fitsGo s.defs ByteArray.empty true l

def zeroA : PAttr := ⟨ByteArray.empty, 0, 0, ByteArray.empty⟩
def getA : List PAttr → ByteArray → PAttr × Bool
  | [], _ => (zeroA, false)
  | a :: r, nm => if eqB a.name nm then (a, true) else getA r nm

def validV (v : List Int) : Bool := v.all (fun x => decide (-1000 ≤ x) && decide (x ≤ 1000)) && (decide (1 ≤ v.length) && decide (v.length ≤ 32))

def entryE (s : PSchema) (e : PEntry) : Int :=
  if e.id < 1 ∨ 1073741824 < e.id ∨ e.owner < 1 ∨ 1073741824 < e.owner ∨ e.ver < 1 ∨ 1073741824 < e.ver then 1
  else if e.filed < 0 ∨ e.frm < e.filed ∨ e.to ≤ e.frm ∨ 1048577 < e.to ∨ 1048576 < e.frm ∨ e.born < 1 ∨ 1073741824 < e.born then 9
  else if validV e.vec = false ∨ (e.vec.length : Int) ≠ s.dims then 40
  else fitsE s e.attrs

end Go.Proofs.YtnjopfjmepbpoaaDoor

/- Strings, attributes, definitions, schemas and entries in memory. -/
namespace Go.Proofs.YtnjopfjmepbpoaaDoor
set_option linter.unusedSimpArgs false
set_option linter.unusedVariables false
set_option linter.unnecessarySimpa false
open Go.RowKit

theorem below_alloc (w : World) (o : Obj) : Below w.heap.size w (w.alloc o) := (Below.refl _ _).alloc (Nat.le_refl _) _
theorem below_drewN (w : World) (n : Nat) : Below w.heap.size w (w.drewN n) := (Still.one w n).below _

def RdS (w : World) (v : Value) (k : Nat) (rows : List (List Value)) : Prop :=
  ∃ a cap b off, v = .slice a rows.length cap ∧ rows.length ≤ cap ∧ cap ≤ maxLen ∧ (0 < rows.length → a = some ⟨b, off, none⟩) ∧
    ∀ i j r u, rows[i]? = some r → r[j]? = some u → w.cell? ⟨b, off + i * k + j, none⟩ = some u

theorem RdS.below {w w' : World} {v : Value} {k : Nat} {rows : List (List Value)} (h : RdS w v k rows) (hb : Below w.heap.size w w') : RdS w' v k rows := by
  obtain ⟨a, cap, b, off, h1, h2, h3, h4, h5⟩ := h
  exact ⟨a, cap, b, off, h1, h2, h3, h4, fun i j r u hr hu => below_cell hb (h5 i j r u hr hu)⟩

def Strs (w : World) (v : Value) (l : List ByteArray) : Prop := Rd w v (l.map Value.string)

theorem Strs.below {w w' : World} {v : Value} {l : List ByteArray} (h : Strs w v l) (hb : Below w.heap.size w w') : Strs w' v l := Rd.below h hb
theorem Ints.below {w w' : World} {v : Value} {l : List Int} (h : Ints w v l) (hb : Below w.heap.size w w') : Ints w' v l := Rd.below h hb
theorem Bytes.below {w w' : World} {v : Value} {l : List Int} (h : Bytes w v l) (hb : Below w.heap.size w w') : Bytes w' v l := Rd.below h hb

theorem Strs.open {w : World} {v : Value} {l : List ByteArray} (h : Strs w v l) : ∃ a cap b off, v = .slice a l.length cap ∧ l.length ≤ cap ∧ cap ≤ maxLen ∧
    (0 < l.length → a = some ⟨b, off, none⟩) ∧ Hid (∀ j x, l[j]? = some x → w.cell? ⟨b, off + j, none⟩ = some (.string x)) := by
  obtain ⟨a, cap, b, off, h1, h2, h3, h4, h5⟩ := h
  simp only [List.length_map] at h1 h2 h4
  exact ⟨a, cap, b, off, h1, h2, h3, h4, fun j x hx => h5 j _ (by simp [hx])⟩

def attrC (a : PAttr) : List Value := [.string a.name, .int .i64 a.kind, .int .i64 a.n, .string a.s]
def attrV (a : PAttr) : Value := .agg #[.string a.name, .int .i64 a.kind, .int .i64 a.n, .string a.s]
def Attrs (w : World) (v : Value) (l : List PAttr) : Prop := RdS w v 4 (l.map attrC)

theorem Attrs.below {w w' : World} {v : Value} {l : List PAttr} (h : Attrs w v l) (hb : Below w.heap.size w w') : Attrs w' v l := RdS.below h hb

/-- The cells of an attribute. -/
def AttrAt (w : World) (b off : Nat) (x : PAttr) : Prop :=
  w.cell? ⟨b, off, none⟩ = some (.string x.name) ∧ w.cell? ⟨b, off + 1, none⟩ = some (.int .i64 x.kind) ∧ w.cell? ⟨b, off + 2, none⟩ = some (.int .i64 x.n) ∧ w.cell? ⟨b, off + 3, none⟩ = some (.string x.s)

theorem AttrAt.below {w w' : World} {b off : Nat} {x : PAttr} (h : AttrAt w b off x) (hb : Below w.heap.size w w') : AttrAt w' b off x :=
  ⟨below_cell hb h.1, below_cell hb h.2.1, below_cell hb h.2.2.1, below_cell hb h.2.2.2⟩
theorem AttrAt.lt {w : World} {b off : Nat} {x : PAttr} (h : AttrAt w b off x) : b < w.heap.size := World.block_lt_of_cell? _ _ h.1

theorem Attrs.open {w : World} {v : Value} {l : List PAttr} (h : Attrs w v l) : ∃ a cap b off, v = .slice a l.length cap ∧ l.length ≤ cap ∧ cap ≤ maxLen ∧
    (0 < l.length → a = some ⟨b, off, none⟩) ∧ Hid (∀ i x, l[i]? = some x → AttrAt w b (off + i * 4) x) := by
  obtain ⟨a, cap, b, off, h1, h2, h3, h4, h5⟩ := h
  simp only [List.length_map] at h1 h2 h4
  refine ⟨a, cap, b, off, h1, h2, h3, h4, fun i x hx => ?_⟩
  have e : (l.map attrC)[i]? = some (attrC x) := by simp [hx]
  exact ⟨h5 i 0 _ _ e rfl, h5 i 1 _ _ e rfl, h5 i 2 _ _ e rfl, h5 i 3 _ _ e rfl⟩

/-- The cells of a definition. -/
def DefAt (w : World) (b off : Nat) (d : PDef) (wv : Value) : Prop :=
  w.cell? ⟨b, off, none⟩ = some (.string d.name) ∧ w.cell? ⟨b, off + 1, none⟩ = some (.int .i64 d.kind) ∧ w.cell? ⟨b, off + 2, none⟩ = some (.int .i64 d.lo) ∧ w.cell? ⟨b, off + 3, none⟩ = some (.int .i64 d.hi) ∧ w.cell? ⟨b, off + 4, none⟩ = some wv

theorem DefAt.below {w w' : World} {b off : Nat} {d : PDef} {wv : Value} (h : DefAt w b off d wv) (hb : Below w.heap.size w w') : DefAt w' b off d wv :=
  ⟨below_cell hb h.1, below_cell hb h.2.1, below_cell hb h.2.2.1, below_cell hb h.2.2.2.1, below_cell hb h.2.2.2.2⟩
theorem DefAt.lt {w : World} {b off : Nat} {d : PDef} {wv : Value} (h : DefAt w b off d wv) : b < w.heap.size := World.block_lt_of_cell? _ _ h.1

def defV (d : PDef) (wv : Value) : Value := .agg #[.string d.name, .int .i64 d.kind, .int .i64 d.lo, .int .i64 d.hi, wv]

def Defs (w : World) (v : Value) (l : List PDef) : Prop :=
  ∃ a cap b off, v = .slice a l.length cap ∧ l.length ≤ cap ∧ cap ≤ maxLen ∧ (0 < l.length → a = some ⟨b, off, none⟩) ∧
    ∀ i d, l[i]? = some d → ∃ wv, DefAt w b (off + i * 5) d wv ∧ Strs w wv d.words

theorem Defs.below {w w' : World} {v : Value} {l : List PDef} (h : Defs w v l) (hb : Below w.heap.size w w') : Defs w' v l := by
  obtain ⟨a, cap, b, off, h1, h2, h3, h4, h5⟩ := h
  refine ⟨a, cap, b, off, h1, h2, h3, h4, fun i d hd => ?_⟩
  obtain ⟨wv, h6, h7⟩ := h5 i d hd
  exact ⟨wv, h6.below hb, h7.below hb⟩

theorem Defs.open {w : World} {v : Value} {l : List PDef} (h : Defs w v l) : ∃ a cap b off, v = .slice a l.length cap ∧ l.length ≤ cap ∧ cap ≤ maxLen ∧
    (0 < l.length → a = some ⟨b, off, none⟩) ∧ Hid (∀ i d, l[i]? = some d → ∃ wv, DefAt w b (off + i * 5) d wv ∧ Strs w wv d.words) := h

/-- A schema, by value. -/
def SchemaV (w : World) (v : Value) (s : PSchema) : Prop := ∃ dv, v = .agg #[.int .i64 s.dims, .int .i64 s.metric, dv] ∧ Defs w dv s.defs
theorem SchemaV.below {w w' : World} {v : Value} {s : PSchema} (h : SchemaV w v s) (hb : Below w.heap.size w w') : SchemaV w' v s := by
  obtain ⟨dv, h1, h2⟩ := h
  exact ⟨dv, h1, h2.below hb⟩

/-- An entry, by value. -/
def entryVal (e : PEntry) (vv av : Value) : Value := .agg #[.int .i64 e.id, .int .i64 e.ver, .int .i64 e.owner, .int .i64 e.filed, .int .i64 e.frm, .int .i64 e.to, .int .i64 e.born, vv, av]
def EntryV (w : World) (v : Value) (e : PEntry) : Prop := ∃ vv av, v = entryVal e vv av ∧ Ints w vv e.vec ∧ Attrs w av e.attrs
theorem EntryV.below {w w' : World} {v : Value} {e : PEntry} (h : EntryV w v e) (hb : Below w.heap.size w w') : EntryV w' v e := by
  obtain ⟨vv, av, h1, h2, h3⟩ := h
  exact ⟨vv, av, h1, h2.below hb, h3.below hb⟩

/-- What a call returns that leaves all that was there. -/
def RetB (w : World) (b : Bool) (e : Ending) (w' : World) : Prop := e = .returned (.bool b) ∧ Below w.heap.size w w'
def RetI (w : World) (n : Int) (e : Ending) (w' : World) : Prop := e = .returned (.int .i64 n) ∧ Below w.heap.size w w'
theorem RetB.mk {w w' : World} {a b : Bool} (h : a = b) (hb : Below w.heap.size w w') : RetB w b (.returned (.bool a)) w' := ⟨by rw [h], hb⟩
theorem RetI.mk {w w' : World} {a b : Int} (h : a = b) (hb : Below w.heap.size w w') : RetI w b (.returned (.int .i64 a)) w' := ⟨by rw [h], hb⟩

end Go.Proofs.YtnjopfjmepbpoaaDoor

/- Walks: lists of strings: antiquaryref13.Has, slices.Index, slices.Contains, rising. -/
namespace Go.Proofs.YtnjopfjmepbpoaaDoor
set_option linter.unusedSimpArgs false
set_option linter.unusedVariables false
set_option linter.unnecessarySimpa false
open Go.RowKit

theorem any_drop (l : List ByteArray) (p : ByteArray → Bool) (k : Nat) (x : ByteArray) (h : l[k]? = some x) : (l.drop k).any p = (p x || (l.drop (k+1)).any p) := by
  obtain ⟨hk, rfl⟩ := List.getElem?_eq_some_iff.1 h
  rw [List.drop_eq_getElem_cons (by omega), List.any_cons]
theorem any_end (l : List ByteArray) (p : ByteArray → Bool) (k : Nat) (h : l.length ≤ k) : (l.drop k).any p = false := by
  rw [List.drop_eq_nil_of_le h]; rfl

set_option maxRecDepth 100000 in
set_option maxHeartbeats 400000 in
theorem refHasS (v : Value) (l : List ByteArray) (s : ByteArray) (w : World) (hv : Strs w v l) (hl : l.length ≤ 1000000000) :
    Calls Tryd.prog 50 #[v, .string s] w fun e w' => e = .returned (.bool (hasB l s)) ∧ w = w' := by
  obtain ⟨a, cap, b, off, rfl, hcap, hm, ha, hc⟩ := hv.open
  go_enter Tryd.func50, Tryd.ntmps50
  go_wp2
  go_loop [5] (fun i => ∃ k : Nat, k ≤ l.length ∧ i = .int .i64 k ∧ Hid (hasB l s = hasB (l.drop k) s)) (fun i => l.length - (intOf i).toNat)
  case atStart => exact ⟨0, by omega, rfl, rfl⟩
  case round =>
    obtain ⟨k, hk, rfl, hh⟩ := hrel
    by_cases hlt : k < l.length
    · obtain ⟨y, hy⟩ := ints_get l k (by omega)
      have c0 := hc.out k y hy
      obtain rfl := ha (by omega)
      have H : Hid (_ = _) := any_drop l (fun x => eqB x s) k y hy
      clear ha hy
      by_cases e : eqB y s = true
      · have e' : (y.toList == s.toList) = true := e
        go_wp2
        go_ret
        exact ⟨ret_bool (by rw [hh.out, hasB, H.out, e]; rfl), rfl⟩
      · have e2 : eqB y s = false := by simpa using e
        have e' : (y.toList == s.toList) = false := e2
        go_wp2
        go_round
        case rel => exact ⟨k + 1, by omega, by go_num, by rw [Hid, hh.out, hasB, H.out, e2]; rfl⟩
        case measure => simp [intOf]; omega
    · go_wp2
      go_ret
      exact ⟨ret_bool (by rw [hh.out, hasB, any_end _ _ _ (by omega)]), rfl⟩

set_option maxRecDepth 100000 in
set_option maxHeartbeats 400000 in
theorem slicesIndexS (v : Value) (l : List ByteArray) (s : ByteArray) (w : World) (hv : Strs w v l) (hl : l.length ≤ 1000000000) :
    Calls Tryd.prog 99 #[v, .string s] w fun e w' => e = .returned (.int .i64 (idxB (l.map fun x => eqB x s))) ∧ w = w' := by
  obtain ⟨a, cap, b, off, rfl, hcap, hm, ha, hc⟩ := hv.open
  go_enter Tryd.func99, Tryd.ntmps99
  go_wp2
  go_loop [8] (fun i => ∃ k : Nat, k ≤ l.length ∧ i = .int .i64 k ∧ Hid (idxB (l.map fun x => eqB x s) = idxGo ((l.map fun x => eqB x s).drop k) k)) (fun i => l.length - (intOf i).toNat)
  case atStart => exact ⟨0, by omega, rfl, rfl⟩
  case round =>
    obtain ⟨k, hk, rfl, hh⟩ := hrel
    by_cases hlt : k < l.length
    · obtain ⟨y, hy⟩ := ints_get l k (by omega)
      have c0 := hc.out k y hy
      obtain rfl := ha (by omega)
      have H : Hid (_ = _) := idxGo_drop (l.map fun x => eqB x s) k (eqB y s) (by simp [hy])
      clear ha hy
      by_cases e : eqB y s = true
      · have e' : (s.toList == y.toList) = true := by rw [eqB_comm] at e; exact e
        go_wp2
        go_ret
        exact ⟨ret_int (by rw [hh.out, H.out, e]; rfl), rfl⟩
      · have e2 : eqB y s = false := by simpa using e
        have e' : (s.toList == y.toList) = false := by rw [eqB_comm] at e2; exact e2
        go_wp2
        go_round
        case rel => exact ⟨k + 1, by omega, by go_num, by rw [Hid, hh.out, H.out, e2]; rfl⟩
        case measure => simp [intOf]; omega
    · go_wp2
      go_ret
      exact ⟨ret_int (by rw [hh.out, idxGo_end _ _ (by simp; omega)]), rfl⟩

set_option maxRecDepth 100000 in
set_option maxHeartbeats 400000 in
theorem slicesContainsS (v : Value) (l : List ByteArray) (s : ByteArray) (w : World) (hv : Strs w v l) (hl : l.length ≤ 1000000000) :
    Calls Tryd.prog 49 #[v, .string s] w fun e w' => e = .returned (.bool (hasB l s)) ∧ w = w' := by
  have H : Hid (decide (0 ≤ idxB (l.map fun x => eqB x s)) = hasB l s) := by rw [Hid, idxB_any, List.any_map]; rfl
  go_enter Tryd.func49, Tryd.ntmps49
  go_wp2_with (go_at_call 99; refine (slicesIndexS _ l s _ hv hl).mono ?_; rintro e w' ⟨rfl, rfl⟩)
  go_ret
  exact ⟨ret_bool H.out, rfl⟩

theorem take_last (l : List ByteArray) (k : Nat) (h : k < l.length) : ∃ x, l[k]? = some x := ints_get l k h

set_option maxRecDepth 100000 in
set_option maxHeartbeats 400000 in
theorem attrRising (v : Value) (l : List ByteArray) (w : World) (hv : Strs w v l) (hl : l.length ≤ 1000000000) :
    Calls Tryd.prog 97 #[v] w fun e w' => e = .returned (.bool (riseB l)) ∧ Still w w' := by
  obtain ⟨a, cap, b, off, rfl, hcap, hm, ha, hc⟩ := hv.open
  by_cases h0 : l.length = 0
  · have hb : Hid (riseB l = true) := by rw [List.length_eq_zero_iff.1 h0]; rfl
    have hlt : l.length < 1 := by omega
    clear h0
    go_enter Tryd.func97, Tryd.ntmps97
    go_wp2
    go_loop [3] (fun i => i = .int .i64 1) (fun i => 0)
    case atStart => rfl
    case round =>
      obtain rfl := hrel
      go_wp2
      go_ret
      exact ⟨ret_bool hb.out.symm, Still.refl _⟩
  · obtain rfl := ha (by omega)
    have hpos : 1 ≤ l.length := by omega
    clear h0 ha
    obtain ⟨x0, hx0⟩ := ints_get l 0 (by omega)
    have S0 : Hid (riseB l = riseGo x0 (l.drop 1)) := riseB_start l x0 hx0
    have X0 : Hid (l[0]? = some x0) := hx0
    clear hx0
    go_enter Tryd.func97, Tryd.ntmps97
    go_wp2
    go_loopw [3] (fun i wr => ∃ k n : Nat, ∃ p, k + 1 ≤ l.length ∧ i = .int .i64 ((k + 1 : Nat) : Int) ∧ wr = w.drewN n ∧ Hid (l[k]? = some p) ∧ Hid (riseB l = riseGo p (l.drop (k+1)))) (fun i _ => l.length - (intOf i).toNat)
    case atStart => exact ⟨0, 0, x0, by omega, rfl, rfl, X0, S0⟩
    case round =>
      obtain ⟨k, n, p, hk, rfl, rfl, hp, hh⟩ := hrel
      by_cases hlt : k + 1 < l.length
      · obtain ⟨y, hy⟩ := ints_get l (k+1) (by omega)
        have c0 := hc.out (k+1) y hy
        have c1 := hc.out k p hp.out
        have H : Hid (_ = _) := riseGo_drop l k p y hy
        have Y : Hid (l[k+1]? = some y) := hy
        clear hy
        by_cases e : leqB y p = true
        · have e' : (Op.bytesLess y.toList p.toList || y.toList == p.toList) = true := e
          go_wp2
          go_quiet (fail)
          go_wp2
          go_ret
          exact ⟨ret_bool (by rw [hh.out, H.out, e]; rfl), by first | exact Still.two _ _ _ | exact Still.one _ _⟩
        · have e2 : leqB y p = false := by simpa using e
          have e' : (Op.bytesLess y.toList p.toList || y.toList == p.toList) = false := e2
          go_wp2
          go_quiet (fail)
          go_wp2
          go_roundw
          case rel => exact ⟨k + 1, _, y, by omega, by go_num, rfl, Y, by rw [Hid, hh.out, H.out, e2]; rfl⟩
          case measure => simp [intOf]; omega
      · go_wp2
        go_ret
        exact ⟨ret_bool (by rw [hh.out, riseGo_end _ _ _ (by omega)]), Still.one _ _⟩
end Go.Proofs.YtnjopfjmepbpoaaDoor

/- Walks: Name. -/
namespace Go.Proofs.YtnjopfjmepbpoaaDoor
set_option linter.unusedSimpArgs false
set_option linter.unusedVariables false
set_option linter.unnecessarySimpa false
open Go.RowKit

theorem byteAt (s : ByteArray) (k : Nat) (h : k < s.size) : s.data.toList[k]? = some (s[k]'h) := by
  rw [List.getElem?_eq_getElem (by simpa using h)]; rfl

/-- One byte of a name is right. -/
def okC (k : Nat) (c : Int) : Bool := lowI c || (!(k == 0) && resI c)

theorem nameGo_step (s : ByteArray) (k : Nat) (h : k < s.size) : nameGo (k == 0) (s.data.toList.drop k) = (okC k ((s[k]'h).toNat : Int) && nameGo (k + 1 == 0) (s.data.toList.drop (k+1))) :=
  nameGo_drop _ _ _ (byteAt s k h)

theorem lit_reserved (w : World) : Strs (w.alloc (.cells #[Value.string ⟨#[97, 108, 108]⟩, Value.string ⟨#[97, 110, 100]⟩, Value.string ⟨#[104, 97, 115]⟩, Value.string ⟨#[105, 110]⟩, Value.string ⟨#[110, 111, 116]⟩, Value.string ⟨#[111, 114]⟩] 9)) (.slice (some ⟨w.heap.size, 0, none⟩) 6 6) reserved :=
  (Own.lit w (reserved.map Value.string) 9 w.heap.size (Nat.le_refl _) (by simp [maxLen, reserved])).rd

set_option maxRecDepth 100000 in
set_option maxHeartbeats 1000000 in
theorem refName (s : ByteArray) (w : World) (hs : s.size ≤ 1000000000) :
    Calls Tryd.prog 19 #[.string s] w (RetB w (nameB s)) := by
  go_enter Tryd.func19, Tryd.ntmps19
  go_wp2
  go_loop [3] (fun i => ∃ k : Nat, k ≤ s.size ∧ i = .int .i64 k ∧ Hid (nameGo true s.data.toList = nameGo (k == 0) (s.data.toList.drop k))) (fun i => s.size - (intOf i).toNat)
  case atStart => exact ⟨0, by omega, rfl, rfl⟩
  case round =>
    obtain ⟨k, hk, rfl, hh⟩ := hrel
    by_cases hlt : k < s.size
    · have H : Hid (_ = _) := nameGo_step s k hlt
      have bad : Hid (okC k ((s[k]'hlt).toNat : Int) = false → nameB s = false) := by
        intro h; rw [nameB, hh.out, H.out, h]; rfl
      have good : Hid (okC k ((s[k]'hlt).toNat : Int) = true → nameGo true s.data.toList = nameGo (k + 1 == 0) (s.data.toList.drop (k+1))) := by
        intro h; rw [hh.out, H.out, h]; rfl
      clear H hh
      have kk : ((k : Int) == 0) = (k == 0) := by rw [Bool.eq_iff_iff]; simp
      have KK := Lib.hid kk
      clear kk
      cases ok : okC k ((s[k]'hlt).toNat : Int) <;> cases K0 : (k == 0) <;> cases T1 : decide ((97 : Int) ≤ ((s[k]'hlt).toNat : Int)) <;> cases T2 : decide (((s[k]'hlt).toNat : Int) ≤ 122) <;> cases T3 : decide ((48 : Int) ≤ ((s[k]'hlt).toNat : Int)) <;>
        cases T4 : decide (((s[k]'hlt).toNat : Int) ≤ 57) <;> cases T5 : (((s[k]'hlt).toNat : Int) == 95)
      all_goals first
        | (exfalso; simp [okC, lowI, resI, K0, T1, T2, T3, T4, T5] at ok; done)
        | (exfalso; simp only [decide_eq_true_eq, decide_eq_false_iff_not, beq_iff_eq, beq_eq_false_iff_ne] at T1 T2 T3 T4 T5; omega)
        | skip
      all_goals
        have KI := KK.out
        rw [K0] at KI
        have OK := Lib.hid ok
        clear ok K0
        go_wp2
        first
          | (go_ret; refine RetB.mk (bad.out OK.out).symm (Below.refl _ _))
          | (go_round
             case rel => exact ⟨k + 1, by omega, by go_num, good.out OK.out⟩
             case measure => simp [intOf]; omega)
    · have HE : Hid (nameGo true s.data.toList = true) := by rw [Hid, hh.out, nameGo_end _ _ _ (by simp; omega)]
      clear hh
      by_cases h1 : 1 ≤ s.size
      · by_cases h2 : s.size ≤ 40
        · have h1' : decide ((1 : Int) ≤ (s.size : Int)) = true := by simp; omega
          have h2' : decide ((s.size : Int) ≤ 40) = true := by simp; omega
          have HN : Hid (nameB s = !hasB reserved s) := by rw [Hid, nameB, HE.out]; simp [h1, h2]
          go_wp2_with (go_at_call 50; refine (refHasS _ reserved s _ (lit_reserved w) (by decide)).mono ?_; rintro e w' ⟨rfl, rfl⟩)
          go_ret
          exact RetB.mk HN.out.symm (below_alloc _ _)
        · have h2' : decide ((s.size : Int) ≤ 40) = false := by simp; omega
          have HN : Hid (nameB s = false) := by rw [Hid, nameB, HE.out]; simp [h2]
          go_wp2
          go_ret
          exact RetB.mk HN.out.symm (Below.refl _ _)
      · have h1' : decide ((1 : Int) ≤ (s.size : Int)) = false := by simp; omega
        have HN : Hid (nameB s = false) := by rw [Hid, nameB, HE.out]; simp [h1]
        go_wp2
        go_ret
        exact RetB.mk HN.out.symm (Below.refl _ _)

theorem below_iter (w : World) (s : ByteArray) (k : Nat) : Below w.heap.size w (w.iter s k) := below_alloc _ _

set_option maxRecDepth 100000 in
set_option maxHeartbeats 2000000 in
theorem attrName (s : ByteArray) (w : World) (hs : s.size ≤ 1000000000) :
    Calls Tryd.prog 18 #[.string s] w (RetB w (nameB s)) := by
  go_enter Tryd.func18, Tryd.ntmps18
  go_wp2
  go_loopw [3, 4] (fun _ _ wr => ∃ k : Nat, k ≤ s.size ∧ wr = w.iter s k ∧ Hid (nameGo true s.data.toList = nameGo (k == 0) (s.data.toList.drop k))) (fun _ _ wr => s.size - wr.iterPos w.heap.size)
  case atStart => exact ⟨0, by omega, rfl, rfl⟩
  case round =>
    obtain ⟨k, hk, rfl, hh⟩ := hrel
    by_cases hlt : k < s.size
    · have H : Hid (_ = _) := nameGo_step s k hlt
      have bad : Hid (okC k ((s[k]'hlt).toNat : Int) = false → nameB s = false) := by
        intro h; rw [nameB, hh.out, H.out, h]; rfl
      have good : Hid (okC k ((s[k]'hlt).toNat : Int) = true → nameGo true s.data.toList = nameGo (k + 1 == 0) (s.data.toList.drop (k+1))) := by
        intro h; rw [hh.out, H.out, h]; rfl
      clear H hh
      have kk : ((k : Int) == 0) = (k == 0) := by rw [Bool.eq_iff_iff]; simp
      have KK := Lib.hid kk
      clear kk
      by_cases h128 : (s[k]'hlt).toNat < 128
      · have hnx := fun ty => run_next_ascii (P := Tryd.prog) w s k ty hlt h128
        cases ok : okC k ((s[k]'hlt).toNat : Int) <;> cases K0 : (k == 0) <;> cases T1 : decide (((s[k]'hlt).toNat : Int) < 97) <;> cases T2 : decide (122 < ((s[k]'hlt).toNat : Int)) <;> cases T3 : decide (((s[k]'hlt).toNat : Int) < 48) <;>
          cases T4 : decide (57 < ((s[k]'hlt).toNat : Int)) <;> cases T5 : (((s[k]'hlt).toNat : Int) != 95)
        all_goals first
          | (exfalso; simp only [decide_eq_true_eq, decide_eq_false_iff_not, bne_iff_ne, bne_eq_false_iff_eq] at T1 T2 T3 T4 T5; omega)
          | (exfalso
             simp only [decide_eq_true_eq, decide_eq_false_iff_not, bne_iff_ne, bne_eq_false_iff_eq] at T1 T2 T3 T4 T5
             simp [okC, lowI, resI, K0] at ok
             omega)
          | skip
        all_goals
          have KI := KK.out
          rw [K0] at KI
          have OK := Lib.hid ok
          clear ok K0
          go_wp2
          first
            | (go_ret; refine RetB.mk (bad.out OK.out).symm (below_iter _ _ _))
            | (go_roundw
               case rel => exact ⟨k + 1, by omega, rfl, good.out OK.out⟩
               case measure => simp; omega)
      · have hnx := fun ty => run_next_any (P := Tryd.prog) w s k ty hlt
        have hd := (decode_high s k hlt (by omega)).1
        have OK : Hid (okC k ((s[k]'hlt).toNat : Int) = false) := by
          simp [Hid, okC, lowI, resI]
          have := (s[k]'hlt).toNat_lt
          omega
        generalize Utf8.decode s k = dd at hnx hd
        obtain ⟨r, d⟩ := dd
        simp only at hnx hd
        have T1 : decide ((r : Int) < 97) = false := by simp; omega
        have T2 : decide (122 < (r : Int)) = true := by simp; omega
        have T3 : decide ((r : Int) < 48) = false := by simp; omega
        have T4 : decide (57 < (r : Int)) = true := by simp; omega
        have T5 : ((r : Int) != 95) = true := by simp; omega
        cases K0 : (k == 0)
        all_goals
          have KI := KK.out
          rw [K0] at KI
          clear K0
          go_wp2
          go_ret
          exact RetB.mk (bad.out OK.out).symm (below_iter _ _ _)
    · have HE : Hid (nameGo true s.data.toList = true) := by rw [Hid, hh.out, nameGo_end _ _ _ (by simp; omega)]
      have hnx := fun ty => run_next_end (P := Tryd.prog) w s k ty hlt
      clear hh
      by_cases h1 : 1 ≤ s.size
      · by_cases h2 : s.size ≤ 40
        · have h1' : decide ((1 : Int) ≤ (s.size : Int)) = true := by simp; omega
          have h2' : decide ((s.size : Int) ≤ 40) = true := by simp; omega
          have HN : Hid (nameB s = !hasB reserved s) := by rw [Hid, nameB, HE.out]; simp [h1, h2]
          go_wp2_with (go_at_call 49; refine (slicesContainsS _ reserved s _ (lit_reserved (w.iter s k)) (by decide)).mono ?_; rintro e w' ⟨rfl, rfl⟩)
          go_ret
          exact RetB.mk HN.out.symm ((below_iter w s k).trans ((below_alloc _ _).mono (below_iter w s k).size))
        · have h2' : decide ((s.size : Int) ≤ 40) = false := by simp; omega
          have HN : Hid (nameB s = false) := by rw [Hid, nameB, HE.out]; simp [h2]
          go_wp2
          go_ret
          exact RetB.mk HN.out.symm (below_iter _ _ _)
      · have h1' : decide ((1 : Int) ≤ (s.size : Int)) = false := by simp; omega
        have HN : Hid (nameB s = false) := by rw [Hid, nameB, HE.out]; simp [h1]
        go_wp2
        go_ret
        exact RetB.mk HN.out.symm (below_iter _ _ _)

end Go.Proofs.YtnjopfjmepbpoaaDoor

/- Walks: first, IndexFunc, ContainsFunc. -/
namespace Go.Proofs.YtnjopfjmepbpoaaDoor
set_option linter.unusedSimpArgs false
set_option linter.unusedVariables false
set_option linter.unnecessarySimpa false
open Go.RowKit

/-- A rule: the number of its function, what it captured, whether it is broken, its error. -/
structure Rule where
  f : Nat
  caps : Array Value
  b : Bool
  e : Int
def ruleC (r : Rule) : List Value := [.func (.func r.f) #[] r.caps, .int .i64 r.e]
def Rules (w : World) (v : Value) (rs : List Rule) : Prop := RdS w v 2 (rs.map ruleC)

theorem Rules.open {w : World} {v : Value} {l : List Rule} (h : Rules w v l) : ∃ a cap b off, v = .slice a l.length cap ∧ l.length ≤ cap ∧ cap ≤ maxLen ∧
    (0 < l.length → a = some ⟨b, off, none⟩) ∧ Hid (∀ i x, l[i]? = some x → w.cell? ⟨b, off + i * 2, none⟩ = some (.func (.func x.f) #[] x.caps) ∧ w.cell? ⟨b, off + i * 2 + 1, none⟩ = some (.int .i64 x.e)) := by
  obtain ⟨a, cap, b, off, h1, h2, h3, h4, h5⟩ := h
  simp only [List.length_map] at h1 h2 h4
  refine ⟨a, cap, b, off, h1, h2, h3, h4, fun i x hx => ?_⟩
  have e : (l.map ruleC)[i]? = some (ruleC x) := by simp [hx]
  exact ⟨h5 i 0 _ _ e rfl, h5 i 1 _ _ e rfl⟩

def CallOk (f : Nat) : Prop := ∀ (args : Array Value) (w : World), (callFunc f args).run Tryd.prog w = .ok (.enter f args) w

set_option maxRecDepth 100000 in
set_option maxHeartbeats 400000 in
theorem attrFirst (v : Value) (rs : List Rule) (w : World) (hv : Rules w v rs) (hl : rs.length ≤ 1000) (hcf : Hid (∀ r ∈ rs, CallOk r.f))
    (hr : Hid (∀ r ∈ rs, ∀ w', Below w.heap.size w w' → Calls Tryd.prog r.f r.caps w' (RetB w' r.b))) :
    Calls Tryd.prog 43 #[v] w (RetI w (firstE (rs.map fun r => (r.b, r.e)))) := by
  obtain ⟨a, cap, b, off, rfl, hcap, hm, ha, hc⟩ := hv.open
  clear hv
  go_enter Tryd.func43, Tryd.ntmps43
  go_wp2
  go_loopw [7] (fun i wr => ∃ k : Nat, k ≤ rs.length ∧ i = .int .i64 k ∧ Below w.heap.size w wr ∧ Hid (firstE (rs.map fun r => (r.b, r.e)) = firstE ((rs.map fun r => (r.b, r.e)).drop k))) (fun i _ => rs.length - (intOf i).toNat)
  case atStart => exact ⟨0, by omega, rfl, Below.refl _ _, rfl⟩
  case round =>
    obtain ⟨k, hk, rfl, hb, hh⟩ := hrel
    by_cases hlt : k < rs.length
    · obtain ⟨y, hy⟩ := ints_get rs k (by omega)
      obtain ⟨c0', c1'⟩ := hc.out k y hy
      have c0 := below_cell hb c0'
      have c1 := below_cell hb c1'
      clear c0' c1'
      obtain rfl := ha (by omega)
      have hm := List.mem_of_getElem? hy
      have H : Hid (_ = _) := firstE_drop (rs.map fun r => (r.b, r.e)) k y.b y.e (by simp [hy])
      have hcf1 := hcf.out y hm
      have hr1 : Hid (∀ w', Below w.heap.size w w' → Calls Tryd.prog y.f y.caps w' (RetB w' y.b)) := hr.out y hm
      have hbl := World.block_lt_of_cell? _ _ c0
      clear hr hcf
      obtain ⟨yf, yc, yb, ye⟩ := y
      simp only at hcf1 c0 c1 H hr1
      unfold CallOk at hcf1
      clear ha hy hm hc
      cases yb
      · go_wp2_with fail
        refine (hr1.out _ (hb.trans ((below_alloc _ _).mono hb.size))).mono ?_
        rintro e w1 ⟨rfl, hb1⟩
        go_wp2
        go_roundw
        case rel => exact ⟨k + 1, by omega, by go_num, (hb.trans ((below_alloc _ _).mono hb.size)).trans (hb1.mono (by have := hb.size; simp; omega)), by rw [Hid, hh.out, H.out]; rfl⟩
        case measure => simp [intOf]; omega
      · go_wp2_with fail
        refine (hr1.out _ (hb.trans ((below_alloc _ _).mono hb.size))).mono ?_
        rintro e w1 ⟨rfl, hb1⟩
        have d1 : w1.cell? ⟨wr.heap.size, 1, none⟩ = some (.int .i64 ye) := below_cell hb1 (by simp)
        go_wp2
        go_ret
        exact RetI.mk (by rw [hh.out, H.out]; rfl) ((hb.trans ((below_alloc _ _).mono hb.size)).trans (hb1.mono (by have := hb.size; simp; omega)))
    · go_wp2
      go_ret
      exact RetI.mk (by rw [hh.out, firstE_end _ _ (by simp; omega)]) hb

set_option maxRecDepth 100000 in
set_option maxHeartbeats 400000 in
theorem indexAttr (v : Value) (l : List PAttr) (F g : Nat) (p : PAttr → Bool) (w : World) (hv : Attrs w v l) (hl : l.length ≤ 1000000000) (hcf : CallOk F)
    (hr : Hid (∀ x ∈ l, ∀ w', Below w.heap.size w w' → Calls Tryd.prog F #[attrV x, .pointer (some ⟨g, 0, none⟩)] w' (RetB w' (p x)))) :
    Calls Tryd.prog 58 #[v, .func (.func F) #[] #[.pointer (some ⟨g, 0, none⟩)]] w (RetI w (idxB (l.map p))) := by
  obtain ⟨a, cap, b, off, rfl, hcap, hm, ha, hc⟩ := hv.open
  unfold CallOk at hcf
  clear hv
  go_enter Tryd.func58, Tryd.ntmps58
  go_wp2
  go_loopw [8] (fun i wr => ∃ k : Nat, k ≤ l.length ∧ i = .int .i64 k ∧ Below w.heap.size w wr ∧ Hid (idxB (l.map p) = idxGo ((l.map p).drop k) k)) (fun i _ => l.length - (intOf i).toNat)
  case atStart => exact ⟨0, by omega, rfl, Below.refl _ _, rfl⟩
  case round =>
    obtain ⟨k, hk, rfl, hb, hh⟩ := hrel
    by_cases hlt : k < l.length
    · obtain ⟨y, hy⟩ := ints_get l k (by omega)
      obtain ⟨c0, c1, c2, c3⟩ := (hc.out k y hy).below hb
      obtain rfl := ha (by omega)
      have hm := List.mem_of_getElem? hy
      have H : Hid (_ = _) := idxGo_drop (l.map p) k (p y) (by simp [hy])
      have hr1 : Hid (∀ w', Below w.heap.size w w' → Calls Tryd.prog F #[attrV y, .pointer (some ⟨g, 0, none⟩)] w' (RetB w' (p y))) := hr.out y hm
      unfold attrV at hr1
      clear hr ha hy hm hc
      cases e : p y
      · have E := Lib.hid e
        clear e
        go_wp2_with fail
        refine (hr1.out _ hb).mono ?_
        rintro e w1 ⟨rfl, hb1⟩
        rw [E.out]
        go_wp2
        go_roundw
        case rel => exact ⟨k + 1, by omega, by go_num, hb.trans (hb1.mono hb.size), by rw [Hid, hh.out, H.out, E.out]; rfl⟩
        case measure => simp [intOf]; omega
      · have E := Lib.hid e
        clear e
        go_wp2_with fail
        refine (hr1.out _ hb).mono ?_
        rintro e w1 ⟨rfl, hb1⟩
        rw [E.out]
        go_wp2
        go_ret
        exact RetI.mk (by rw [hh.out, H.out, E.out]; rfl) (hb.trans (hb1.mono hb.size))
    · go_wp2
      go_ret
      exact RetI.mk (by rw [hh.out, idxGo_end _ _ (by simp; omega)]) hb

set_option maxRecDepth 100000 in
set_option maxHeartbeats 400000 in
theorem indexDef (v : Value) (l : List PDef) (F g : Nat) (p : PDef → Bool) (w : World) (hv : Defs w v l) (hl : l.length ≤ 1000000000) (hcf : CallOk F)
    (hr : Hid (∀ x ∈ l, ∀ wv, ∀ w', Below w.heap.size w w' → Calls Tryd.prog F #[defV x wv, .pointer (some ⟨g, 0, none⟩)] w' (RetB w' (p x)))) :
    Calls Tryd.prog 51 #[v, .func (.func F) #[] #[.pointer (some ⟨g, 0, none⟩)]] w (RetI w (idxB (l.map p))) := by
  obtain ⟨a, cap, b, off, rfl, hcap, hm, ha, hc⟩ := hv.open
  unfold CallOk at hcf
  clear hv
  go_enter Tryd.func51, Tryd.ntmps51
  go_wp2
  go_loopw [8] (fun i wr => ∃ k : Nat, k ≤ l.length ∧ i = .int .i64 k ∧ Below w.heap.size w wr ∧ Hid (idxB (l.map p) = idxGo ((l.map p).drop k) k)) (fun i _ => l.length - (intOf i).toNat)
  case atStart => exact ⟨0, by omega, rfl, Below.refl _ _, rfl⟩
  case round =>
    obtain ⟨k, hk, rfl, hb, hh⟩ := hrel
    by_cases hlt : k < l.length
    · obtain ⟨y, hy⟩ := ints_get l k (by omega)
      obtain ⟨wv, hd, hs⟩ := hc.out k y hy
      obtain ⟨c0, c1, c2, c3, c4⟩ := hd.below hb
      clear hd hs
      obtain rfl := ha (by omega)
      have hm := List.mem_of_getElem? hy
      have H : Hid (_ = _) := idxGo_drop (l.map p) k (p y) (by simp [hy])
      have hr1 : Hid (∀ w', Below w.heap.size w w' → Calls Tryd.prog F #[defV y wv, .pointer (some ⟨g, 0, none⟩)] w' (RetB w' (p y))) := hr.out y hm wv
      unfold defV at hr1
      clear hr ha hy hm hc
      cases e : p y
      · have E := Lib.hid e
        clear e
        go_wp2_with fail
        refine (hr1.out _ hb).mono ?_
        rintro e w1 ⟨rfl, hb1⟩
        rw [E.out]
        go_wp2
        go_roundw
        case rel => exact ⟨k + 1, by omega, by go_num, hb.trans (hb1.mono hb.size), by rw [Hid, hh.out, H.out, E.out]; rfl⟩
        case measure => simp [intOf]; omega
      · have E := Lib.hid e
        clear e
        go_wp2_with fail
        refine (hr1.out _ hb).mono ?_
        rintro e w1 ⟨rfl, hb1⟩
        rw [E.out]
        go_wp2
        go_ret
        exact RetI.mk (by rw [hh.out, H.out, E.out]; rfl) (hb.trans (hb1.mono hb.size))
    · go_wp2
      go_ret
      exact RetI.mk (by rw [hh.out, idxGo_end _ _ (by simp; omega)]) hb

set_option maxRecDepth 100000 in
set_option maxHeartbeats 400000 in
theorem indexStr (v : Value) (l : List ByteArray) (F : Nat) (p : ByteArray → Bool) (w : World) (hv : Strs w v l) (hl : l.length ≤ 1000000000) (hcf : CallOk F)
    (hr : Hid (∀ x ∈ l, ∀ w', Below w.heap.size w w' → Calls Tryd.prog F #[.string x] w' (RetB w' (p x)))) :
    Calls Tryd.prog 105 #[v, .func (.func F) #[] #[]] w (RetI w (idxB (l.map p))) := by
  obtain ⟨a, cap, b, off, rfl, hcap, hm, ha, hc⟩ := hv.open
  unfold CallOk at hcf
  clear hv
  go_enter Tryd.func105, Tryd.ntmps105
  go_wp2
  go_loopw [8] (fun i wr => ∃ k : Nat, k ≤ l.length ∧ i = .int .i64 k ∧ Below w.heap.size w wr ∧ Hid (idxB (l.map p) = idxGo ((l.map p).drop k) k)) (fun i _ => l.length - (intOf i).toNat)
  case atStart => exact ⟨0, by omega, rfl, Below.refl _ _, rfl⟩
  case round =>
    obtain ⟨k, hk, rfl, hb, hh⟩ := hrel
    by_cases hlt : k < l.length
    · obtain ⟨y, hy⟩ := ints_get l k (by omega)
      have c0 := below_cell hb (hc.out k y hy)
      obtain rfl := ha (by omega)
      have hm := List.mem_of_getElem? hy
      have H : Hid (_ = _) := idxGo_drop (l.map p) k (p y) (by simp [hy])
      have hr1 : Hid (∀ w', Below w.heap.size w w' → Calls Tryd.prog F #[.string y] w' (RetB w' (p y))) := hr.out y hm
      clear hr ha hy hm hc
      cases e : p y
      · have E := Lib.hid e
        clear e
        go_wp2_with fail
        refine (hr1.out _ hb).mono ?_
        rintro e w1 ⟨rfl, hb1⟩
        rw [E.out]
        go_wp2
        go_roundw
        case rel => exact ⟨k + 1, by omega, by go_num, hb.trans (hb1.mono hb.size), by rw [Hid, hh.out, H.out, E.out]; rfl⟩
        case measure => simp [intOf]; omega
      · have E := Lib.hid e
        clear e
        go_wp2_with fail
        refine (hr1.out _ hb).mono ?_
        rintro e w1 ⟨rfl, hb1⟩
        rw [E.out]
        go_wp2
        go_ret
        exact RetI.mk (by rw [hh.out, H.out, E.out]; rfl) (hb.trans (hb1.mono hb.size))
    · go_wp2
      go_ret
      exact RetI.mk (by rw [hh.out, idxGo_end _ _ (by simp; omega)]) hb

set_option maxRecDepth 100000 in
set_option maxHeartbeats 400000 in
theorem containsStr (v : Value) (l : List ByteArray) (F : Nat) (p : ByteArray → Bool) (w : World) (hv : Strs w v l) (hl : l.length ≤ 1000000000) (hcf : CallOk F)
    (hr : Hid (∀ x ∈ l, ∀ w', Below w.heap.size w w' → Calls Tryd.prog F #[.string x] w' (RetB w' (p x)))) :
    Calls Tryd.prog 94 #[v, .func (.func F) #[] #[]] w (RetB w (l.any p)) := by
  have H : Hid (decide (0 ≤ idxB (l.map p)) = l.any p) := by rw [Hid, idxB_any, List.any_map]; rfl
  have HCF := Lib.hid hcf
  clear hcf
  go_enter Tryd.func94, Tryd.ntmps94
  go_wp2_with (go_at_call 105; refine (indexStr _ l F p _ hv hl HCF.out hr).mono ?_; rintro e w' ⟨rfl, hb⟩)
  go_ret
  exact RetB.mk H.out hb

end Go.Proofs.YtnjopfjmepbpoaaDoor

/- Walks: the rules of a definition, def. -/
namespace Go.Proofs.YtnjopfjmepbpoaaDoor
set_option linter.unusedSimpArgs false
set_option linter.unusedVariables false
set_option linter.unnecessarySimpa false
open Go.RowKit

def SmallD (d : PDef) : Prop := d.name.size ≤ 1000 ∧ d.words.length ≤ 1000 ∧ ∀ s ∈ d.words, s.size ≤ 1000

theorem def1 (g : Nat) (d : PDef) (wv : Value) (w : World) (hd : DefAt w g 0 d wv) (hs : d.name.size ≤ 1000) : Calls Tryd.prog 86 #[.pointer (some ⟨g, 0, none⟩)] w (RetB w (!nameB d.name)) := by
  obtain ⟨c0, c1, c2, c3, c4⟩ := hd
  go_enter Tryd.func86, Tryd.ntmps86
  go_wp2_with (go_at_call 18; refine (attrName _ _ (by omega)).mono ?_; rintro e w' ⟨rfl, hb⟩)
  go_ret
  exact RetB.mk rfl hb

theorem def2 (g h : Nat) (d : PDef) (wv : Value) (bf : ByteArray) (w : World) (hd : DefAt w g 0 d wv) (c5 : w.cell? ⟨h, 0, none⟩ = some (.string bf)) :
    Calls Tryd.prog 87 #[.pointer (some ⟨g, 0, none⟩), .pointer (some ⟨h, 0, none⟩)] w (RetB w (leqB d.name bf)) := by
  obtain ⟨c0, c1, c2, c3, c4⟩ := hd
  go_enter Tryd.func87, Tryd.ntmps87
  go_wp2
  go_ret
  exact RetB.mk rfl (Below.refl _ _)

def kindBad (d : PDef) : Bool := d.kind != 1 && d.kind != 2
theorem def3 (g : Nat) (d : PDef) (wv : Value) (w : World) (hd : DefAt w g 0 d wv) : Calls Tryd.prog 88 #[.pointer (some ⟨g, 0, none⟩)] w (RetB w (kindBad d)) := by
  obtain ⟨c0, c1, c2, c3, c4⟩ := hd
  cases e : d.kind != 1
  all_goals
    go_enter Tryd.func88, Tryd.ntmps88
    go_wp2
    go_ret
    exact RetB.mk (by simp [kindBad, e]) (Below.refl _ _)

def rangeBad (d : PDef) : Bool := decide (d.lo < -1099511627776) || (decide (1099511627776 < d.hi) || decide (d.hi < d.lo))
theorem def4 (g : Nat) (d : PDef) (wv : Value) (w : World) (hd : DefAt w g 0 d wv) : Calls Tryd.prog 89 #[.pointer (some ⟨g, 0, none⟩)] w (RetB w (rangeBad d)) := by
  obtain ⟨c0, c1, c2, c3, c4⟩ := hd
  cases e : decide (d.lo < -1099511627776) <;> cases e2 : decide (1099511627776 < d.hi)
  all_goals
    go_enter Tryd.func89, Tryd.ntmps89
    go_wp2
    go_ret
    exact RetB.mk (by simp [rangeBad, e, e2]) (Below.refl _ _)

theorem def5 (g : Nat) (d : PDef) (wv : Value) (w : World) (hd : DefAt w g 0 d wv) (hs : Strs w wv d.words) (hl : d.words.length ≤ 1000) : Calls Tryd.prog 90 #[.pointer (some ⟨g, 0, none⟩)] w (RetB w (decide (0 < d.words.length))) := by
  obtain ⟨c0, c1, c2, c3, c4⟩ := hd
  obtain ⟨a, cap, b, off, rfl, -⟩ := hs.open
  go_enter Tryd.func90, Tryd.ntmps90
  go_wp2
  go_ret
  exact RetB.mk (by first | rfl | simp) (Below.refl _ _)

def formBad (d : PDef) : Bool := d.lo != 0 || d.hi != 0
theorem def6 (g : Nat) (d : PDef) (wv : Value) (w : World) (hd : DefAt w g 0 d wv) : Calls Tryd.prog 91 #[.pointer (some ⟨g, 0, none⟩)] w (RetB w (formBad d)) := by
  obtain ⟨c0, c1, c2, c3, c4⟩ := hd
  cases e : d.lo != 0
  all_goals
    go_enter Tryd.func91, Tryd.ntmps91
    go_wp2
    go_ret
    exact RetB.mk (by simp [formBad, e]) (Below.refl _ _)

def manyBad (d : PDef) : Bool := decide (d.words.length < 1) || decide (50 < d.words.length)
theorem def7 (g : Nat) (d : PDef) (wv : Value) (w : World) (hd : DefAt w g 0 d wv) (hs : Strs w wv d.words) (hl : d.words.length ≤ 1000) : Calls Tryd.prog 92 #[.pointer (some ⟨g, 0, none⟩)] w (RetB w (manyBad d)) := by
  obtain ⟨c0, c1, c2, c3, c4⟩ := hd
  obtain ⟨a, cap, b, off, rfl, -⟩ := hs.open
  cases e : decide (d.words.length < 1) <;> cases e2 : decide (50 < d.words.length)
  all_goals
    have e' : decide ((d.words.length : Int) < 1) = decide (d.words.length < 1) := by rw [Bool.eq_iff_iff]; simp only [decide_eq_true_eq]; omega
    have e2' : decide ((50 : Int) < (d.words.length : Int)) = decide (50 < d.words.length) := by rw [Bool.eq_iff_iff]; simp only [decide_eq_true_eq]; omega
    rw [e] at e'
    rw [e2] at e2'
    have E := Lib.hid e
    have E2 := Lib.hid e2
    clear e e2
    go_enter Tryd.func92, Tryd.ntmps92
    go_wp2
    go_ret
    exact RetB.mk (by simp only [manyBad, E.out, E2.out]; first | rfl | simp_all) (Below.refl _ _)

theorem callD81 : CallOk 95 := fun _ _ => by kernel_rfl
theorem def81 (s : ByteArray) (w : World) (hs : s.size ≤ 1000) : Calls Tryd.prog 95 #[.string s] w (RetB w (!nameB s)) := by
  go_enter Tryd.func95, Tryd.ntmps95
  go_wp2_with (go_at_call 18; refine (attrName _ _ (by omega)).mono ?_; rintro e w' ⟨rfl, hb⟩)
  go_ret
  exact RetB.mk rfl hb

theorem def8 (g : Nat) (d : PDef) (wv : Value) (w : World) (hd : DefAt w g 0 d wv) (hs : Strs w wv d.words) (hl : d.words.length ≤ 1000) (hsm : Hid (∀ s ∈ d.words, s.size ≤ 1000)) :
    Calls Tryd.prog 93 #[.pointer (some ⟨g, 0, none⟩)] w (RetB w (d.words.any fun s => !nameB s)) := by
  obtain ⟨c0, c1, c2, c3, c4⟩ := hd
  go_enter Tryd.func93, Tryd.ntmps93
  go_wp2_with (go_at_call 94; refine (containsStr _ d.words _ (fun s => !nameB s) _ hs (by omega) callD81 (fun x hx w' _ => def81 x w' (hsm.out x hx))).mono ?_; rintro e w' ⟨rfl, hb⟩)
  go_ret
  exact RetB.mk rfl hb

theorem def9 (g : Nat) (d : PDef) (wv : Value) (w : World) (hd : DefAt w g 0 d wv) (hs : Strs w wv d.words) (hl : d.words.length ≤ 1000) : Calls Tryd.prog 96 #[.pointer (some ⟨g, 0, none⟩)] w (RetB w (!riseB d.words)) := by
  obtain ⟨c0, c1, c2, c3, c4⟩ := hd
  go_enter Tryd.func96, Tryd.ntmps96
  go_wp2_with (go_at_call 97; refine (attrRising _ d.words _ hs (by omega)).mono ?_; rintro e w' ⟨rfl, n, rfl⟩)
  go_ret
  exact RetB.mk rfl (below_drewN _ _)

theorem cD1 : CallOk 86 := fun _ _ => by kernel_rfl
theorem cD2 : CallOk 87 := fun _ _ => by kernel_rfl
theorem cD3 : CallOk 88 := fun _ _ => by kernel_rfl
theorem cD4 : CallOk 89 := fun _ _ => by kernel_rfl
theorem cD5 : CallOk 90 := fun _ _ => by kernel_rfl
theorem cD6 : CallOk 91 := fun _ _ => by kernel_rfl
theorem cD7 : CallOk 92 := fun _ _ => by kernel_rfl
theorem cD8 : CallOk 93 := fun _ _ => by kernel_rfl
theorem cD9 : CallOk 96 := fun _ _ => by kernel_rfl

end Go.Proofs.YtnjopfjmepbpoaaDoor

/- Walks: def, Check of attr. -/
namespace Go.Proofs.YtnjopfjmepbpoaaDoor
set_option linter.unusedSimpArgs false
set_option linter.unusedVariables false
set_option linter.unnecessarySimpa false
open Go.RowKit

theorem flat_get {α : Type} (k : Nat) : ∀ (rows : List (List α)), (∀ r ∈ rows, r.length = k) → ∀ (i j : Nat) (r : List α) (u : α), rows[i]? = some r → r[j]? = some u → rows.flatten[i * k + j]? = some u
  | [], _, i, j, r, u, h, _ => by simp at h
  | x :: xs, hk, 0, j, r, u, h, hu => by
    simp at h; subst h
    have hj : j < x.length := (List.getElem?_eq_some_iff.1 hu).1
    rw [List.flatten_cons, Nat.zero_mul, Nat.zero_add, List.getElem?_append_left hj]
    exact hu
  | x :: xs, hk, i + 1, j, r, u, h, hu => by
    have hx := hk x (by simp)
    rw [List.flatten_cons, List.getElem?_append_right (by rw [hx, Nat.succ_mul]; omega), hx]
    have e : (i + 1) * k + j - k = i * k + j := by rw [Nat.succ_mul]; omega
    rw [e]
    exact flat_get k xs (fun r hr => hk r (by simp [hr])) i j r u (by simpa using h) hu

theorem RdS.lit (w : World) (k : Nat) (rows : List (List Value)) (hk : ∀ r ∈ rows, r.length = k) (T : TypeId) (hm : rows.length ≤ maxLen) :
    RdS (w.alloc (.cells rows.flatten.toArray T)) (.slice (some ⟨w.heap.size, 0, none⟩) rows.length rows.length) k rows := by
  refine ⟨_, _, w.heap.size, 0, rfl, Nat.le_refl _, hm, fun _ => rfl, fun i j r u hr hu => ?_⟩
  have := flat_get k rows hk i j r u hr hu
  rw [← this]
  simp [cell_of_row _ _ _ _ _ (0, 0) (heap_alloc_new w (.cells rows.flatten.toArray T))]

theorem Rules.lit (w : World) (rs : List Rule) (T : TypeId) (hm : rs.length ≤ 1000) : Rules (w.alloc (.cells (rs.map ruleC).flatten.toArray T)) (.slice (some ⟨w.heap.size, 0, none⟩) rs.length rs.length) rs := by
  have := RdS.lit w 2 (rs.map ruleC) (by intro r hr; obtain ⟨x, _, rfl⟩ := List.mem_map.1 hr; rfl) T (by simp [maxLen]; omega)
  simpa [Rules] using this

theorem Rules.mk {w : World} {g n : Nat} {T : TypeId} {cs : Array Value} (rs : List Rule) (hm : rs.length ≤ 1000) (hg : g = w.heap.size) (hn : n = rs.length) (hcs : cs = (rs.map ruleC).flatten.toArray) :
    Rules (w.alloc (.cells cs T)) (.slice (some ⟨g, 0, none⟩) n n) rs := by
  subst hg hn hcs
  exact Rules.lit w rs T hm

def defA (d : PDef) (bf : ByteArray) : List (Bool × Int) := [(!nameB d.name, 5), (leqB d.name bf, 6), (kindBad d, 130)]
def defBI (d : PDef) : List (Bool × Int) := [(rangeBad d, 131), (decide (0 < d.words.length), 3)]
def defBW (d : PDef) : List (Bool × Int) := [(formBad d, 3), (manyBad d, 2), (d.words.any fun s => !nameB s, 5), (!riseB d.words, 6)]

theorem defE_bad (d : PDef) (bf : ByteArray) (h : firstE (defA d bf) ≠ 0) : defE d bf = firstE (defA d bf) := by
  unfold defE
  revert h
  simp only [defA, firstE, kindBad]
  cases nameB d.name <;> cases leqB d.name bf <;> simp <;> (try (intro h1 h2; rw [if_neg h1, if_neg h2, if_pos ⟨h1, h2⟩]))
theorem defE_int (d : PDef) (bf : ByteArray) (h : firstE (defA d bf) = 0) (hk : d.kind = 1) : defE d bf = firstE (defBI d) := by
  unfold defE
  revert h
  simp only [defA, firstE, kindBad, defBI, rangeBad]
  cases nameB d.name <;> cases leqB d.name bf <;> simp [hk]
theorem defE_word (d : PDef) (bf : ByteArray) (h : firstE (defA d bf) = 0) (hk : d.kind ≠ 1) : defE d bf = firstE (defBW d) := by
  unfold defE
  revert h
  simp only [defA, firstE, kindBad, defBW, formBad, manyBad, wordsE]
  cases nameB d.name <;> cases leqB d.name bf <;> simp [hk]
  intro h2'
  cases riseB d.words <;> simp [h2']

theorem DefAt.box (w : World) (d : PDef) (wv : Value) (T : TypeId) : DefAt (w.alloc (.cells #[.string d.name, .int .i64 d.kind, .int .i64 d.lo, .int .i64 d.hi, wv] T)) w.heap.size 0 d wv := by
  refine ⟨?_, ?_, ?_, ?_, ?_⟩ <;> simp

theorem below_two (w : World) (o p : Obj) : Below w.heap.size w ((w.alloc o).alloc p) := (below_alloc w o).trans ((below_alloc _ p).mono (below_alloc w o).size)
theorem below_three (w : World) (o p q : Obj) : Below w.heap.size w (((w.alloc o).alloc p).alloc q) := (below_two w o p).trans ((below_alloc _ q).mono (below_two w o p).size)

theorem blift {w w1 w2 : World} (h : Below w.heap.size w w1) (h2 : Below w1.heap.size w1 w2) : Below w.heap.size w w2 := h.trans (h2.mono h.size)

/-- What the rules of a definition find: the definition in one box, the name before in another. -/
def EnvD (d : PDef) (wv : Value) (bf : ByteArray) (g h : Nat) (w : World) : Prop := DefAt w g 0 d wv ∧ Strs w wv d.words ∧ w.cell? ⟨h, 0, none⟩ = some (.string bf)
theorem EnvD.below {d : PDef} {wv : Value} {bf : ByteArray} {g h : Nat} {w w' : World} (e : EnvD d wv bf g h w) (hb : Below w.heap.size w w') : EnvD d wv bf g h w' :=
  ⟨e.1.below hb, e.2.1.below hb, below_cell hb e.2.2⟩

def rulesA (d : PDef) (bf : ByteArray) (g h : Nat) : List Rule := [⟨86, #[.pointer (some ⟨g, 0, none⟩)], !nameB d.name, 5⟩, ⟨87, #[.pointer (some ⟨g, 0, none⟩), .pointer (some ⟨h, 0, none⟩)], leqB d.name bf, 6⟩, ⟨88, #[.pointer (some ⟨g, 0, none⟩)], kindBad d, 130⟩]
def rulesBI (d : PDef) (g : Nat) : List Rule := [⟨89, #[.pointer (some ⟨g, 0, none⟩)], rangeBad d, 131⟩, ⟨90, #[.pointer (some ⟨g, 0, none⟩)], decide (0 < d.words.length), 3⟩]
def rulesBW (d : PDef) (g : Nat) : List Rule := [⟨91, #[.pointer (some ⟨g, 0, none⟩)], formBad d, 3⟩, ⟨92, #[.pointer (some ⟨g, 0, none⟩)], manyBad d, 2⟩, ⟨93, #[.pointer (some ⟨g, 0, none⟩)], d.words.any fun s => !nameB s, 5⟩, ⟨96, #[.pointer (some ⟨g, 0, none⟩)], !riseB d.words, 6⟩]

theorem runA {d : PDef} {wv : Value} {bf : ByteArray} {g h : Nat} {w : World} (e : EnvD d wv bf g h w) (hs : SmallD d) (v : Value) (hv : Rules w v (rulesA d bf g h)) :
    Calls Tryd.prog 43 #[v] w (RetI w (firstE (defA d bf))) := by
  refine attrFirst v (rulesA d bf g h) w hv (Nat.le_of_ble_eq_true rfl) ?_ ?_
  · intro r hr
    simp only [rulesA, List.mem_cons, List.not_mem_nil, or_false] at hr
    rcases hr with rfl | rfl | rfl
    · exact cD1
    · exact cD2
    · exact cD3
  · intro r hr w' hb
    have e' := e.below hb
    simp only [rulesA, List.mem_cons, List.not_mem_nil, or_false] at hr
    rcases hr with rfl | rfl | rfl
    · exact def1 g d wv w' e'.1 hs.1
    · exact def2 g h d wv bf w' e'.1 e'.2.2
    · exact def3 g d wv w' e'.1

theorem runBI {d : PDef} {wv : Value} {bf : ByteArray} {g h : Nat} {w : World} (e : EnvD d wv bf g h w) (hs : SmallD d) (v : Value) (hv : Rules w v (rulesBI d g)) :
    Calls Tryd.prog 43 #[v] w (RetI w (firstE (defBI d))) := by
  refine attrFirst v (rulesBI d g) w hv (Nat.le_of_ble_eq_true rfl) ?_ ?_
  · intro r hr
    simp only [rulesBI, List.mem_cons, List.not_mem_nil, or_false] at hr
    rcases hr with rfl | rfl
    · exact cD4
    · exact cD5
  · intro r hr w' hb
    have e' := e.below hb
    simp only [rulesBI, List.mem_cons, List.not_mem_nil, or_false] at hr
    rcases hr with rfl | rfl
    · exact def4 g d wv w' e'.1
    · exact def5 g d wv w' e'.1 e'.2.1 hs.2.1

theorem runBW {d : PDef} {wv : Value} {bf : ByteArray} {g h : Nat} {w : World} (e : EnvD d wv bf g h w) (hs : SmallD d) (v : Value) (hv : Rules w v (rulesBW d g)) :
    Calls Tryd.prog 43 #[v] w (RetI w (firstE (defBW d))) := by
  refine attrFirst v (rulesBW d g) w hv (Nat.le_of_ble_eq_true rfl) ?_ ?_
  · intro r hr
    simp only [rulesBW, List.mem_cons, List.not_mem_nil, or_false] at hr
    rcases hr with rfl | rfl | rfl | rfl
    · exact cD6
    · exact cD7
    · exact cD8
    · exact cD9
  · intro r hr w' hb
    have e' := e.below hb
    simp only [rulesBW, List.mem_cons, List.not_mem_nil, or_false] at hr
    rcases hr with rfl | rfl | rfl | rfl
    · exact def6 g d wv w' e'.1
    · exact def7 g d wv w' e'.1 e'.2.1 hs.2.1
    · exact def8 g d wv w' e'.1 e'.2.1 hs.2.1 hs.2.2
    · exact def9 g d wv w' e'.1 e'.2.1 hs.2.1

theorem EnvD.boxes (d : PDef) (wv : Value) (bf : ByteArray) (w : World) (hs : Strs w wv d.words) (o : Obj) :
    EnvD d wv bf w.heap.size (w.heap.size + 1) (((w.alloc (.cells #[.string d.name, .int .i64 d.kind, .int .i64 d.lo, .int .i64 d.hi, wv] 74)).alloc (.cells #[.string bf] 9)).alloc o) := by
  refine EnvD.below ⟨(DefAt.box w d wv _).below (below_alloc _ _), hs.below (below_two _ _ _), ?_⟩ (below_alloc _ _)
  have := cell_of_row _ _ 0 _ _ (0, 0) (heap_alloc_new (w.alloc (.cells #[.string d.name, .int .i64 d.kind, .int .i64 d.lo, .int .i64 d.hi, wv] 74)) (.cells #[.string bf] 9))
  simpa using this

set_option maxRecDepth 100000 in
set_option maxHeartbeats 1000000 in
theorem attrDef (d : PDef) (wv : Value) (bf : ByteArray) (w : World) (hs : Strs w wv d.words) (hsm : SmallD d) :
    Calls Tryd.prog 46 #[defV d wv, .string bf] w (RetI w (defE d bf)) := by
  have HE := Lib.hid (EnvD.boxes d wv bf w hs)
  have HS := Lib.hid hsm
  have HB := fun o => below_three w (.cells #[.string d.name, .int .i64 d.kind, .int .i64 d.lo, .int .i64 d.hi, wv] 74) (.cells #[.string bf] 9) o
  have HB := Lib.hid HB
  clear hs hsm
  unfold defV
  by_cases e1 : firstE (defA d bf) = 0
  · have E1 : (firstE (defA d bf) != 0) = false := by simpa using e1
    by_cases hk : d.kind = 1
    · have F := defE_int d bf e1 hk
      have K : (d.kind == 1) = true := by simpa using hk
      rw [F]
      clear F e1 hk
      go_enter Tryd.func46, Tryd.ntmps46
      go_wp2_with fail
      refine (runA (HE.out _) HS.out _ (Rules.mk (rulesA d bf _ _) (Nat.le_of_ble_eq_true rfl) (by simp) rfl rfl)).mono ?_
      rintro e w1 ⟨rfl, hb⟩
      have hE := Lib.hid ((HE.out _).below hb)
      have hB := Lib.hid (blift (HB.out _) hb)
      clear HE HB hb
      generalize firstE (defA d bf) = x1 at *
      have c1 := hE.out.1.2.1
      go_wp2_with fail
      refine (runBI (hE.out.below (below_alloc _ _)) HS.out _ (Rules.mk (rulesBI d _) (Nat.le_of_ble_eq_true rfl) (by simp) rfl rfl)).mono ?_
      rintro e w2 ⟨rfl, hb⟩
      go_wp2
      go_ret
      exact RetI.mk rfl (blift (blift hB.out (below_alloc _ _)) hb)
    · have F := defE_word d bf e1 hk
      have K : (d.kind == 1) = false := by simpa using hk
      rw [F]
      clear F e1 hk
      go_enter Tryd.func46, Tryd.ntmps46
      go_wp2_with fail
      refine (runA (HE.out _) HS.out _ (Rules.mk (rulesA d bf _ _) (Nat.le_of_ble_eq_true rfl) (by simp) rfl rfl)).mono ?_
      rintro e w1 ⟨rfl, hb⟩
      have hE := Lib.hid ((HE.out _).below hb)
      have hB := Lib.hid (blift (HB.out _) hb)
      clear HE HB hb
      generalize firstE (defA d bf) = x1 at *
      have c1 := hE.out.1.2.1
      go_wp2_with fail
      refine (runBW (hE.out.below (below_alloc _ _)) HS.out _ (Rules.mk (rulesBW d _) (Nat.le_of_ble_eq_true rfl) (by simp) rfl rfl)).mono ?_
      rintro e w2 ⟨rfl, hb⟩
      go_wp2
      go_ret
      exact RetI.mk rfl (blift (blift hB.out (below_alloc _ _)) hb)
  · have F := defE_bad d bf e1
    have E1 : (firstE (defA d bf) != 0) = true := by simpa using e1
    rw [F]
    clear F e1
    go_enter Tryd.func46, Tryd.ntmps46
    go_wp2_with fail
    refine (runA (HE.out _) HS.out _ (Rules.mk (rulesA d bf _ _) (Nat.le_of_ble_eq_true rfl) (by simp) rfl rfl)).mono ?_
    rintro e w1 ⟨rfl, hb⟩
    have hB := Lib.hid (blift (HB.out _) hb)
    clear HE HB hb
    generalize firstE (defA d bf) = x1 at *
    go_wp2
    go_ret
    exact RetI.mk rfl hB.out

end Go.Proofs.YtnjopfjmepbpoaaDoor

/- Walks: Check of attr. -/
namespace Go.Proofs.YtnjopfjmepbpoaaDoor
set_option linter.unusedSimpArgs false
set_option linter.unusedVariables false
set_option linter.unnecessarySimpa false
open Go.RowKit

def SmallS (s : PSchema) : Prop := s.defs.length ≤ 1000 ∧ ∀ d ∈ s.defs, SmallD d

def argBad (s : PSchema) : Bool := decide (s.dims < 1) || (decide (32 < s.dims) || (decide (s.metric < 1) || decide (3 < s.metric)))
def chkGo (x : Int) (b : ByteArray) (l : List PDef) : Int := if x ≠ 0 then x else defsE b l
theorem chkGo_drop (l : List PDef) (k : Nat) (b : ByteArray) (d : PDef) (h : l[k]? = some d) : chkGo 0 b (l.drop k) = chkGo (defE d b) d.name (l.drop (k+1)) := by
  obtain ⟨hk, rfl⟩ := List.getElem?_eq_some_iff.1 h
  rw [List.drop_eq_getElem_cons (by omega)]
  simp [chkGo, defsE]
theorem chkGo_end (l : List PDef) (k : Nat) (x : Int) (b : ByteArray) (h : l.length ≤ k) : chkGo x b (l.drop k) = x := by
  rw [List.drop_eq_nil_of_le h]
  simp [chkGo, defsE]
  intro h; exact h.symm
theorem chkGo_bad (x : Int) (b : ByteArray) (l : List PDef) (h : x ≠ 0) : chkGo x b l = x := by simp [chkGo, h]

theorem checkE_chk (s : PSchema) : checkE s = chkGo (firstE [(argBad s, 1), (decide (16 < s.defs.length), 2)]) ByteArray.empty s.defs := by
  unfold checkE chkGo
  simp only [firstE, argBad, Bool.or_eq_true, decide_eq_true_eq]
  by_cases h : s.dims < 1 ∨ 32 < s.dims ∨ s.metric < 1 ∨ 3 < s.metric
  · simp only [if_pos h]; simp
  · by_cases h2 : 16 < s.defs.length
    · simp only [if_neg h, if_pos h2]; simp
    · simp only [if_neg h, if_neg h2]; simp

/-- A schema in a box. -/
def SchAt (w : World) (g : Nat) (s : PSchema) (dv : Value) : Prop := w.cell? ⟨g, 0, none⟩ = some (.int .i64 s.dims) ∧ w.cell? ⟨g, 1, none⟩ = some (.int .i64 s.metric) ∧ w.cell? ⟨g, 2, none⟩ = some dv ∧ Defs w dv s.defs
theorem SchAt.below {w w' : World} {g : Nat} {s : PSchema} {dv : Value} (h : SchAt w g s dv) (hb : Below w.heap.size w w') : SchAt w' g s dv :=
  ⟨below_cell hb h.1, below_cell hb h.2.1, below_cell hb h.2.2.1, h.2.2.2.below hb⟩
theorem SchAt.box (w : World) (s : PSchema) (dv : Value) (T : TypeId) (h : Defs w dv s.defs) : SchAt (w.alloc (.cells #[.int .i64 s.dims, .int .i64 s.metric, dv] T)) w.heap.size s dv := by
  refine ⟨?_, ?_, ?_, h.below (below_alloc _ _)⟩ <;> simp

theorem check1 (g : Nat) (s : PSchema) (dv : Value) (w : World) (h : SchAt w g s dv) : Calls Tryd.prog 44 #[.pointer (some ⟨g, 0, none⟩)] w (RetB w (argBad s)) := by
  obtain ⟨c0, c1, c2, -⟩ := h
  cases e : decide (s.dims < 1) <;> cases e2 : decide (32 < s.dims) <;> cases e3 : decide (s.metric < 1)
  all_goals
    go_enter Tryd.func44, Tryd.ntmps44
    go_wp2
    go_ret
    exact RetB.mk (by simp [argBad, e, e2, e3]) (Below.refl _ _)

theorem check2 (g : Nat) (s : PSchema) (dv : Value) (w : World) (h : SchAt w g s dv) (hl : s.defs.length ≤ 1000) : Calls Tryd.prog 45 #[.pointer (some ⟨g, 0, none⟩)] w (RetB w (decide (16 < s.defs.length))) := by
  obtain ⟨c0, c1, c2, hd⟩ := h
  obtain ⟨a, cap, b, off, rfl, -⟩ := hd.open
  have e : decide ((16 : Int) < (s.defs.length : Int)) = decide (16 < s.defs.length) := by rw [Bool.eq_iff_iff]; simp only [decide_eq_true_eq]; omega
  have E := Lib.hid e
  clear e
  go_enter Tryd.func45, Tryd.ntmps45
  go_wp2
  go_ret
  exact RetB.mk E.out (Below.refl _ _)

theorem cC1 : CallOk 44 := fun _ _ => by kernel_rfl
theorem cC2 : CallOk 45 := fun _ _ => by kernel_rfl

def rulesC (s : PSchema) (g : Nat) : List Rule := [⟨44, #[.pointer (some ⟨g, 0, none⟩)], argBad s, 1⟩, ⟨45, #[.pointer (some ⟨g, 0, none⟩)], decide (16 < s.defs.length), 2⟩]
theorem runC {s : PSchema} {dv : Value} {g : Nat} {w : World} (e : SchAt w g s dv) (hl : s.defs.length ≤ 1000) (v : Value) (hv : Rules w v (rulesC s g)) :
    Calls Tryd.prog 43 #[v] w (RetI w (firstE [(argBad s, 1), (decide (16 < s.defs.length), 2)])) := by
  refine attrFirst v (rulesC s g) w hv (Nat.le_of_ble_eq_true rfl) ?_ ?_
  · intro r hr
    simp only [rulesC, List.mem_cons, List.not_mem_nil, or_false] at hr
    rcases hr with rfl | rfl
    · exact cC1
    · exact cC2
  · intro r hr w' hb
    have e' := e.below hb
    simp only [rulesC, List.mem_cons, List.not_mem_nil, or_false] at hr
    rcases hr with rfl | rfl
    · exact check1 g s dv w' e'
    · exact check2 g s dv w' e' hl

set_option maxRecDepth 100000 in
set_option maxHeartbeats 1000000 in
theorem attrCheck (v : Value) (s : PSchema) (w : World) (hv : SchemaV w v s) (hsm : SmallS s) : Calls Tryd.prog 16 #[v] w (RetI w (checkE s)) := by
  obtain ⟨dv, rfl, hd⟩ := hv
  obtain ⟨s1, s2⟩ := hsm
  have S2 : Hid (∀ d ∈ s.defs, SmallD d) := s2
  have HB := Lib.hid (SchAt.box w s dv 43 hd)
  have hw0 : Below w.heap.size w (w.alloc (.cells #[.int .i64 s.dims, .int .i64 s.metric, dv] 43)) := below_alloc _ _
  have C := Lib.hid (checkE_chk s)
  clear s2 hd
  go_enter Tryd.func16, Tryd.ntmps16
  go_wp2_with fail
  generalize hw : w.alloc (.cells #[.int .i64 s.dims, .int .i64 s.metric, dv] 43) = w0 at *
  have hsz : w.heap.size + 1 = w0.heap.size := by rw [← hw]; simp
  clear hw
  refine (runC (HB.out.below (below_alloc _ _)) (by omega) _ (Rules.mk (rulesC s _) (Nat.le_of_ble_eq_true rfl) (by rw [← hsz]) rfl rfl)).mono ?_
  rintro e w1 ⟨rfl, hb⟩
  have hb1 := blift (below_alloc _ _) hb
  clear hb hsz
  generalize firstE [(argBad s, 1), (decide (16 < s.defs.length), 2)] = x1 at *
  have ha := HB.out.2.2.2.open
  go_wp2
  go_loopw [3, 4, 5] (fun e b i wr => ∃ (k : Nat) (x : Int) (bf : ByteArray), k ≤ s.defs.length ∧ i = .int .i64 k ∧ e = .int .i64 x ∧ b = .string bf ∧ Below w0.heap.size w0 wr ∧ Hid (checkE s = chkGo x bf (s.defs.drop k))) (fun _ _ i _ => s.defs.length - (intOf i).toNat)
  case atStart => exact ⟨0, x1, _, by omega, rfl, rfl, rfl, hb1, C.out⟩
  case round =>
    obtain ⟨k, x, bf, hk, rfl, rfl, rfl, hb, hh⟩ := hrel
    obtain ⟨a, cap, b, off, rfl, -, -, ha, hc⟩ := ha
    have HS := Lib.hid (HB.out.below hb)
    have c2 := HS.out.2.2.1
    by_cases hlt : k < s.defs.length
    · by_cases hx : x = 0
      · subst hx
        obtain ⟨y, hy⟩ := ints_get s.defs k (by omega)
        obtain ⟨wv, hd, hs⟩ := hc.out k y hy
        obtain ⟨d0, d1, d2, d3, d4⟩ := hd.below hb
        have H := Lib.hid (chkGo_drop s.defs k bf y hy)
        have hs' := Lib.hid (hs.below hb)
        have hsm := Lib.hid (S2.out y (List.mem_of_getElem? hy))
        obtain rfl := ha (by omega)
        clear hs hd hc hy ha
        go_wp2_with fail
        refine (attrDef y wv bf _ hs'.out hsm.out).mono ?_
        rintro e w2 ⟨rfl, hb2⟩
        have d0' := below_cell hb2 d0
        have c2' := below_cell hb2 c2
        have hb3 := blift hb hb2
        clear hb hb2 d0 d1 d2 d3 d4 c2 hs'
        go_wp2
        go_roundw
        case rel => exact ⟨k + 1, _, _, by omega, by go_num, rfl, rfl, hb3, by rw [Hid, hh.out, H.out]⟩
        case measure => simp [intOf]; omega
      · have hx' : (x == 0) = false := by simpa using hx
        have F := Lib.hid (chkGo_bad x bf (s.defs.drop k) hx)
        clear hx hc ha
        go_wp2
        go_ret
        exact RetI.mk (by rw [hh.out, F.out]) (blift hw0 hb)
    · have F := Lib.hid (chkGo_end s.defs k x bf (by omega))
      clear hc ha
      go_wp2
      go_ret
      exact RetI.mk (by rw [hh.out, F.out]) (blift hw0 hb)

end Go.Proofs.YtnjopfjmepbpoaaDoor

/- Walks: FewDefs, Few, Find of antiquaryref13. -/
namespace Go.Proofs.YtnjopfjmepbpoaaDoor
set_option linter.unusedSimpArgs false
set_option linter.unusedVariables false
set_option linter.unnecessarySimpa false
open Go.RowKit

def FewRet (w : World) (p : Prop) (e : Ending) (w' : World) : Prop := ∃ b : Bool, e = .returned (.bool b) ∧ (b = true → p) ∧ Below w.heap.size w w'
theorem FewRet.mk {w w' : World} {p : Prop} {b : Bool} (h : b = true → p) (hb : Below w.heap.size w w') : FewRet w p (.returned (.bool b)) w' := ⟨b, rfl, h, hb⟩

def FewD (d : PDef) : Prop := d.words.length ≤ 60 ∧ d.name.size ≤ 100 ∧ ∀ s ∈ d.words, s.size ≤ 100
def FewS (s : PSchema) : Prop := s.defs.length ≤ 20 ∧ ∀ d ∈ s.defs, FewD d
theorem FewS.small {s : PSchema} (h : FewS s) : SmallS s := ⟨by have := h.1; omega, fun d hd => ⟨by have := (h.2 d hd).2.1; omega, by have := (h.2 d hd).1; omega, fun x hx => by have := (h.2 d hd).2.2 x hx; omega⟩⟩

theorem forall_snoc {α : Type} (l : List α) (p : α → Prop) (k : Nat) (y : α) (hy : l[k]? = some y) (h : ∀ (j : Nat) (x : α), j < k → l[j]? = some x → p x) (hp : p y) : ∀ (j : Nat) (x : α), j < k + 1 → l[j]? = some x → p x := by
  intro j x hj hx
  by_cases e : j = k
  · subst e; rw [hy] at hx; cases hx; exact hp
  · exact h j x (by omega) hx
theorem forall_all {α : Type} (l : List α) (p : α → Prop) (k : Nat) (hk : l.length ≤ k) (h : ∀ (j : Nat) (x : α), j < k → l[j]? = some x → p x) : ∀ x ∈ l, p x := by
  intro x hx
  obtain ⟨j, hj⟩ := List.getElem?_of_mem hx
  have := (List.getElem?_eq_some_iff.1 hj).1
  exact h j x (by omega) hj

set_option maxRecDepth 100000 in
set_option maxHeartbeats 1000000 in
theorem refFewDefs (v : Value) (s : PSchema) (w : World) (hv : SchemaV w v s) : Calls Tryd.prog 15 #[v, .int .i64 20] w (FewRet w (FewS s)) := by
  obtain ⟨dv, rfl, hd⟩ := hv
  have HB := Lib.hid (SchAt.box w s dv 43 hd)
  have hw0 : Below w.heap.size w (w.alloc (.cells #[.int .i64 s.dims, .int .i64 s.metric, dv] 43)) := below_alloc _ _
  obtain ⟨a, cap, b, off, rfl, hcap, hm, ha, hc⟩ := HB.out.2.2.2.open
  unfold maxLen at hm
  clear hd
  go_enter Tryd.func15, Tryd.ntmps15
  go_wp2
  generalize hw : w.alloc (.cells #[.int .i64 s.dims, .int .i64 s.metric, .slice a s.defs.length cap] 43) = w0 at *
  clear hw
  go_loopw [5] (fun i wr => ∃ k : Nat, k ≤ s.defs.length ∧ k ≤ 21 ∧ i = .int .i64 k ∧ Below w0.heap.size w0 wr ∧ Hid (∀ (j : Nat) (x : PDef), j < k → s.defs[j]? = some x → FewD x)) (fun i _ => s.defs.length - (intOf i).toNat)
  case atStart => exact ⟨0, by omega, by omega, rfl, Below.refl _ _, fun j x hj => absurd hj (by omega)⟩
  case round =>
    obtain ⟨k, hk, hk2, rfl, hb, hh⟩ := hrel
    have c2 := (HB.out.below hb).2.2.1
    by_cases hlt : k < s.defs.length
    · by_cases h20 : k ≤ 20
      · have h20' : decide ((k : Int) ≤ 20) = true := by simp only [decide_eq_true_eq]; omega
        obtain ⟨y, hy⟩ := ints_get s.defs k (by omega)
        obtain ⟨wv, hd, hs⟩ := hc.out k y hy
        obtain ⟨d0, d1, d2, d3, d4⟩ := hd.below hb
        have hs' := hs.below hb
        obtain ⟨a2, cap2, b2, off2, rfl, hcap2, hm2, ha2, hc2⟩ := hs'.open
        unfold maxLen at hm2
        obtain rfl := ha (by omega)
        have Y := Lib.hid hy
        have hbl := World.block_lt_of_cell? _ _ d0
        clear hs hd hy ha hs'
        by_cases g1 : 60 < y.words.length
        · have g1' : decide ((60 : Int) < (y.words.length : Int)) = true := by simp only [decide_eq_true_eq]; omega
          clear hc2 ha2
          go_wp2
          go_ret
          exact FewRet.mk (fun h => by cases h) (blift (blift hw0 hb) (below_alloc _ _))
        · have g1' : decide ((60 : Int) < (y.words.length : Int)) = false := by simp only [decide_eq_false_iff_not]; omega
          by_cases g2 : 100 < y.name.size
          · have g2' : decide ((100 : Int) < (y.name.size : Int)) = true := by simp only [decide_eq_true_eq]; omega
            clear hc2 ha2
            go_wp2
            go_ret
            exact FewRet.mk (fun h => by cases h) (blift (blift hw0 hb) (below_alloc _ _))
          · have g2' : decide ((100 : Int) < (y.name.size : Int)) = false := by simp only [decide_eq_false_iff_not]; omega
            go_wp2
            obtain ⟨wo, hwo⟩ : ∃ wo : World, wo = wr := ⟨wr, rfl⟩
            have hwo := Lib.hid hwo
            go_loop [7] (fun i => ∃ q : Nat, q ≤ y.words.length ∧ i = .int .i64 q ∧ Hid (∀ (j : Nat) (x : ByteArray), j < q → y.words[j]? = some x → x.size ≤ 100)) (fun i => y.words.length - (intOf i).toNat)
            case atStart => exact ⟨0, by omega, rfl, fun j x hj => absurd hj (by omega)⟩
            case round =>
              obtain ⟨q, hq, rfl, hq2⟩ := hrel
              by_cases hlt2 : q < y.words.length
              · obtain ⟨z, hz⟩ := ints_get y.words q (by omega)
                have z0 := hc2.out q z hz
                obtain rfl := ha2 (by omega)
                have Z := Lib.hid hz
                have hbl2 := World.block_lt_of_cell? _ _ z0
                clear hz ha2
                by_cases g3 : 100 < z.size
                · have g3' : decide ((100 : Int) < (z.size : Int)) = true := by simp only [decide_eq_true_eq]; omega
                  go_wp2
                  go_ret
                  exact FewRet.mk (fun h => by cases h) (blift (blift hw0 hb) (below_alloc _ _))
                · have g3' : decide ((100 : Int) < (z.size : Int)) = false := by simp only [decide_eq_false_iff_not]; omega
                  go_wp2
                  go_round
                  case rel => exact ⟨q + 1, by omega, by go_num, forall_snoc _ _ _ _ Z.out hq2.out (by omega)⟩
                  case measure => simp [intOf]; omega
              · go_wp2
                go_roundw
                case rel => exact ⟨k + 1, by omega, by omega, by go_num, blift hb (below_alloc _ _), forall_snoc _ _ _ _ Y.out hh.out ⟨by omega, by omega, forall_all _ _ q (by omega) hq2.out⟩⟩
                case measure => simp [intOf]; omega
      · have h20' : decide ((k : Int) ≤ 20) = false := by simp only [decide_eq_false_iff_not]; omega
        have h21 : decide ((s.defs.length : Int) ≤ 20) = false := by simp only [decide_eq_false_iff_not]; omega
        clear hc ha
        go_wp2
        go_ret
        exact FewRet.mk (fun h => by cases h) (blift hw0 hb)
    · have H := Lib.hid (forall_all _ _ k (by omega) hh.out)
      clear hc ha
      go_wp2
      go_ret
      exact FewRet.mk (fun h => ⟨by have := of_decide_eq_true h; omega, H.out⟩) (blift hw0 hb)

/-- An entry in a box. -/
def EntAt (w : World) (g : Nat) (e : PEntry) (vv av : Value) : Prop :=
  w.cell? ⟨g, 0, none⟩ = some (.int .i64 e.id) ∧ w.cell? ⟨g, 1, none⟩ = some (.int .i64 e.ver) ∧ w.cell? ⟨g, 2, none⟩ = some (.int .i64 e.owner) ∧ w.cell? ⟨g, 3, none⟩ = some (.int .i64 e.filed) ∧
  w.cell? ⟨g, 4, none⟩ = some (.int .i64 e.frm) ∧ w.cell? ⟨g, 5, none⟩ = some (.int .i64 e.to) ∧ w.cell? ⟨g, 6, none⟩ = some (.int .i64 e.born) ∧ w.cell? ⟨g, 7, none⟩ = some vv ∧ w.cell? ⟨g, 8, none⟩ = some av ∧ Ints w vv e.vec ∧ Attrs w av e.attrs
theorem EntAt.below {w w' : World} {g : Nat} {e : PEntry} {vv av : Value} (h : EntAt w g e vv av) (hb : Below w.heap.size w w') : EntAt w' g e vv av := by
  obtain ⟨h0, h1, h2, h3, h4, h5, h6, h7, h8, h9, h10⟩ := h
  exact ⟨below_cell hb h0, below_cell hb h1, below_cell hb h2, below_cell hb h3, below_cell hb h4, below_cell hb h5, below_cell hb h6, below_cell hb h7, below_cell hb h8, h9.below hb, h10.below hb⟩
def entCells (e : PEntry) (vv av : Value) : Array Value := #[.int .i64 e.id, .int .i64 e.ver, .int .i64 e.owner, .int .i64 e.filed, .int .i64 e.frm, .int .i64 e.to, .int .i64 e.born, vv, av]
theorem EntAt.box (w : World) (e : PEntry) (vv av : Value) (T : TypeId) (h : Ints w vv e.vec) (h2 : Attrs w av e.attrs) : EntAt (w.alloc (.cells #[.int .i64 e.id, .int .i64 e.ver, .int .i64 e.owner, .int .i64 e.filed, .int .i64 e.frm, .int .i64 e.to, .int .i64 e.born, vv, av] T)) w.heap.size e vv av := by
  refine ⟨?_, ?_, ?_, ?_, ?_, ?_, ?_, ?_, ?_, h.below (below_alloc _ _), h2.below (below_alloc _ _)⟩ <;> simp

def FewA (a : PAttr) : Prop := a.name.size ≤ 300 ∧ a.s.size ≤ 300
def FewE (e : PEntry) : Prop := e.vec.length ≤ 40 ∧ e.attrs.length ≤ 20 ∧ ∀ a ∈ e.attrs, FewA a

set_option maxRecDepth 100000 in
set_option maxHeartbeats 1000000 in
theorem refFew (v : Value) (x : PEntry) (w : World) (hv : EntryV w v x) : Calls Tryd.prog 5 #[v] w (FewRet w (FewE x)) := by
  obtain ⟨vv, av, rfl, hi, hatt⟩ := hv
  have HB := Lib.hid (EntAt.box w x vv av 25 hi hatt)
  have hw0 : Below w.heap.size w (w.alloc (.cells #[.int .i64 x.id, .int .i64 x.ver, .int .i64 x.owner, .int .i64 x.filed, .int .i64 x.frm, .int .i64 x.to, .int .i64 x.born, vv, av] 25)) := below_alloc _ _
  obtain ⟨a1, cap1, b1, off1, rfl, -, hm1, -, -⟩ := hi.open
  obtain ⟨a, cap, b, off, rfl, hcap, hm, ha, hc⟩ := HB.out.2.2.2.2.2.2.2.2.2.2.open
  unfold maxLen at hm hm1
  clear hi hatt
  unfold entryVal
  go_enter Tryd.func5, Tryd.ntmps5
  go_wp2
  generalize hw : w.alloc (.cells #[.int .i64 x.id, .int .i64 x.ver, .int .i64 x.owner, .int .i64 x.filed, .int .i64 x.frm, .int .i64 x.to, .int .i64 x.born, .slice a1 x.vec.length cap1, .slice a x.attrs.length cap] 25) = w0 at *
  clear hw
  obtain ⟨-, -, -, -, -, -, -, b7, b8, -, -⟩ := HB.out
  go_loop [3] (fun i => ∃ k : Nat, k ≤ x.attrs.length ∧ k ≤ 21 ∧ i = .int .i64 k ∧ Hid (∀ (j : Nat) (y : PAttr), j < k → x.attrs[j]? = some y → FewA y)) (fun i => x.attrs.length - (intOf i).toNat)
  case atStart => exact ⟨0, by omega, by omega, rfl, fun j x hj => absurd hj (by omega)⟩
  case round =>
    obtain ⟨k, hk, hk2, rfl, hh⟩ := hrel
    by_cases hlt : k < x.attrs.length
    · by_cases h20 : k ≤ 20
      · have h20' : decide ((k : Int) ≤ 20) = true := by simp only [decide_eq_true_eq]; omega
        obtain ⟨y, hy⟩ := ints_get x.attrs k (by omega)
        obtain ⟨d0, d1, d2, d3⟩ := hc.out k y hy
        obtain rfl := ha (by omega)
        have Y := Lib.hid hy
        clear hy ha hc
        by_cases g1 : 300 < y.name.size
        · have g1' : decide ((300 : Int) < (y.name.size : Int)) = true := by simp only [decide_eq_true_eq]; omega
          go_wp2
          go_ret
          exact FewRet.mk (fun h => by cases h) hw0
        · have g1' : decide ((300 : Int) < (y.name.size : Int)) = false := by simp only [decide_eq_false_iff_not]; omega
          by_cases g2 : 300 < y.s.size
          · have g2' : decide ((300 : Int) < (y.s.size : Int)) = true := by simp only [decide_eq_true_eq]; omega
            go_wp2
            go_ret
            exact FewRet.mk (fun h => by cases h) hw0
          · have g2' : decide ((300 : Int) < (y.s.size : Int)) = false := by simp only [decide_eq_false_iff_not]; omega
            go_wp2
            go_round
            case rel => exact ⟨k + 1, by omega, by omega, by go_num, forall_snoc _ _ _ _ Y.out hh.out ⟨by omega, by omega⟩⟩
            case measure => simp [intOf]; omega
      · have h20' : decide ((k : Int) ≤ 20) = false := by simp only [decide_eq_false_iff_not]; omega
        have h21 : decide ((x.attrs.length : Int) ≤ 20) = false := by simp only [decide_eq_false_iff_not]; omega
        clear hc ha
        by_cases g1 : x.vec.length ≤ 40
        all_goals
          have g1' : decide ((x.vec.length : Int) ≤ 40) = decide (x.vec.length ≤ 40) := by rw [Bool.eq_iff_iff]; simp only [decide_eq_true_eq]; omega
          simp only [g1, decide_true, decide_false] at g1'
          go_wp2
          go_ret
          exact FewRet.mk (fun h => by cases h) hw0
    · have H := Lib.hid (forall_all _ _ k (by omega) hh.out)
      clear hc ha
      by_cases g1 : x.vec.length ≤ 40
      · have g1' : decide ((x.vec.length : Int) ≤ 40) = true := by simp only [decide_eq_true_eq]; omega
        go_wp2
        go_ret
        exact FewRet.mk (fun h => ⟨g1, by have := of_decide_eq_true h; omega, H.out⟩) hw0
      · have g1' : decide ((x.vec.length : Int) ≤ 40) = false := by simp only [decide_eq_false_iff_not]; omega
        go_wp2
        go_ret
        exact FewRet.mk (fun h => by cases h) hw0

end Go.Proofs.YtnjopfjmepbpoaaDoor

/- Walks: Value, Get of antiquaryref13; Get of attr. -/
namespace Go.Proofs.YtnjopfjmepbpoaaDoor
set_option linter.unusedSimpArgs false
set_option linter.unusedVariables false
set_option linter.unnecessarySimpa false
open Go.RowKit

theorem AttrAt.box (w : World) (a : PAttr) (T : TypeId) : AttrAt (w.alloc (.cells #[.string a.name, .int .i64 a.kind, .int .i64 a.n, .string a.s] T)) w.heap.size 0 a := by
  refine ⟨?_, ?_, ?_, ?_⟩ <;> simp

theorem eqB_empty (s : ByteArray) : eqB s ByteArray.empty = s.toList.isEmpty := by
  have e : ByteArray.empty.toList = [] := by unfold ByteArray.toList ByteArray.toList.loop; rfl
  unfold eqB
  rw [e]
  cases h : s.toList <;> rfl

theorem getA_drop (l : List PAttr) (nm : ByteArray) (k : Nat) (a : PAttr) (h : l[k]? = some a) : getA (l.drop k) nm = if eqB a.name nm then (a, true) else getA (l.drop (k+1)) nm := by
  obtain ⟨hk, rfl⟩ := List.getElem?_eq_some_iff.1 h
  rw [List.drop_eq_getElem_cons (by omega), getA]
theorem getA_end (l : List PAttr) (nm : ByteArray) (k : Nat) (h : l.length ≤ k) : getA (l.drop k) nm = (zeroA, false) := by
  rw [List.drop_eq_nil_of_le h, getA]

/-- A call returns Got{A, Is}. -/
def GotRet (w : World) (r : PAttr × Bool) (e : Ending) (w' : World) : Prop :=
  e = .returned (.agg #[.string r.1.name, .int .i64 r.1.kind, .int .i64 r.1.n, .string r.1.s, .bool r.2]) ∧ Below w.heap.size w w'
theorem GotRet.mk {w w' : World} {r : PAttr × Bool} {a : PAttr} {b : Bool} (h : r = (a, b)) (hb : Below w.heap.size w w') : GotRet w r (.returned (.agg #[.string a.name, .int .i64 a.kind, .int .i64 a.n, .string a.s, .bool b])) w' := by
  subst h; exact ⟨rfl, hb⟩

theorem get1 (g : Nat) (x : PAttr) (nm : ByteArray) (w : World) (c5 : w.cell? ⟨g, 0, none⟩ = some (.string nm)) :
    Calls Tryd.prog 59 #[attrV x, .pointer (some ⟨g, 0, none⟩)] w (RetB w (eqB x.name nm)) := by
  have hlt := World.block_lt_of_cell? _ _ c5
  unfold attrV
  go_enter Tryd.func59, Tryd.ntmps59
  go_wp2
  go_ret
  exact RetB.mk rfl (below_alloc _ _)
theorem cG1 : CallOk 59 := fun _ _ => by kernel_rfl

theorem getA_idx (l : List PAttr) (nm : ByteArray) : (idxB (l.map fun x => eqB x.name nm) = -1 ∧ getA l nm = (zeroA, false)) ∨
    ∃ (k : Nat) (a : PAttr), idxB (l.map fun x => eqB x.name nm) = k ∧ l[k]? = some a ∧ getA l nm = (a, true) := by
  have key : ∀ (l : List PAttr) (j : Nat), (idxGo (l.map fun x => eqB x.name nm) j = -1 ∧ getA l nm = (zeroA, false)) ∨
      ∃ (k : Nat) (a : PAttr), idxGo (l.map fun x => eqB x.name nm) j = ((j + k : Nat) : Int) ∧ l[k]? = some a ∧ getA l nm = (a, true) := by
    intro l
    induction l with
    | nil => intro j; exact .inl ⟨rfl, rfl⟩
    | cons x r ih =>
      intro j
      simp only [List.map_cons, idxGo, getA]
      cases e : eqB x.name nm
      · rcases ih (j+1) with ⟨h1, h2⟩ | ⟨k, a, h1, h2, h3⟩
        · left; simp only [Bool.false_eq_true, if_false]; exact ⟨h1, h2⟩
        · right; refine ⟨k+1, a, ?_, h2, ?_⟩
          · simp only [Bool.false_eq_true, if_false]
            have : (((j + 1 : Nat) : Int)) = (j : Int) + 1 := by omega
            rw [this] at h1; rw [h1]; omega
          · simpa using h3
      · right; exact ⟨0, x, by simp, by simp, by simp⟩
  rcases key l 0 with h | ⟨k, a, h1, h2, h3⟩
  · exact .inl h
  · exact .inr ⟨k, a, by simpa [idxB] using h1, h2, h3⟩

/-- A call returns an attribute, and whether there is one. -/
def GetRet (w : World) (r : PAttr × Bool) (e : Ending) (w' : World) : Prop :=
  e = .returned (.tuple #[attrV r.1, .bool r.2]) ∧ Below w.heap.size w w'
theorem GetRet.mk {w w' : World} {r : PAttr × Bool} {a : PAttr} {b : Bool} (h : r = (a, b)) (hb : Below w.heap.size w w') : GetRet w r (.returned (.tuple #[.agg #[.string a.name, .int .i64 a.kind, .int .i64 a.n, .string a.s], .bool b])) w' := by
  subst h; exact ⟨rfl, hb⟩

set_option maxRecDepth 100000 in
set_option maxHeartbeats 1000000 in
theorem attrGet (v : Value) (l : List PAttr) (nm : ByteArray) (w : World) (hv : Attrs w v l) (hl : l.length ≤ 1000000) :
    Calls Tryd.prog 24 #[v, .string nm] w (GetRet w (getA l nm)) := by
  have HV := Lib.hid hv
  obtain ⟨a, cap, b, off, rfl, hcap, hm, ha, hc⟩ := hv.open
  clear hv
  go_enter Tryd.func24, Tryd.ntmps24
  go_wp2_with fail
  refine (indexAttr _ l _ _ (fun x => eqB x.name nm) _ (HV.out.below (below_two _ _ _)) (by omega) cG1 (fun x hx w' hb => get1 _ x nm w' (below_cell ((blift (below_alloc _ _) hb)) (by simp)))).mono ?_
  rintro e w1 ⟨rfl, hb⟩
  have hb1 := blift (below_two _ _ _) hb
  have r0 : ∀ j, w1.frozen? ⟨w.heap.size + 1, j, none⟩ = false := fun j => by rw [hb.frozen (by simp)]; simp
  have r1 : w1.cell? ⟨w.heap.size + 1, 0, none⟩ = some (.string ⟨#[]⟩) := below_cell hb (by simp)
  have r2 : w1.cell? ⟨w.heap.size + 1, 1, none⟩ = some (.int .i64 0) := below_cell hb (by simp)
  have r3 : w1.cell? ⟨w.heap.size + 1, 2, none⟩ = some (.int .i64 0) := below_cell hb (by simp)
  have r4 : w1.cell? ⟨w.heap.size + 1, 3, none⟩ = some (.string ⟨#[]⟩) := below_cell hb (by simp)
  clear hb
  rcases getA_idx l nm with ⟨h1, h2⟩ | ⟨k, x, h1, h2, h3⟩
  · have H := Lib.hid h2
    rw [h1]
    clear h1 h2 hc ha
    go_wp2
    refine bodyPost_ret (v := .tuple #[.agg #[.string ⟨#[]⟩, .int .i64 0, .int .i64 0, .string ⟨#[]⟩], .bool false]) (by simp [results, Tryd.results24, go_sem, r0, r1, r2, r3, r4]) rfl (GetRet.mk (a := zeroA) H.out ((((hb1.setCell ?_ _).setCell ?_ _).setCell ?_ _).setCell ?_ _)) <;> simp
  · have H := Lib.hid h3
    have hk : k < l.length := (List.getElem?_eq_some_iff.1 h2).1
    obtain ⟨c0, c1, c2, c3⟩ := (hc.out k x h2).below hb1
    obtain rfl := ha (by omega)
    have hbl : b < w.heap.size := (hc.out k x h2).lt
    rw [h1]
    clear h1 h2 h3 hc ha
    go_wp2
    refine bodyPost_ret (v := .tuple #[.agg #[.string x.name, .int .i64 x.kind, .int .i64 x.n, .string x.s], .bool true]) (by simp [results, Tryd.results24, go_sem, r0, r1, r2, r3, r4]) rfl (GetRet.mk H.out ((((hb1.setCell ?_ _).setCell ?_ _).setCell ?_ _).setCell ?_ _)) <;> simp

end Go.Proofs.YtnjopfjmepbpoaaDoor

/- The walks of wire and antiquaryref01: byte strings, lists of them. -/
namespace Go.Proofs.YtnjopfjmepbpoaaDoor
set_option linter.unusedSimpArgs false
set_option linter.unusedVariables false
set_option linter.unnecessarySimpa false
open Go.RowKit

theorem conv_bytes {w : World} {v : Value} {bs : List Int} (h : Bytes w v bs) :
    (convert 26 9 v).run Tryd.prog w = .ok (.string (strOf bs)) w := by
  obtain ⟨a, cap, b, off, rfl, hcap, hm, ha, hc⟩ := h
  rw [run_convert_bytes_string w _ _ _ _ _ _ Tryd.underlying26 Tryd.underlying5 Tryd.underlying9]
  simp only [List.length_map] at *
  cases a with
  | none =>
    have : bs = [] := by
      cases bs with
      | nil => rfl
      | cons x l => simp at ha
    subst this
    rfl
  | some a =>
    refine run_bytesToString w a _ _ bs ?_
    have := run_loadCells_list (P := Tryd.prog) (w := w) a (bs.map (Value.int .u8)) (fun j v hv => by
      have hj := (List.getElem?_eq_some_iff.1 hv).1
      have := ha (by simp at hj; omega)
      simp only [Option.some.injEq] at this
      subst this
      rw [show (⟨b, off, none⟩ : Addr).add j = ⟨b, off + j, none⟩ from by simp [Addr.add]]
      exact hc j v hv)
    simpa using this

theorem strCells_eq (s : ByteArray) : Lib.strCells s = (bytesL s).map (Value.int .u8) := by
  simp [Lib.strCells, bytesL]
theorem elemStr : Elem1 Tryd.prog 9 (.string ⟨#[]⟩) 16 := ⟨by kernel_rfl, rfl⟩

set_option maxRecDepth 100000 in
theorem wireBytes (s : ByteArray) (w : World) (hs : s.size ≤ 1000000000) : Calls Tryd.prog 78 #[.string s] w (MadeBytes w (strB s)) := by
  have hl0 := intB_len s.size (by omega) (by omega)
  go_enter Tryd.func78, Tryd.ntmps78
  go_wp2_with (first | (at_builtin; refine wp_appendStr (.tmp 5) (.tmp 6) 26 9 5 elemByte rfl rfl Tryd.underlying26 Tryd.underlying9 w.heap.size _ _ s rfl ho1 rfl (by rw [List.length_map]; omega) hb1.size ?_; intro v' w' hown' hb') | (go_at_call 76; refine (wireInt _ _ (by omega) (by omega)).mono ?_; rintro e w1 ⟨v1, rfl, ho1, hb1⟩))
  go_ret
  exact ⟨_, rfl, by rw [strB, List.map_append, ← strCells_eq]; exact hown', hb1.trans hb'⟩

set_option maxRecDepth 100000 in
theorem refBytes (s : ByteArray) (w : World) (hs : s.size ≤ 1000000000) : Calls Tryd.prog 80 #[.string s] w (MadeBytes w (strB s)) := by
  have hl0 := intB_len s.size (by omega) (by omega)
  go_enter Tryd.func80, Tryd.ntmps80
  go_wp2_with (first | (at_builtin; refine wp_appendStr (.tmp 5) (.tmp 6) 26 9 5 elemByte rfl rfl Tryd.underlying26 Tryd.underlying9 w.heap.size _ _ s rfl ho1 rfl (by rw [List.length_map]; omega) hb1.size ?_; intro v' w' hown' hb') | (go_at_call 79; refine (refInt _ _ (by omega) (by omega)).mono ?_; rintro e w1 ⟨v1, rfl, ho1, hb1⟩))
  go_ret
  exact ⟨_, rfl, by rw [strB, List.map_append, ← strCells_eq]; exact hown', hb1.trans hb'⟩

theorem callBytes (args : Array Value) (w : World) : (callFunc 78 args).run Tryd.prog w = .ok (.enter 78 args) w := by kernel_rfl
theorem StrsOpen {w : World} {v : Value} {l : List ByteArray} (h : Rd w v (l.map Value.string)) : ∃ a cap b off, v = .slice a l.length cap ∧ l.length ≤ cap ∧ cap ≤ maxLen ∧
    (0 < l.length → a = some ⟨b, off, none⟩) ∧ Hid (∀ j x, l[j]? = some x → w.cell? ⟨b, off + j, none⟩ = some (.string x)) := by
  obtain ⟨a, cap, b, off, h1, h2, h3, h4, h5⟩ := h
  simp only [List.length_map] at h1 h2 h4
  exact ⟨a, cap, b, off, h1, h2, h3, h4, fun j x hx => h5 j _ (by simp [hx])⟩

set_option maxRecDepth 100000 in
set_option maxHeartbeats 1000000 in
theorem wireListS (v : Value) (zs : List ByteArray) (w : World) (hv : Rd w v (zs.map Value.string)) (hf : SmallStrs zs) (hl : zs.length ≤ 1000000) : Calls Tryd.prog 77 #[v, .func (.func 78) #[] #[]] w (MadeBytes w (strsB zs)) := by
  obtain ⟨a, cap, b, off, rfl, hcap, hm, ha, hc⟩ := StrsOpen hv
  have HF := Hid.mk hf
  have hl0 := intB_len zs.length (by omega) (by omega)
  clear hv
  go_enter Tryd.func77, Tryd.ntmps77
  go_wp2_with (go_at_call 76; refine (wireInt _ _ (by omega) (by omega)).mono ?_; rintro e w1 ⟨v1, rfl, ho1, hb1⟩)
  go_loopw [5, 13] (fun o i wr => ∃ k : Nat, k ≤ zs.length ∧ i = .int .i64 k ∧ Own w.heap.size 5 wr o ((intB zs.length ++ ((zs.take k).map strB).flatten).map (Value.int .u8)) ∧ Below w.heap.size w wr) (fun _ i _ => zs.length - (intOf i).toNat)
  case atStart => exact ⟨0, by omega, rfl, by simpa using ho1, hb1⟩
  case round =>
    obtain ⟨k, hk, rfl, hown, hb⟩ := hrel
    have HB := Hid.mk hb
    clear hb
    have hb2 := HB.out.size
    by_cases hlt : k < zs.length
    · obtain ⟨y, hy⟩ := ints_get zs k hlt
      have c1 := below_cell HB.out (hc.out k y hy)
      have y1 := HF.out y (List.mem_of_getElem? hy)
      have hl1 := strB_len y y1
      have hl2 := strs_len (zs.take k) (fun z hz => HF.out z (List.mem_of_mem_take hz))
      have hl3 : (zs.take k).length ≤ zs.length := by rw [List.length_take]; omega
      obtain rfl := ha (by omega)
      have T := Hid.mk (strs_take zs k y hy)
      clear ha hy
      go_wp2_with (first | (at_builtin; refine wp_append (.tmp 17) (.tmp 20) 26 5 1 _ elemByte rfl rfl Tryd.underlying26 w.heap.size _ _ _ _ rfl (hown.kept hb3) rfl ho3.rd (by simp only [List.length_map]; omega) (oneCells _ _) (by simp only [List.length_map, List.length_append, maxLen]; omega) (by simp only [List.length_map, List.length_append]; omega) (by have := hb3.size; omega) ?_; intro v' w' hown' hb') | (go_at_call 78; refine (wireBytes _ _ (by omega)).mono ?_; rintro e w3 ⟨v3, rfl, ho3, hb3⟩))
      go_roundw
      case rel => exact ⟨k + 1, by omega, by go_num, by rw [T.out, ← List.append_assoc, List.map_append]; exact hown', (HB.out.trans (hb3.mono hb2)).trans hb'⟩
      case measure => simp [intOf]; omega
    · have e : zs.take k = zs := List.take_of_length_le (by omega)
      rw [e] at hown
      go_wp2
      go_ret
      exact ⟨_, rfl, hown, HB.out⟩

theorem wireStrings (v : Value) (zs : List ByteArray) (w : World) (hv : Rd w v (zs.map Value.string)) (hf : SmallStrs zs) (hl : zs.length ≤ 1000000) : Calls Tryd.prog 35 #[v] w (MadeBytes w (strsB zs)) := by
  go_enter Tryd.func35, Tryd.ntmps35
  go_wp2_with (go_at_call 77; refine (wireListS _ zs _ hv hf hl).mono ?_; rintro e w1 ⟨v1, rfl, ho1, hb1⟩)
  go_ret
  exact ⟨_, rfl, ho1, hb1⟩

set_option maxRecDepth 100000 in
set_option maxHeartbeats 1000000 in
theorem refStrings (v : Value) (zs : List ByteArray) (w : World) (hv : Rd w v (zs.map Value.string)) (hf : SmallStrs zs) (hl : zs.length ≤ 1000000) : Calls Tryd.prog 37 #[v] w (MadeBytes w (strsB zs)) := by
  obtain ⟨a, cap, b, off, rfl, hcap, hm, ha, hc⟩ := StrsOpen hv
  have HF := Hid.mk hf
  have hl0 := intB_len zs.length (by omega) (by omega)
  clear hv
  go_enter Tryd.func37, Tryd.ntmps37
  go_wp2_with (go_at_call 79; refine (refInt _ _ (by omega) (by omega)).mono ?_; rintro e w1 ⟨v1, rfl, ho1, hb1⟩)
  go_loopw [3, 4] (fun o i wr => ∃ k : Nat, k ≤ zs.length ∧ i = .int .i64 k ∧ Own w.heap.size 5 wr o ((intB zs.length ++ ((zs.take k).map strB).flatten).map (Value.int .u8)) ∧ Below w.heap.size w wr) (fun _ i _ => zs.length - (intOf i).toNat)
  case atStart => exact ⟨0, by omega, rfl, by simpa using ho1, hb1⟩
  case round =>
    obtain ⟨k, hk, rfl, hown, hb⟩ := hrel
    have HB := Hid.mk hb
    clear hb
    have hb2 := HB.out.size
    by_cases hlt : k < zs.length
    · obtain ⟨y, hy⟩ := ints_get zs k hlt
      have c1 := below_cell HB.out (hc.out k y hy)
      have y1 := HF.out y (List.mem_of_getElem? hy)
      have hl1 := strB_len y y1
      have hl2 := strs_len (zs.take k) (fun z hz => HF.out z (List.mem_of_mem_take hz))
      have hl3 : (zs.take k).length ≤ zs.length := by rw [List.length_take]; omega
      obtain rfl := ha (by omega)
      have T := Hid.mk (strs_take zs k y hy)
      clear ha hy
      go_wp2_with (first | (at_builtin; refine wp_append (.tmp 14) (.tmp 19) 26 5 1 _ elemByte rfl rfl Tryd.underlying26 w.heap.size _ _ _ _ rfl (hown.kept hb3) rfl ho3.rd (by simp only [List.length_map]; omega) (oneCells _ _) (by simp only [List.length_map, List.length_append, maxLen]; omega) (by simp only [List.length_map, List.length_append]; omega) (by have := hb3.size; omega) ?_; intro v' w' hown' hb') | (go_at_call 80; refine (refBytes _ _ (by omega)).mono ?_; rintro e w3 ⟨v3, rfl, ho3, hb3⟩))
      go_roundw
      case rel => exact ⟨k + 1, by omega, by go_num, by rw [T.out, ← List.append_assoc, List.map_append]; exact hown', (HB.out.trans (hb3.mono hb2)).trans hb'⟩
      case measure => simp [intOf]; omega
    · have e : zs.take k = zs := List.take_of_length_le (by omega)
      rw [e] at hown
      go_wp2
      go_ret
      exact ⟨_, rfl, hown, HB.out⟩

end Go.Proofs.YtnjopfjmepbpoaaDoor
