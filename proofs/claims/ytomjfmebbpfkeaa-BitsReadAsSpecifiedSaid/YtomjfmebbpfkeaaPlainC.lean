/- Plain: the differences of borders. -/
import Derived.Test.YtomjfmebbpfkeaaPlainB
namespace Go.Proofs.Ytomjfmebbpfkeaa
set_option linter.unusedSimpArgs false
set_option linter.unusedVariables false
set_option linter.unnecessarySimpa false

def diffL : List Int → Int → List Int
  | [], _ => []
  | z :: r, last => (z - last) :: diffL r z
def sumL : List Int → Int → List Int
  | [], _ => []
  | d :: r, last => (last + d) :: sumL r (last + d)

theorem diffL_length : ∀ (zs : List Int) (l : Int), (diffL zs l).length = zs.length
  | [], _ => rfl
  | z :: r, l => by simp [diffL, diffL_length r z]
theorem sumL_length : ∀ (zs : List Int) (l : Int), (sumL zs l).length = zs.length
  | [], _ => rfl
  | z :: r, l => by simp [sumL, sumL_length r _]
theorem sum_diff : ∀ (zs : List Int) (l : Int), sumL (diffL zs l) l = zs
  | [], _ => rfl
  | z :: r, l => by
    rw [diffL, sumL, show l + (z - l) = z by omega, sum_diff r z]
theorem diff_sum : ∀ (ds : List Int) (l : Int), diffL (sumL ds l) l = ds
  | [], _ => rfl
  | d :: r, l => by
    rw [sumL, diffL, diff_sum r (l + d), show l + d - l = d by omega]

theorem diffL_get : ∀ (zs : List Int) (l : Int) (k : Nat) (y z : Int), zs[k]? = some y → zs[k+1]? = some z → (diffL zs l)[k+1]? = some (z - y)
  | [], _, k, y, z, h, _ => by simp at h
  | x :: r, l, 0, y, z, h, h2 => by
    simp at h; subst h
    match r with
    | [] => simp at h2
    | u :: r => simp at h2; subst h2; simp [diffL]
  | x :: r, l, k + 1, y, z, h, h2 => by
    have := diffL_get r x k y z (by simpa using h) (by simpa using h2)
    simpa [diffL] using this
theorem diffL_get0 (zs : List Int) (z : Int) (h : zs[0]? = some z) (l : Int) : (diffL zs l)[0]? = some (z - l) := by
  match zs with
  | [] => simp at h
  | x :: r => simp at h; subst h; simp [diffL]

/-- What bits.Encode has in memory, from the m-th place on. -/
def encAt (zs : List Int) (m : Nat) : List Int := zs.take m ++ (diffL zs 0).drop m

theorem encAt_length (zs : List Int) (m : Nat) (h : m ≤ zs.length) : (encAt zs m).length = zs.length := by
  simp [encAt, diffL_length]; omega
theorem encAt_all (zs : List Int) : encAt zs zs.length = zs := by
  simp [encAt, diffL_length]
theorem encAt_one (zs : List Int) (m : Nat) (h : m ≤ 1) : encAt zs m = diffL zs 0 := by
  match m, zs with
  | 0, zs => simp [encAt]
  | 1, [] => rfl
  | 1, z :: r => simp [encAt, diffL]
theorem encAt_get (zs : List Int) (m j : Nat) (y : Int) (hj : j < m) (h : zs[j]? = some y) : (encAt zs m)[j]? = some y := by
  have hlt := (List.getElem?_eq_some_iff.1 h).1
  rw [encAt, List.getElem?_append_left (by simp; omega), List.getElem?_take, if_pos hj, h]
theorem encAt_set (zs : List Int) (m : Nat) (y z : Int) (h1 : zs[m]? = some y) (h2 : zs[m+1]? = some z) : (encAt zs (m+2)).set (m+1) (z - y) = encAt zs (m+1) := by
  have hlt := (List.getElem?_eq_some_iff.1 h2).1
  have hd := diffL_get zs 0 m y z h1 h2
  have hdl := (List.getElem?_eq_some_iff.1 hd).1
  rw [encAt, encAt, show m + 2 = (m + 1) + 1 by omega, List.take_add_one, h2, Option.toList, List.append_assoc]
  rw [List.set_append_right _ _ (by rw [List.length_take]; omega)]
  congr 1
  rw [List.length_take, Nat.min_eq_left (by omega), Nat.sub_self]
  rw [List.drop_eq_getElem_cons (i := m + 1) hdl]
  have e := (List.getElem?_eq_some_iff.1 hd).2
  simp [e]

theorem diffL_fit : ∀ (zs : List Int) (l : Int), (∀ z ∈ zs, 0 ≤ z ∧ z ≤ 4096) → 0 ≤ l → l ≤ 4096 → ∀ d ∈ diffL zs l, -4096 ≤ d ∧ d ≤ 4096
  | [], _, _, _, _, d, h => by simp [diffL] at h
  | z :: r, l, h, h0, h1, d, hd => by
    have hz := h z (by simp)
    rw [diffL] at hd
    rcases List.mem_cons.1 hd with rfl | hd
    · omega
    · exact diffL_fit r z (fun u hu => h u (by simp [hu])) hz.1 hz.2 d hd

/-- What Decode makes of numbers: a set, if it is one. -/
def stepB (d : Int) : Bool := decide (0 ≤ d) && decide (d ≤ 4096)
def decOk (ds : List Int) : Bool := ds.all stepB && validB (sumL ds 0)

theorem stepB_take (l : List Int) (k : Nat) (y : Int) (h : l[k]? = some y) : (l.take (k+1)).all stepB = ((l.take k).all stepB && stepB y) := by
  rw [take_one l k y h]; simp
theorem not_step (l : List Int) (k : Nat) (y : Int) (h : l[k]? = some y) (hy : stepB y = false) : l.all stepB = false := by
  rw [List.all_eq_false]
  exact ⟨y, List.mem_of_getElem? h, by simp [hy]⟩

/-- The last sum of the first k numbers. -/
def lastSum (ds : List Int) (k : Nat) : Int := ((sumL ds 0).take k).getLastD 0

theorem sumL_snoc (d : Int) : ∀ (ds : List Int) (l : Int), sumL (ds ++ [d]) l = sumL ds l ++ [(sumL ds l).getLastD l + d]
  | [], l => by simp [sumL]
  | e :: r, l => by
    have := sumL_snoc d r (l + e)
    rw [List.cons_append, sumL, this, sumL, List.cons_append, List.getLastD_cons]
theorem sumL_take : ∀ (ds : List Int) (l : Int) (k : Nat), (sumL ds l).take k = sumL (ds.take k) l
  | [], l, k => by simp [sumL]
  | e :: r, l, 0 => by simp [sumL]
  | e :: r, l, k + 1 => by simp [sumL, sumL_take r (l + e) k]
theorem sum_step (ds : List Int) (k : Nat) (d : Int) (h : ds[k]? = some d) : (sumL ds 0).take (k+1) = (sumL ds 0).take k ++ [lastSum ds k + d] ∧ lastSum ds (k+1) = lastSum ds k + d := by
  have e : (sumL ds 0).take (k+1) = (sumL ds 0).take k ++ [lastSum ds k + d] := by
    rw [sumL_take, take_one ds k d h, sumL_snoc, lastSum, sumL_take]
  refine ⟨e, ?_⟩
  rw [lastSum, e]; simp
theorem lastSum_bd (ds : List Int) : ∀ k, k ≤ ds.length → (ds.take k).all stepB = true → 0 ≤ lastSum ds k ∧ lastSum ds k ≤ 4096 * k
  | 0, _, _ => by simp [lastSum]
  | k + 1, hk, h => by
    obtain ⟨d, hd⟩ : ∃ d, ds[k]? = some d := ⟨ds[k], by simp⟩
    rw [stepB_take ds k d hd, Bool.and_eq_true] at h
    have ih := lastSum_bd ds k (by omega) h.1
    rw [(sum_step ds k d hd).2]
    have h2 := h.2
    simp only [stepB, Bool.and_eq_true, decide_eq_true_eq] at h2
    omega

end Go.Proofs.Ytomjfmebbpfkeaa
