/- Plain: Decode. -/
import Derived.Test.YtomjfmebbpfkeaaPlainC
import Derived.Test.YtomjfmebbpfkeaaPlainY
namespace Go.Proofs.Ytomjfmebbpfkeaa
set_option linter.unusedSimpArgs false
set_option linter.unusedVariables false
set_option linter.unnecessarySimpa false

theorem getN_len : ∀ (n : Nat) (bs : List Int), (getN n bs).1.length ≤ n
  | 0, _ => by simp [getN]
  | n + 1, bs => by
    have := getN_len n (bs.drop (getI bs).2.1.toNat)
    rw [getN]
    split
    · simp
    · split
      · simp
      · simp; exact this

theorem getInts_len (bs : List Int) (hby : ∀ c ∈ bs, 0 ≤ c ∧ c < 256) : (getInts bs).1.length ≤ bs.length := by
  rw [getInts]
  by_cases h : (lenL bs 1).2.2 ≠ 0
  · rw [if_pos h]; simp
  · rw [if_neg h]
    have ok := lenL_ok bs 1 hby (by simpa using h)
    have hn := getN_len (lenL bs 1).1.toNat (bs.drop (lenL bs 1).2.1.toNat)
    rw [andThen]
    split
    · simp
    · simp only [List.nil_append]
      simp only [Int.ediv_one] at ok
      omega

def decL (bs : List Int) : List Int × Int :=
  if (getInts bs).2.2 ≠ 0 ∨ (getInts bs).2.1 ≠ bs.length then ([], 11)
  else if decOk (getInts bs).1 then (sumL (getInts bs).1 0, 0) else ([], 11)

def decAt (ds : List Int) (k : Nat) : List Int := (sumL ds 0).take k ++ ds.drop k

theorem decAt_length (ds : List Int) (k : Nat) : (decAt ds k).length = ds.length := by simp [decAt, sumL_length]; omega
theorem decAt_zero (ds : List Int) : decAt ds 0 = ds := by simp [decAt]
theorem decAt_all (ds : List Int) (k : Nat) (h : ds.length ≤ k) : decAt ds k = sumL ds 0 := by
  rw [decAt, List.drop_eq_nil_of_le h, List.take_of_length_le (by rw [sumL_length]; exact h)]; simp
theorem decAt_get (ds : List Int) (k : Nat) (d : Int) (h : ds[k]? = some d) : (decAt ds k)[k]? = some d := by
  have hlt := (List.getElem?_eq_some_iff.1 h).1
  rw [decAt, List.getElem?_append_right (by rw [List.length_take]; omega), List.length_take, sumL_length, Nat.min_eq_left (by omega), Nat.sub_self, List.getElem?_drop]
  simpa using h
theorem decAt_prev (ds : List Int) (k : Nat) (hk : 0 < k) (hl : k ≤ ds.length) : (decAt ds k)[k-1]? = some (lastSum ds k) := by
  rw [decAt, List.getElem?_append_left (by simp [sumL_length]; omega), lastSum]
  rw [List.getLastD_eq_getLast?, List.getLast?_eq_getElem?]
  simp only [List.length_take, sumL_length, Nat.min_eq_left hl]
  have hlt : k - 1 < ((sumL ds 0).take k).length := by simp [sumL_length]; omega
  rw [List.getElem?_eq_getElem hlt]; rfl
theorem decAt_set (ds : List Int) (k : Nat) (d : Int) (h : ds[k]? = some d) : (decAt ds k).set k (lastSum ds k + d) = decAt ds (k+1) := by
  have hlt := (List.getElem?_eq_some_iff.1 h).1
  rw [decAt, decAt, (sum_step ds k d h).1, drop_one ds k d h]
  have e : ((sumL ds 0).take k).length = k := by simp [sumL_length]; omega
  rw [List.set_append_right _ _ (by omega), e, Nat.sub_self]
  simp
theorem decAt_first (ds : List Int) (d : Int) (h : ds[0]? = some d) : decAt ds 1 = decAt ds 0 := by
  rw [← decAt_set ds 0 d h]
  match ds with
  | [] => simp at h
  | x :: r => simp at h; subst h; simp [decAt, lastSum]

end Go.Proofs.Ytomjfmebbpfkeaa
