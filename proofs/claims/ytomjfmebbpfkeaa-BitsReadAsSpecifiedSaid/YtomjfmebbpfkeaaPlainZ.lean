/- Plain: what is encoded is decoded, and the other way round. -/
import Derived.Test.YtomjfmebbpfkeaaPlainD
import Derived.Test.YtomjfmebbpfkeaaPlainM
namespace Go.Proofs.Ytomjfmebbpfkeaa
set_option linter.unusedSimpArgs false
set_option linter.unusedVariables false
set_option linter.unnecessarySimpa false

theorem getGo_leb (rest : List Int) : ∀ (q k : Nat) (acc : Int), k ≤ 9 → (q : Int) * 2 ^ (7 * k) < 18446744073709551616 → (0 < k → q ≠ 0) →
    getGo (leb q ++ rest) k acc = (unzig (acc + q * 2 ^ (7 * k)), ((k + (leb q).length : Nat) : Int), 0) := by
  intro q
  induction q using Nat.strongRecOn with
  | _ q ih =>
    intro k acc hk hq h0
    have hp : (0 : Int) < 2 ^ (7 * k) := Int.pow_pos (by decide)
    by_cases g : q < 128
    · rw [leb_small q g]
      have h9 : k = 9 → (q : Int) ≤ 1 := by
        intro e; subst e
        have e2 : (2 : Int) ^ (7 * 9) = 9223372036854775808 := by decide
        rw [e2] at hq; omega
      rw [List.cons_append, List.nil_append, getGo, if_neg (by
        rintro (⟨h1, h2⟩ | ⟨h1, h2⟩)
        · have := h9 h1; omega
        · have := h0 h1; omega), if_pos (by omega), show (q : Int) % 128 = q by omega]
      simp
    · rw [leb_big q (by omega), List.cons_append, getGo]
      have hk8 : k ≤ 8 := by
        by_cases e : k = 9
        · subst e
          have e2 : (2 : Int) ^ (7 * 9) = 9223372036854775808 := by decide
          rw [e2] at hq; omega
        · omega
      rw [if_neg (by omega), if_neg (by omega)]
      have e1 : ((q % 128 + 128 : Nat) : Int) % 128 = ((q % 128 : Nat) : Int) := by omega
      have e7 : (2 : Int) ^ (7 * (k + 1)) = 128 * 2 ^ (7 * k) := pow7 k
      have e8 : ((q / 128 : Nat) : Int) * (128 * 2 ^ (7 * k)) = (((q / 128) * 128 : Nat) : Int) * 2 ^ (7 * k) := by
        rw [← Int.mul_assoc]; simp
      have hle : (((q / 128) * 128 : Nat) : Int) * 2 ^ (7 * k) ≤ (q : Int) * 2 ^ (7 * k) := Int.mul_le_mul_of_nonneg_right (by omega) (by omega)
      rw [e1, ih (q / 128) (by omega) (k + 1) _ (by omega) (by rw [e7, e8]; omega) (by omega)]
      have e9 : acc + ((q % 128 : Nat) : Int) * 2 ^ (7 * k) + ((q / 128 : Nat) : Int) * 2 ^ (7 * (k + 1)) = acc + (q : Int) * 2 ^ (7 * k) := by
        rw [e7, e8, Int.add_assoc, ← Int.add_mul]
        congr 2; omega
      rw [e9, List.length_cons]
      congr 2; omega

theorem getI_intB (n : Int) (rest : List Int) (h1 : -9223372036854775808 ≤ n) (h2 : n ≤ 9223372036854775807) : getI (intB n ++ rest) = (n, ((intB n).length : Int), 0) := by
  have hz := zig_lt n h1 h2
  rw [getI, intB, getGo_leb rest (zig n) 0 0 (by omega) (by simp; omega) (by omega)]
  simp [unzig_zig]

theorem getN_flat : ∀ (ds : List Int), (∀ z ∈ ds, -9223372036854775808 ≤ z ∧ z ≤ 9223372036854775807) → ∀ rest, getN ds.length ((ds.map intB).flatten ++ rest) = (ds, (((ds.map intB).flatten).length : Int), 0)
  | [], _, rest => rfl
  | d :: r, h, rest => by
    have hd := h d (by simp)
    have ih := getN_flat r (fun z hz => h z (by simp [hz])) rest
    simp only [List.map_cons, List.flatten_cons, List.length_cons, List.append_assoc]
    rw [getN, getI_intB d _ hd.1 hd.2]
    simp only [ne_eq, not_true_eq_false, if_false, Int.toNat_natCast, List.drop_left]
    rw [ih]
    simp

theorem flat_ge : ∀ (ds : List Int), ds.length ≤ ((ds.map intB).flatten).length
  | [] => by simp
  | d :: r => by
    have := flat_ge r
    have := leb_pos (zig d)
    simp only [List.map_cons, List.flatten_cons, List.length_append, List.length_cons]
    have e : (intB d).length = (leb (zig d)).length := rfl
    omega

theorem getInts_intsB (ds : List Int) (h : ∀ z ∈ ds, -9223372036854775808 ≤ z ∧ z ≤ 9223372036854775807) (hl : ds.length ≤ 1000000000000) : getInts (intsB ds) = (ds, ((intsB ds).length : Int), 0) := by
  have h0 := getI_intB ds.length ((ds.map intB).flatten) (by omega) (by omega)
  have hL : lenL (intsB ds) 1 = ((ds.length : Int), ((intB ds.length).length : Int), 0) := by
    rw [lenL, intsB, h0]
    have := flat_ge ds
    simp only [ne_eq, not_true_eq_false, if_false]
    rw [if_neg (by omega), if_neg (by rw [List.length_append, Int.ediv_one]; omega)]
  rw [getInts, hL]
  simp only [ne_eq, not_true_eq_false, if_false, Int.toNat_natCast]
  have e : (intsB ds).drop (intB ds.length).length = (ds.map intB).flatten ++ [] := by rw [intsB, List.drop_left]; simp
  rw [e, getN_flat ds h [], andThen]
  simp [intsB]

theorem unzig_nat (q : Nat) : zig (unzig q) = q := by unfold zig unzig; split <;> split <;> omega

theorem getGo_back : ∀ (l : List Int) (k : Nat) (acc : Int) (x u : Int), (∀ c ∈ l, 0 ≤ c ∧ c < 256) → getGo l k acc = (x, u, 0) →
    ∃ q m : Nat, u = ((k + m : Nat) : Int) ∧ l.take m = leb q ∧ x = unzig (acc + q * 2 ^ (7 * k)) ∧ (0 < k → q ≠ 0)
  | [], k, acc, x, u, _, h => by simp [getGo] at h
  | c :: r, k, acc, x, u, hby, h => by
    obtain ⟨c0, c1⟩ := hby c (by simp)
    rw [getGo] at h
    by_cases g : (k = 9 ∧ 1 < c) ∨ (0 < k ∧ c = 0)
    · rw [if_pos g] at h; simp at h
    · rw [if_neg g] at h
      by_cases g2 : c < 128
      · rw [if_pos g2] at h
        simp only [Prod.mk.injEq, and_true] at h
        obtain ⟨rfl, rfl⟩ := h
        refine ⟨c.toNat, 1, by simp, ?_, ?_, fun hk => by omega⟩
        · rw [leb_small _ (by omega)]; simp; omega
        · rw [show (c.toNat : Int) = c % 128 by omega]
      · rw [if_neg g2] at h
        obtain ⟨q, m, h1, h2, h3, h4⟩ := getGo_back r (k + 1) _ x u (fun d hd => hby d (by simp [hd])) h
        refine ⟨(c - 128).toNat + 128 * q, m + 1, by rw [h1]; omega, ?_, ?_, fun _ => by have := h4 (by omega); omega⟩
        · have := h4 (by omega)
          rw [leb_big _ (by omega), List.take_succ_cons, h2]
          congr 1
          · omega
          · congr 1; omega
        · rw [h3, pow7]
          congr 1
          have e1 : c % 128 = ((c - 128).toNat : Int) := by omega
          rw [e1, Int.add_assoc]
          congr 1
          rw [show (((c - 128).toNat + 128 * q : Nat) : Int) = ((c - 128).toNat : Int) + (q : Int) * 128 by omega, Int.add_mul, Int.mul_assoc]

theorem getI_back (l : List Int) (x u : Int) (hby : ∀ c ∈ l, 0 ≤ c ∧ c < 256) (h : getI l = (x, u, 0)) : l.take u.toNat = intB x := by
  obtain ⟨q, m, h1, h2, h3, _⟩ := getGo_back l 0 0 x u hby h
  rw [h1, h3]
  simp only [Nat.zero_add, Int.toNat_natCast, Nat.mul_zero, Int.pow_zero, Int.mul_one, Int.zero_add, intB, unzig_nat]
  exact h2

theorem getN_back : ∀ (n : Nat) (l ds : List Int) (u : Int), (∀ c ∈ l, 0 ≤ c ∧ c < 256) → getN n l = (ds, u, 0) → l.take u.toNat = (ds.map intB).flatten ∧ ds.length = n ∧ 0 ≤ u ∧ u ≤ l.length
  | 0, l, ds, u, _, h => by
    simp only [getN, Prod.mk.injEq, and_true] at h
    obtain ⟨rfl, rfl⟩ := h
    simp
  | n + 1, l, ds, u, hby, h => by
    rw [getN] at h
    obtain ⟨x, v, e, hr⟩ : ∃ x v e, getI l = (x, v, e) := ⟨_, _, _, rfl⟩
    have ok := getI_ok l hby
    rw [hr] at h ok
    simp only at h ok
    by_cases g : e ≠ 0
    · rw [if_pos g] at h
      simp only [Prod.mk.injEq] at h
      exact absurd h.2.2 g
    · rw [if_neg g] at h
      have g' : e = 0 := by simpa using g
      subst g'
      obtain ⟨o1, o2, _, _⟩ := ok rfl
      obtain ⟨d2, u2, e2, hr2⟩ : ∃ p s t, getN n (l.drop v.toNat) = (p, s, t) := ⟨_, _, _, rfl⟩
      rw [hr2] at h
      simp only at h
      by_cases g2 : e2 ≠ 0
      · rw [if_pos g2] at h
        simp only [Prod.mk.injEq] at h
        exact absurd h.2.2 g2
      · rw [if_neg g2] at h
        have g2' : e2 = 0 := by simpa using g2
        subst g2'
        simp only [Prod.mk.injEq, and_true] at h
        obtain ⟨rfl, rfl⟩ := h
        obtain ⟨i1, i2, i3, i4⟩ := getN_back n (l.drop v.toNat) d2 u2 (fun c hc => hby c (List.mem_of_mem_drop hc)) hr2
        have hb := getI_back l x v hby hr
        rw [List.length_drop] at i4
        refine ⟨?_, by simp [i2], by omega, by omega⟩
        rw [show (v + u2).toNat = v.toNat + u2.toNat by omega, List.take_add, hb, i1]
        simp

theorem getInts_back (bs ds : List Int) (hby : ∀ c ∈ bs, 0 ≤ c ∧ c < 256) (h : getInts bs = (ds, (bs.length : Int), 0)) : intsB ds = bs := by
  rw [getInts] at h
  obtain ⟨n, v, e, hr⟩ : ∃ x v e, lenL bs 1 = (x, v, e) := ⟨_, _, _, rfl⟩
  have ok := lenL_ok bs 1 hby
  rw [hr] at h ok
  simp only at h ok
  by_cases g : e ≠ 0
  · rw [if_pos g] at h
    simp only [Prod.mk.injEq] at h
    exact absurd h.2.2 g
  · rw [if_neg g] at h
    have g' : e = 0 := by simpa using g
    subst g'
    obtain ⟨o1, o2, o3, o4⟩ := ok rfl
    obtain ⟨d2, u2, e2, hr2⟩ : ∃ p s t, getN n.toNat (bs.drop v.toNat) = (p, s, t) := ⟨_, _, _, rfl⟩
    rw [hr2, andThen] at h
    simp only at h
    by_cases g2 : e2 ≠ 0
    · rw [if_pos g2] at h
      simp only [Prod.mk.injEq] at h
      exact absurd h.2.2 g2
    · rw [if_neg g2] at h
      have g2' : e2 = 0 := by simpa using g2
      subst g2'
      simp only [Prod.mk.injEq, and_true, List.nil_append] at h
      obtain ⟨rfl, hu⟩ := h
      obtain ⟨i1, i2, i3, i4⟩ := getN_back n.toNat (bs.drop v.toNat) d2 u2 (fun c hc => hby c (List.mem_of_mem_drop hc)) hr2
      rw [List.length_drop] at i4
      -- the length itself
      have hI : getI bs = (n, v, 0) := by
        have hr' := hr
        rw [lenL] at hr'
        by_cases k1 : (getI bs).2.2 ≠ 0
        · rw [if_pos k1] at hr'
          simp only [Prod.mk.injEq] at hr'
          exact absurd hr'.2.2 k1
        · rw [if_neg k1] at hr'
          by_cases k2 : (getI bs).1 < 0
          · rw [if_pos k2] at hr'; simp at hr'
          · rw [if_neg k2] at hr'
            by_cases k3 : (bs.length - (getI bs).2.1) / 1 < (getI bs).1
            · rw [if_pos k3] at hr'; simp at hr'
            · rw [if_neg k3] at hr'
              simp only [Prod.mk.injEq, and_true] at hr'
              have k1' : (getI bs).2.2 = 0 := by simpa using k1
              rw [← hr'.1, ← hr'.2, ← k1']
      have hb := getI_back bs n v hby hI
      rw [intsB, i2, show ((n.toNat : Nat) : Int) = n by omega, ← hb, ← i1, show u2.toNat = bs.length - v.toNat by omega, List.take_of_length_le (i := bs.length - v.toNat) (by simp), List.take_append_drop]

theorem stepB_diff : ∀ (zs : List Int) (l : Int), ascB l zs = true → -1 ≤ l → ∀ d ∈ diffL zs (if l = -1 then 0 else l), stepB d = true
  | [], l, _, _, d, h => by simp [diffL] at h
  | z :: r, l, h, h0, d, hd => by
    simp only [ascB, Bool.and_eq_true, decide_eq_true_eq] at h
    rw [diffL] at hd
    rcases List.mem_cons.1 hd with rfl | hd
    · simp [stepB]; split <;> omega
    · have := stepB_diff r z h.2 (by omega) d
      rw [if_neg (by omega)] at this
      exact this hd

theorem dec_enc {zs : List Int} (hv : validB zs = true) : decL (intsB (diffL zs 0)) = (zs, 0) := by
  have hg := good_of_valid hv
  have hm : ∀ z ∈ zs, 0 ≤ z ∧ z ≤ 4096 := fun z hz => by
    obtain ⟨k, hk⟩ := List.getElem?_of_mem hz
    exact hg.rng k z hk
  have hf := diffL_fit zs 0 hm (by omega) (by omega)
  have h := getInts_intsB (diffL zs 0) (fun z hz => by have := hf z hz; omega) (by rw [diffL_length]; have := hg.len; omega)
  rw [decL, h]
  simp only [ne_eq, not_true_eq_false, or_self, if_false]
  have hok : decOk (diffL zs 0) = true := by
    rw [decOk, sum_diff, hv, Bool.and_true, List.all_eq_true]
    intro d hd
    have hv' := hv
    simp only [validB, Bool.and_eq_true] at hv'
    have := stepB_diff zs (-1) hv'.1 (by omega) d
    rw [if_pos rfl] at this
    exact this hd
  rw [if_pos hok, sum_diff]

theorem enc_dec {bs ys : List Int} (hby : ∀ c ∈ bs, 0 ≤ c ∧ c < 256) (h : decL bs = (ys, 0)) : intsB (diffL ys 0) = bs ∧ validB ys = true := by
  rw [decL] at h
  by_cases g : (getInts bs).2.2 ≠ 0 ∨ (getInts bs).2.1 ≠ bs.length
  · rw [if_pos g] at h; simp at h
  · rw [if_neg g] at h
    by_cases g2 : decOk (getInts bs).1 = true
    · rw [if_pos g2] at h
      simp only [Prod.mk.injEq, and_true] at h
      subst h
      rw [diff_sum]
      refine ⟨getInts_back bs _ hby ?_, ?_⟩
      · have h1 : (getInts bs).2.2 = 0 := by omega
        have h2 : (getInts bs).2.1 = bs.length := by omega
        rw [← h1, ← h2]
      · rw [decOk, Bool.and_eq_true] at g2; exact g2.2
    · rw [if_neg g2] at h; simp at h

end Go.Proofs.Ytomjfmebbpfkeaa
