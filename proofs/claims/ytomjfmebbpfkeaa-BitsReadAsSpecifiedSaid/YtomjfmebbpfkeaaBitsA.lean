/- The walks of the functions of bits and antiquaryref11 that only read a set. -/
import Derived.Test.YtomjfmebbpfkeaaBase
import Derived.Test.YtomjfmebbpfkeaaPlainA
namespace Go.Proofs.Ytomjfmebbpfkeaa
set_option linter.unusedSimpArgs false
set_option linter.unusedVariables false
set_option linter.unnecessarySimpa false
open Go.RowKit

set_option maxRecDepth 100000 in
set_option maxHeartbeats 400000 in
theorem refHas (v : Value) (zs : List Int) (x : Int) (w : World) (hv : Ints w v zs) (hl : zs.length ≤ 17592186044416) :
    Calls Try.prog 19 #[v, .int .i64 x] w fun e w' => e = .returned (.bool (hasL zs x)) ∧ Still w w' := by
  obtain ⟨a, cap, b, off, rfl, hcap, hm, ha, hc⟩ := hv.open
  go_enter Try.func19, Try.ntmps19
  go_wp2
  go_loop [5] (fun i => ∃ k : Nat, k ≤ zs.length + 1 ∧ i = .int .i64 k ∧ Hid (hasL zs x = hasL (zs.drop k) x)) (fun i => zs.length + 1 - (intOf i).toNat)
  case atStart => exact ⟨0, by omega, rfl, rfl⟩
  case round =>
    obtain ⟨k, hk, rfl, hh⟩ := hrel
    by_cases hlt : k + 1 < zs.length
    · obtain ⟨y, hy⟩ := ints_get zs k (by omega)
      obtain ⟨z, hz⟩ := ints_get zs (k+1) (by omega)
      have c1 := hc.out k y hy
      have c2 := hc.out (k+1) z hz
      obtain rfl := ha (by omega)
      have H : Hid (_ = _) := hasL_drop zs k y z x hy hz
      clear ha hy hz
      go_wp2
      · go_ret
        refine ⟨ret_bool ?_, Still.refl _⟩
        rw [hh.out, H.out]; simp [*]
      all_goals
        go_round
        case rel => exact ⟨k + 2, by omega, by go_num, by rw [Hid, hh.out, H.out]; simp; omega⟩
        case measure => simp [intOf]; omega
    · go_wp2
      go_ret
      exact ⟨ret_bool (by rw [hh.out, hasL_short _ _ (by simp; omega)]), Still.refl _⟩

set_option maxRecDepth 100000 in
set_option maxHeartbeats 400000 in
theorem refValid (v : Value) (zs : List Int) (w : World) (hv : Ints w v zs) (hl : zs.length ≤ 17592186044416) :
    Calls Try.prog 15 #[v] w fun e w' => e = .returned (.bool (validB zs)) ∧ Still w w' := by
  obtain ⟨a, cap, b, off, rfl, hcap, hm, ha, hc⟩ := hv.open
  go_enter Try.func15, Try.ntmps15
  go_wp2
  go_loopw [3] (fun i wr => ∃ k n : Nat, k ≤ zs.length ∧ i = .int .i64 k ∧ wr = w.drewN n ∧ Hid (ascB (-1) zs = ascB (prevAt zs k) (zs.drop k)) ∧ Hid (k = 0 → prevAt zs k = -1) ∧ Hid (0 < k → 0 ≤ prevAt zs k ∧ zs[k-1]? = some (prevAt zs k))) (fun i _ => zs.length - (intOf i).toNat)
  case atStart => exact ⟨0, 0, by omega, rfl, rfl, rfl, fun _ => rfl, fun h => absurd h (by omega)⟩
  case round =>
    obtain ⟨k, n, hk, rfl, rfl, hh, hp0, hp1⟩ := hrel
    by_cases hlt : k < zs.length
    · obtain ⟨y, hy⟩ := ints_get zs k (by omega)
      have c1 := hc.out k y hy
      obtain rfl := ha (by omega)
      have H : Hid (_ = _) := ascB_drop zs k y (prevAt zs k) hy
      have H2 : Hid (_ = _) := prevAt_succ zs k y hy
      have H3 : Hid (zs[k]? = some y) := hy
      clear ha hy
      generalize prevAt zs k = p at *
      have bad : Hid (y < 0 ∨ 4096 < y ∨ (0 < k ∧ y ≤ p) → validB zs = false) := by
        intro h
        have h0 := hp0.out; have h1 := hp1.out
        rw [validB, hh.out, H.out]
        simp; omega
      have good : Hid (¬ y < 0 → ¬ 4096 < y → ¬ (0 < k ∧ y ≤ p) → ∃ k_1 n_1 : Nat, k_1 ≤ zs.length ∧ Value.int IntKind.i64 (↑k + 1) = Value.int IntKind.i64 ↑k_1 ∧ True ∧ Hid (ascB (-1) zs = ascB (prevAt zs k_1) (List.drop k_1 zs)) ∧
          Hid (k_1 = 0 → prevAt zs k_1 = -1) ∧ Hid (0 < k_1 → 0 ≤ prevAt zs k_1 ∧ zs[k_1 - 1]? = some (prevAt zs k_1))) := by
        intro g1 g2 g3
        have h0 := hp0.out; have h1 := hp1.out
        refine ⟨k + 1, 0, by omega, by go_num, trivial, ?_, fun h => absurd h (by omega), fun _ => ?_⟩
        · rw [Hid, hh.out, H.out, H2.out]
          have e1 : decide (p < y) = true := by simp; omega
          have e2 : decide (y ≤ 4096) = true := by simp; omega
          rw [e1, e2]; rfl
        · rw [H2.out]; exact ⟨by omega, by simpa using H3.out⟩
      clear H H2 H3 hp0 hh
      by_cases g1 : y < 0
      · go_wp2
        go_quiet (fail)
        go_wp2
        go_ret
        exact ⟨ret_bool (bad.out (by omega)).symm, by first | exact Still.two _ _ _ | exact Still.one _ _⟩
      · have g1' : decide (y < 0) = false := by simpa using g1
        by_cases g2 : 4096 < y
        · go_wp2
          go_quiet (fail)
          go_wp2
          go_ret
          exact ⟨ret_bool (bad.out (by omega)).symm, by first | exact Still.two _ _ _ | exact Still.one _ _⟩
        · have g2' : decide (4096 < y) = false := by simpa using g2
          by_cases g3 : 0 < k
          · have c2 := hc.out (k-1) _ (hp1.out g3).2
            by_cases g4 : y ≤ p
            · go_wp2
              go_quiet (fail)
              go_wp2
              go_ret
              exact ⟨ret_bool (bad.out (by omega)).symm, by first | exact Still.two _ _ _ | exact Still.one _ _⟩
            · have g4' : decide (y ≤ p) = false := by simpa using g4
              go_wp2
              go_quiet (fail)
              go_wp2
              go_roundw
              case rel =>
                obtain ⟨k1, n1, r1, r2, _, r3⟩ := good.out (by omega) (by omega) (by omega)
                exact ⟨k1, _, r1, r2, rfl, r3⟩
              case measure => simp [intOf]; omega
          · have g3' : decide (0 < k) = false := by simpa using g3
            go_wp2
            go_quiet (fail)
            go_wp2
            go_roundw
            case rel =>
              obtain ⟨k1, n1, r1, r2, _, r3⟩ := good.out (by omega) (by omega) (by omega)
              exact ⟨k1, _, r1, r2, rfl, r3⟩
            case measure => simp [intOf]; omega
    · have hkz : k = zs.length := by omega
      have hv2 : validB zs = decide (zs.length % 2 = 0) := by rw [validB, hh.out, ascB_end _ _ _ (by omega)]; rfl
      have HV : Hid (validB zs = decide (zs.length % 2 = 0)) := hv2
      clear hv2 hh
      go_wp2
      go_ret
      refine ⟨ret_bool ?_, Still.one _ _⟩
      rw [HV.out]
      rw [Bool.eq_iff_iff]; simp only [beq_iff_eq, decide_eq_true_eq]; omega

set_option maxRecDepth 100000 in
set_option maxHeartbeats 400000 in
theorem bitsValid (v : Value) (zs : List Int) (w : World) (hv : Ints w v zs) (hl : zs.length ≤ 17592186044416) :
    Calls Try.prog 14 #[v] w fun e w' => e = .returned (.bool (validB zs)) ∧ Still w w' := by
  obtain ⟨a, cap, b, off, rfl, hcap, hm, ha, hc⟩ := hv.open
  go_enter Try.func14, Try.ntmps14
  go_wp2
  go_loopw [7] (fun i wr => ∃ k n : Nat, k ≤ zs.length ∧ i = .int .i64 k ∧ wr = w.drewN n ∧ Hid (ascB (-1) zs = ascB (prevAt zs k) (zs.drop k)) ∧ Hid (k = 0 → prevAt zs k = -1) ∧ Hid (0 < k → 0 ≤ prevAt zs k ∧ zs[k-1]? = some (prevAt zs k))) (fun i _ => zs.length - (intOf i).toNat)
  case atStart => exact ⟨0, 0, by omega, rfl, rfl, rfl, fun _ => rfl, fun h => absurd h (by omega)⟩
  case round =>
    obtain ⟨k, n, hk, rfl, rfl, hh, hp0, hp1⟩ := hrel
    by_cases hlt : k < zs.length
    · obtain ⟨y, hy⟩ := ints_get zs k (by omega)
      have c1 := hc.out k y hy
      obtain rfl := ha (by omega)
      have H : Hid (_ = _) := ascB_drop zs k y (prevAt zs k) hy
      have H2 : Hid (_ = _) := prevAt_succ zs k y hy
      have H3 : Hid (zs[k]? = some y) := hy
      clear ha hy
      generalize prevAt zs k = p at *
      have bad : Hid (y < 0 ∨ 4096 < y ∨ (0 < k ∧ y ≤ p) → validB zs = false) := by
        intro h
        have h0 := hp0.out; have h1 := hp1.out
        rw [validB, hh.out, H.out]
        simp; omega
      have good : Hid (¬ y < 0 → ¬ 4096 < y → ¬ (0 < k ∧ y ≤ p) → ∃ k_1 n_1 : Nat, k_1 ≤ zs.length ∧ Value.int IntKind.i64 (↑k + 1) = Value.int IntKind.i64 ↑k_1 ∧ True ∧ Hid (ascB (-1) zs = ascB (prevAt zs k_1) (List.drop k_1 zs)) ∧
          Hid (k_1 = 0 → prevAt zs k_1 = -1) ∧ Hid (0 < k_1 → 0 ≤ prevAt zs k_1 ∧ zs[k_1 - 1]? = some (prevAt zs k_1))) := by
        intro g1 g2 g3
        have h0 := hp0.out; have h1 := hp1.out
        refine ⟨k + 1, 0, by omega, by go_num, trivial, ?_, fun h => absurd h (by omega), fun _ => ?_⟩
        · rw [Hid, hh.out, H.out, H2.out]
          have e1 : decide (p < y) = true := by simp; omega
          have e2 : decide (y ≤ 4096) = true := by simp; omega
          rw [e1, e2]; rfl
        · rw [H2.out]; exact ⟨by omega, by simpa using H3.out⟩
      clear H H2 H3 hp0 hh
      by_cases g1 : y < 0
      · go_wp2
        go_ret
        exact ⟨ret_bool (bad.out (by omega)).symm, by first | exact Still.two _ _ _ | exact Still.one _ _⟩
      · have g1' : decide (y < 0) = false := by simpa using g1
        by_cases g2 : 4096 < y
        · go_wp2
          go_ret
          exact ⟨ret_bool (bad.out (by omega)).symm, by first | exact Still.two _ _ _ | exact Still.one _ _⟩
        · have g2' : decide (4096 < y) = false := by simpa using g2
          by_cases g3 : 0 < k
          · have c2 := hc.out (k-1) _ (hp1.out g3).2
            by_cases g4 : y ≤ p
            · go_wp2
              go_ret
              exact ⟨ret_bool (bad.out (by omega)).symm, by first | exact Still.two _ _ _ | exact Still.one _ _⟩
            · have g4' : decide (y ≤ p) = false := by simpa using g4
              go_wp2
              go_roundw
              case rel =>
                obtain ⟨k1, n1, r1, r2, _, r3⟩ := good.out (by omega) (by omega) (by omega)
                exact ⟨k1, _, r1, r2, rfl, r3⟩
              case measure => simp [intOf]; omega
          · have g3' : decide (0 < k) = false := by simpa using g3
            go_wp2
            go_roundw
            case rel =>
              obtain ⟨k1, n1, r1, r2, _, r3⟩ := good.out (by omega) (by omega) (by omega)
              exact ⟨k1, _, r1, r2, rfl, r3⟩
            case measure => simp [intOf]; omega
    · have hkz : k = zs.length := by omega
      have hv2 : validB zs = decide (zs.length % 2 = 0) := by rw [validB, hh.out, ascB_end _ _ _ (by omega)]; rfl
      have HV : Hid (validB zs = decide (zs.length % 2 = 0)) := hv2
      clear hv2 hh
      go_wp2
      go_ret
      refine ⟨ret_bool ?_, Still.one _ _⟩
      rw [HV.out]
      rw [Bool.eq_iff_iff]; simp only [beq_iff_eq, decide_eq_true_eq]; omega

set_option maxRecDepth 100000 in
set_option maxHeartbeats 400000 in
theorem refSame (u v : Value) (xs ys : List Int) (w : World) (hu : Ints w u xs) (hv : Ints w v ys) (hl : xs.length ≤ 17592186044416) (hl2 : ys.length ≤ 17592186044416) :
    Calls Try.prog 16 #[u, v] w fun e w' => e = .returned (.bool (xs == ys)) ∧ Still w w' := by
  obtain ⟨a, cap, b, off, rfl, hcap, hm, ha, hc⟩ := hu.open
  obtain ⟨a2, cap2, b2, off2, rfl, hcap2, hm2, ha2, hc2⟩ := hv.open
  by_cases hlen : xs.length = ys.length
  · have hlen' : ((xs.length : Int) != (ys.length : Int)) = false := by simp [hlen]
    have HLEN : Hid (xs.length = ys.length) := hlen
    clear hlen
    go_enter Try.func16, Try.ntmps16
    go_wp2
    go_loopw [5] (fun i wr => ∃ k n : Nat, k ≤ xs.length ∧ i = .int .i64 k ∧ wr = w.drewN n ∧ Hid ((xs == ys) = sameFrom xs ys k)) (fun i _ => xs.length - (intOf i).toNat)
    case atStart => exact ⟨0, 0, by omega, rfl, rfl, rfl⟩
    case round =>
      obtain ⟨k, n, hk, rfl, rfl, hh⟩ := hrel
      by_cases hlt : k < xs.length
      · have hlt2 : k < ys.length := by have := HLEN.out; omega
        obtain ⟨y, hy⟩ := ints_get xs k (by omega)
        obtain ⟨z, hz⟩ := ints_get ys k (by omega)
        have c1 := hc.out k y hy
        have c2 := hc2.out k z hz
        obtain rfl := ha (by omega)
        obtain rfl := ha2 (by omega)
        have H : Hid (_ = _) := sameFrom_step xs ys k y z hy hz
        clear ha ha2 hy hz
        by_cases e : y = z
        · have e' : (y != z) = false := by simp [e]
          have E : Hid (y = z) := e
          clear e
          go_wp2
          go_quiet (fail)
          go_wp2
          go_roundw
          case rel => exact ⟨k + 1, _, by omega, by go_num, rfl, by rw [Hid, hh.out, H.out, E.out]; simp⟩
          case measure => simp [intOf]; omega
        · have e' : (y != z) = true := by simp [e]
          go_wp2
          go_quiet (fail)
          go_wp2
          go_ret
          exact ⟨ret_bool (by rw [hh.out, H.out]; simp [e]), by first | exact Still.two _ _ _ | exact Still.one _ _⟩
      · go_wp2
        go_ret
        refine ⟨ret_bool ?_, Still.one _ _⟩
        rw [hh.out, sameFrom, List.drop_eq_nil_of_le (by omega), List.drop_eq_nil_of_le (by have := HLEN.out; omega)]; rfl
  · have hlen' : ((xs.length : Int) != (ys.length : Int)) = true := by simp; omega
    go_enter Try.func16, Try.ntmps16
    go_wp2
    go_ret
    exact ⟨ret_bool (by symm; rw [beq_eq_false_iff_ne]; intro h; exact hlen (by rw [h])), Still.refl _⟩

set_option maxRecDepth 100000 in
set_option maxHeartbeats 400000 in
theorem refSameInts (u v : Value) (xs ys : List Int) (w : World) (hu : Ints w u xs) (hv : Ints w v ys) (hl : xs.length ≤ 17592186044416) (hl2 : ys.length ≤ 17592186044416) :
    Calls Try.prog 22 #[u, v] w fun e w' => e = .returned (.bool (xs == ys)) ∧ Still w w' := by
  obtain ⟨a, cap, b, off, rfl, hcap, hm, ha, hc⟩ := hu.open
  obtain ⟨a2, cap2, b2, off2, rfl, hcap2, hm2, ha2, hc2⟩ := hv.open
  by_cases hlen : xs.length = ys.length
  · have hlen' : ((xs.length : Int) != (ys.length : Int)) = false := by simp [hlen]
    have HLEN : Hid (xs.length = ys.length) := hlen
    clear hlen
    go_enter Try.func22, Try.ntmps22
    go_wp2
    go_loopw [5] (fun i wr => ∃ k n : Nat, k ≤ xs.length ∧ i = .int .i64 k ∧ wr = w.drewN n ∧ Hid ((xs == ys) = sameFrom xs ys k)) (fun i _ => xs.length - (intOf i).toNat)
    case atStart => exact ⟨0, 0, by omega, rfl, rfl, rfl⟩
    case round =>
      obtain ⟨k, n, hk, rfl, rfl, hh⟩ := hrel
      by_cases hlt : k < xs.length
      · have hlt2 : k < ys.length := by have := HLEN.out; omega
        obtain ⟨y, hy⟩ := ints_get xs k (by omega)
        obtain ⟨z, hz⟩ := ints_get ys k (by omega)
        have c1 := hc.out k y hy
        have c2 := hc2.out k z hz
        obtain rfl := ha (by omega)
        obtain rfl := ha2 (by omega)
        have H : Hid (_ = _) := sameFrom_step xs ys k y z hy hz
        clear ha ha2 hy hz
        by_cases e : y = z
        · have e' : (y != z) = false := by simp [e]
          have E : Hid (y = z) := e
          clear e
          go_wp2
          go_quiet (fail)
          go_wp2
          go_roundw
          case rel => exact ⟨k + 1, _, by omega, by go_num, rfl, by rw [Hid, hh.out, H.out, E.out]; simp⟩
          case measure => simp [intOf]; omega
        · have e' : (y != z) = true := by simp [e]
          go_wp2
          go_quiet (fail)
          go_wp2
          go_ret
          exact ⟨ret_bool (by rw [hh.out, H.out]; simp [e]), by first | exact Still.two _ _ _ | exact Still.one _ _⟩
      · go_wp2
        go_ret
        refine ⟨ret_bool ?_, Still.one _ _⟩
        rw [hh.out, sameFrom, List.drop_eq_nil_of_le (by omega), List.drop_eq_nil_of_le (by have := HLEN.out; omega)]; rfl
  · have hlen' : ((xs.length : Int) != (ys.length : Int)) = true := by simp; omega
    go_enter Try.func22, Try.ntmps22
    go_wp2
    go_ret
    exact ⟨ret_bool (by symm; rw [beq_eq_false_iff_ne]; intro h; exact hlen (by rw [h])), Still.refl _⟩

theorem andRule (x y : Bool) (w : World) : Calls Try.prog 46 #[.bool x, .bool y] w fun e w' => e = .returned (.bool (x && y)) ∧ Still w w' := by
  cases x <;> cases y <;> (go_enter Try.func46, Try.ntmps46; go_wp2; go_ret; exact ⟨rfl, Still.refl _⟩)
theorem orRule (x y : Bool) (w : World) : Calls Try.prog 48 #[.bool x, .bool y] w fun e w' => e = .returned (.bool (x || y)) ∧ Still w w' := by
  cases x <;> cases y <;> (go_enter Try.func48, Try.ntmps48; go_wp2; go_ret; exact ⟨rfl, Still.refl _⟩)
theorem minusRule (x y : Bool) (w : World) : Calls Try.prog 49 #[.bool x, .bool y] w fun e w' => e = .returned (.bool (x && !y)) ∧ Still w w' := by
  cases x <;> cases y <;> (go_enter Try.func49, Try.ntmps49; go_wp2; go_ret; exact ⟨rfl, Still.refl _⟩)

set_option maxRecDepth 100000 in
set_option maxHeartbeats 400000 in
theorem bitsRank (v : Value) (zs : List Int) (s : Int) (w : World) (hv : Ints w v zs) (hg : Good zs) :
    Calls Try.prog 25 #[v, .int .i64 s] w fun e w' => e = .returned (.int .i64 (rankL zs s)) ∧ Still w w' := by
  obtain ⟨a, cap, b, off, rfl, hcap, hm, ha, hc⟩ := hv.open
  have hl := hg.len
  have G := Hid.mk hg.rng
  have hev := hg.even
  go_enter Try.func25, Try.ntmps25
  go_wp2
  go_loopw [5, 6] (fun t i wr => ∃ (k n : Nat) (q : Int), k ≤ zs.length ∧ k % 2 = 0 ∧ i = .int .i64 k ∧ t = .int .i64 q ∧ -4096 * k ≤ q ∧ q ≤ 4096 * k ∧ wr = w.drewN n ∧ Hid (rankL zs s = q + rankL (zs.drop k) s)) (fun _ i _ => zs.length - (intOf i).toNat)
  case atStart => exact ⟨0, 0, 0, by omega, by omega, rfl, rfl, by omega, by omega, rfl, by simp [Hid]⟩
  case round =>
    obtain ⟨k, n, q, hk, hk2, rfl, rfl, hq1, hq2, rfl, hh⟩ := hrel
    by_cases hlt : k < zs.length
    · obtain ⟨y, hy⟩ := ints_get zs k (by omega)
      obtain ⟨z, hz⟩ := ints_get zs (k+1) (by omega)
      have c1 := hc.out k y hy
      have c2 := hc.out (k+1) z hz
      obtain ⟨y1, y2⟩ := G.out k y hy
      obtain ⟨z1, z2⟩ := G.out (k+1) z hz
      obtain rfl := ha (by omega)
      have H : Hid (_ = _) := rankL_drop zs k y z s hy hz
      clear ha hy hz
      by_cases g1 : y < s
      · go_wp2
        go_quiet (fail)
        go_wp2
        go_roundw
        case rel =>
          refine ⟨k + 2, _, q + (min z s - y), by omega, by omega, by go_num, ?_, by omega, by omega, rfl, ?_⟩
          · congr 1; split <;> omega
          · rw [Hid, hh.out, H.out, if_pos g1]; omega
        case measure => simp [intOf]; omega
      · have g1' : decide (y < s) = false := by simpa using g1
        go_wp2
        go_ret
        exact ⟨ret_int (by rw [hh.out, H.out, if_neg (by omega)]; omega), Still.one _ _⟩
    · go_wp2
      go_ret
      exact ⟨ret_int (by rw [hh.out, rankL_short _ _ (by simp; omega)]; omega), Still.one _ _⟩

theorem bitsCount (v : Value) (zs : List Int) (w : World) (hv : Ints w v zs) (hg : Good zs) :
    Calls Try.prog 20 #[v] w fun e w' => e = .returned (.int .i64 (rankL zs 4096)) ∧ Still w w' := by
  go_enter Try.func20, Try.ntmps20
  go_wp2_with (go_at_call 25; refine (bitsRank _ zs _ _ hv hg).mono ?_; rintro e w' ⟨rfl, n, rfl⟩)
  go_ret
  exact ⟨rfl, Still.one _ _⟩

set_option maxRecDepth 100000 in
set_option maxHeartbeats 400000 in
theorem bitsSelect (v : Value) (zs : List Int) (s : Int) (w : World) (hv : Ints w v zs) (hg : Good zs) (hs : s ≤ 9223372036854775807) :
    Calls Try.prog 27 #[v, .int .i64 s] w fun e w' => e = .returned (.int .i64 (selB zs s)) ∧ Still w w' := by
  obtain ⟨a, cap, b, off, rfl, hcap, hm, ha, hc⟩ := hv.open
  have hl := hg.len
  have G := Hid.mk hg.rng
  have A := Hid.mk hg.asc
  have hev := hg.even
  by_cases hs0 : s < 0
  · go_enter Try.func27, Try.ntmps27
    go_wp2
    go_ret
    exact ⟨ret_int (by rw [selB, if_pos hs0]), Still.refl _⟩
  · have R : Hid (selB zs s = selL zs s) := if_neg hs0
    go_enter Try.func27, Try.ntmps27
    go_wp2
    go_loopw [1, 5] (fun t i wr => ∃ (k n : Nat) (q : Int), k ≤ zs.length ∧ k % 2 = 0 ∧ i = .int .i64 k ∧ t = .int .i64 q ∧ 0 ≤ q ∧ q ≤ 9223372036854775807 ∧ wr = w.drewN n ∧ Hid (selL zs s = selL (zs.drop k) q)) (fun _ i _ => zs.length - (intOf i).toNat)
    case atStart => exact ⟨0, 0, s, by omega, by omega, rfl, rfl, by omega, by omega, rfl, by simp [Hid]⟩
    case round =>
      obtain ⟨k, n, q, hk, hk2, rfl, rfl, hq1, hq2, rfl, hh⟩ := hrel
      by_cases hlt : k < zs.length
      · obtain ⟨y, hy⟩ := ints_get zs k (by omega)
        obtain ⟨z, hz⟩ := ints_get zs (k+1) (by omega)
        have c1 := hc.out k y hy
        have c2 := hc.out (k+1) z hz
        obtain ⟨y1, y2⟩ := G.out k y hy
        obtain ⟨z1, z2⟩ := G.out (k+1) z hz
        have yz := A.out k y z hy hz
        obtain rfl := ha (by omega)
        have H : Hid (_ = _) := selL_drop zs k y z q hy hz
        clear ha hy hz
        by_cases g1 : z - y ≤ q
        · go_wp2
          go_quiet (fail)
          go_wp2
          go_roundw
          case rel =>
            refine ⟨k + 2, _, q - (z - y), by omega, by omega, by go_num, by go_num, by omega, by omega, rfl, ?_⟩
            rw [Hid, hh.out, H.out, if_pos g1]
          case measure => simp [intOf]; omega
        · have g1' : decide (z - y ≤ q) = false := by simpa using g1
          go_wp2
          go_quiet (fail)
          go_wp2
          go_ret
          exact ⟨ret_int (by rw [R.out, hh.out, H.out, if_neg (by omega)]), by first | exact Still.two _ _ _ | exact Still.one _ _⟩
      · go_wp2
        go_ret
        exact ⟨ret_int (by rw [R.out, hh.out, selL_short _ _ (by simp; omega)]), Still.one _ _⟩

end Go.Proofs.Ytomjfmebbpfkeaa
