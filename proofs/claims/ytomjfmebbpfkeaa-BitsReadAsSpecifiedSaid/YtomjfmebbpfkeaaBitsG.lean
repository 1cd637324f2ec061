/- The walks of slices.BinarySearchFunc as bits uses it, bits.after and bits.Has. -/
import Derived.Test.YtomjfmebbpfkeaaBitsA
import Derived.Test.YtomjfmebbpfkeaaPlainF
namespace Go.Proofs.Ytomjfmebbpfkeaa
set_option linter.unusedSimpArgs false
set_option linter.unusedVariables false
set_option linter.unnecessarySimpa false
open Go.RowKit

theorem afterCmp (y x : Int) (w : World) : Calls Try.prog 59 #[.int .i64 y, .int .i64 x] w fun e w' => e = .returned (.int .i64 (if y ≤ x then -1 else 1)) ∧ w = w' := by
  by_cases h : y ≤ x
  · rw [if_pos h]
    go_enter Try.func59, Try.ntmps59
    go_wp2
    go_ret
    exact ⟨rfl, rfl⟩
  · rw [if_neg h]
    go_enter Try.func59, Try.ntmps59
    go_wp2
    go_ret
    exact ⟨rfl, rfl⟩

theorem ret_ib {a b : Int} {c : Bool} (h : a = b) : Ending.returned (.tuple #[.int .i64 a, .bool c]) = .returned (.tuple #[.int .i64 b, .bool c]) := by rw [h]

theorem callCmp (args : Array Value) (w : World) : (callFunc 59 args).run Try.prog w = .ok (.enter 59 args) w := by kernel_rfl

set_option maxRecDepth 100000 in
set_option maxHeartbeats 1000000 in
theorem binSearch (v : Value) (zs : List Int) (x : Int) (w : World) (hv : Ints w v zs) (hl : zs.length ≤ 1000000000) (hs : ∀ (i j : Nat) (y z : Int), i ≤ j → zs[i]? = some y → zs[j]? = some z → y ≤ z) :
    Calls Try.prog 58 #[v, .int .i64 x, .func (.func 59) #[] #[]] w fun e w' => e = .returned (.tuple #[.int .i64 (afterL zs x), .bool false]) ∧ w = w' := by
  obtain ⟨a, cap, b, off, rfl, hcap, hm, ha, hc⟩ := hv.open
  have HS := Hid.mk hs
  clear hs
  go_enter Try.func58, Try.ntmps58
  go_wp2
  go_loop [9, 10] (fun p q => ∃ i j : Nat, i ≤ j ∧ j ≤ zs.length ∧ p = .int .i64 i ∧ q = .int .i64 j ∧ Hid (∀ (m : Nat) (y : Int), m < i → zs[m]? = some y → y ≤ x) ∧ Hid (∀ (m : Nat) (y : Int), j ≤ m → zs[m]? = some y → x < y)) (fun p q => (intOf q).toNat - (intOf p).toNat)
  case atStart => exact ⟨0, zs.length, by omega, by omega, rfl, rfl, fun m y h => absurd h (by omega), fun m y h hy => by
    have := (List.getElem?_eq_some_iff.1 hy).1; omega⟩
  case round =>
    obtain ⟨i, j, hij, hj, rfl, rfl, h1, h2⟩ := hrel
    by_cases g : i < j
    · obtain ⟨y, hy⟩ := ints_get zs ((i + j) / 2) (by omega)
      have c1 := hc.out _ y hy
      obtain rfl := ha (by omega)
      clear ha
      by_cases gy : y ≤ x
      · have N : Hid (∀ (m : Nat) (z : Int), m < (i + j) / 2 + 1 → zs[m]? = some z → z ≤ x) := fun m z hm hz => by
          have := HS.out m _ z y (by omega) hz hy; omega
        clear hy
        go_wp2_with (go_at_call 59; refine (afterCmp _ _ _).mono ?_; rw [if_pos gy]; rintro e w' ⟨rfl, rfl⟩)
        go_round
        case rel => exact ⟨(i + j) / 2 + 1, j, by omega, hj, by go_num, rfl, N, h2⟩
        case measure => simp [intOf]; omega
      · have N : Hid (∀ (m : Nat) (z : Int), (i + j) / 2 ≤ m → zs[m]? = some z → x < z) := fun m z hm hz => by
          have := HS.out _ m y z (by omega) hy hz; omega
        clear hy
        go_wp2_with (go_at_call 59; refine (afterCmp _ _ _).mono ?_; rw [if_neg gy]; rintro e w' ⟨rfl, rfl⟩)
        go_round
        case rel => exact ⟨i, (i + j) / 2, by omega, by omega, rfl, by go_num, h1, N⟩
        case measure => simp [intOf]; omega
    · obtain rfl : i = j := by omega
      have A := Hid.mk (afterL_eq x zs i hj h1.out (fun y hy => h2.out i y (Nat.le_refl _) hy))
      by_cases gi : i < zs.length
      · obtain ⟨y, hy⟩ := ints_get zs i gi
        have c1 := hc.out _ y hy
        obtain rfl := ha (by omega)
        have gy : ¬ y ≤ x := by have := h2.out i y (Nat.le_refl _) hy; omega
        clear ha hy
        go_wp2_with (go_at_call 59; refine (afterCmp _ _ _).mono ?_; rw [if_neg gy]; rintro e w' ⟨rfl, rfl⟩)
        go_ret2
        exact ⟨ret_ib (by rw [A.out]), rfl⟩
      · go_wp2
        go_ret2
        exact ⟨ret_ib (by rw [A.out]), rfl⟩

theorem bitsAfter (v : Value) (zs : List Int) (x : Int) (w : World) (hv : Ints w v zs) (hl : zs.length ≤ 1000000000) (hs : ∀ (i j : Nat) (y z : Int), i ≤ j → zs[i]? = some y → zs[j]? = some z → y ≤ z) :
    Calls Try.prog 43 #[v, .int .i64 x] w fun e w' => e = .returned (.int .i64 (afterL zs x)) ∧ w = w' := by
  go_enter Try.func43, Try.ntmps43
  go_wp2_with (go_at_call 58; refine (binSearch _ zs _ _ hv hl hs).mono ?_; rintro e w' ⟨rfl, rfl⟩)
  go_ret
  exact ⟨rfl, rfl⟩

set_option maxRecDepth 100000 in
theorem bitsHas (v : Value) (zs : List Int) (x : Int) (w : World) (hv : Ints w v zs) (hg : validB zs = true) :
    Calls Try.prog 18 #[v, .int .i64 x] w fun e w' => e = .returned (.bool (hasL zs x)) ∧ w = w' := by
  have G := good_of_valid hg
  have H := Hid.mk (hasL_eq hg x)
  have hl := G.len
  have hal : afterL zs x ≤ zs.length := by unfold afterL; exact (List.takeWhile_sublist _).length_le
  go_enter Try.func18, Try.ntmps18
  go_wp2_with (go_at_call 43; refine (bitsAfter _ zs _ _ hv (by omega) (good_le G)).mono ?_; rintro e w' ⟨rfl, rfl⟩)
  go_ret
  refine ⟨ret_bool ?_, rfl⟩
  rw [H.out, ← odd_int]

end Go.Proofs.Ytomjfmebbpfkeaa
