/- The walks of bits.Run, merge, And, Or and Minus. -/
import Derived.Test.YtomjfmebbpfkeaaBitsA
import Derived.Test.YtomjfmebbpfkeaaPlainF
namespace Go.Proofs.Ytomjfmebbpfkeaa
set_option linter.unusedSimpArgs false
set_option linter.unusedVariables false
set_option linter.unnecessarySimpa false
open Go.RowKit

theorem elemInt : Elem1 Try.prog 3 (.int .i64 0) 8 := ⟨by kernel_rfl, rfl⟩


set_option maxRecDepth 100000 in
set_option maxHeartbeats 400000 in
theorem bitsRun (x y : Int) (w : World) : Calls Try.prog 13 #[.int .i64 x, .int .i64 y] w (MadeInts 3 w (runL x y)) := by
  by_cases h1 : 0 < x
  all_goals by_cases h2 : 4096 < y
  all_goals by_cases h : max x 0 < min y 4096
  all_goals
    go_enter Try.func13, Try.ntmps13
    go_wp2
  all_goals go_ret
  all_goals first
    | exact ⟨_, rfl, by rw [show runL x y = [] from if_neg (by omega)]; exact Own.nil _ _ _, Below.refl _ _⟩
    | exact ⟨_, rfl, by rw [show runL x y = [max x 0, min y 4096] from if_pos (by omega), show max x 0 = _ from by first | exact (Int.max_eq_left (by omega)) | exact (Int.max_eq_right (by omega)), show min y 4096 = _ from by first | exact (Int.min_eq_left (by omega)) | exact (Int.min_eq_right (by omega))]; exact Own.lit w [_, _] _ _ (Nat.le_refl _) (by simp [maxLen]), (Below.refl _ _).alloc (Nat.le_refl _) _⟩

set_option maxRecDepth 100000 in
set_option maxHeartbeats 1000000 in
theorem bitsMerge (r : Bool → Bool → Bool) (f : Nat) (hcf : ∀ args w, (callFunc f args).run Try.prog w = .ok (.enter f args) w) (hr : ∀ x y w, Calls Try.prog f #[.bool x, .bool y] w fun e w' => e = .returned (.bool (r x y)) ∧ Still w w')
    (u v : Value) (xs ys : List Int) (w : World) (hu : Ints w u xs) (hv : Ints w v ys) (gx : Good xs) (gy : Good ys) :
    Calls Try.prog 45 #[u, v, .func (.func f) #[] #[]] w (MadeInts 3 w (mergeL r xs ys)) := by
  obtain ⟨a, cap, b, off, rfl, hcap, hm, ha, hc⟩ := hu.open
  obtain ⟨a2, cap2, b2, off2, rfl, hcap2, hm2, ha2, hc2⟩ := hv.open
  have hl := gx.len
  have hl2 := gy.len
  have G := Hid.mk gx.rng
  have G2 := Hid.mk gy.rng
  have HR := Hid.mk hr
  clear hr
  go_enter Try.func45, Try.ntmps45
  go_wp2
  go_loopw [7, 8, 9] (fun o i j wr => ∃ (p q : Nat) (out : List Int), p ≤ xs.length ∧ q ≤ ys.length ∧ out.length ≤ p + q ∧ i = .int .i64 p ∧ j = .int .i64 q ∧ Own w.heap.size 3 wr o (out.map (Value.int .i64)) ∧ Below w.heap.size w wr ∧ Hid (MergeAt r xs ys p q out)) (fun _ i j _ => xs.length + ys.length - (intOf i).toNat - (intOf j).toNat)
  case atStart => exact ⟨0, 0, [], by omega, by omega, by simp, rfl, rfl, Own.nil _ _ _, Below.refl _ _, MergeAt.start _ _ _⟩
  case round =>
    obtain ⟨p, q, out, hp, hq, ho, rfl, rfl, hown, hb, hh⟩ := hrel
    have HB := Hid.mk hb
    clear hb
    obtain ⟨ao, co, rfl⟩ := hown.formInts
    by_cases h1 : p < xs.length
    all_goals by_cases h2 : q < ys.length
    · obtain ⟨y, hy⟩ := ints_get xs p (by omega)
      have c1 := below_cell HB.out (hc.out p y hy)
      obtain ⟨y1, y2⟩ := G.out p y hy
      obtain rfl := ha (by omega)
      clear ha
      obtain ⟨z, hz⟩ := ints_get ys q (by omega)
      have c2 := below_cell HB.out (hc2.out q z hz)
      obtain ⟨z1, z2⟩ := G2.out q z hz
      obtain rfl := ha2 (by omega)
      clear ha2
      rcases Int.lt_trichotomy y z with g | g | g
      · obtain ⟨b1, e1⟩ : ∃ b1, (((↑p + 1 : Int) % 2) == 1) = b1 := ⟨_, rfl⟩
        obtain ⟨b2, e2⟩ : ∃ b2, (((↑q : Int) % 2) == 1) = b2 := ⟨_, rfl⟩
        obtain ⟨b3, e3⟩ : ∃ b3, (((out.length : Int) % 2) == 1) = b3 := ⟨_, rfl⟩
        have NX : Hid (∀ c, (!(r b1 b2 == b3)) = c → MergeAt r xs ys (p + 1) (q) (addIf c out y)) := by
          intro c hcc
          refine MergeAt.left hh.out y hy (.inr ⟨z, hz, g⟩) c ?_
          rw [← hcc, ← bne, ← e1, ← e2, ← e3, odd_int1 p, odd_int q, odd_int]
        cases hcc : (r b1 b2 == b3)
        · have N := Hid.mk (NX.out true (by rw [hcc]; rfl))
          go_wp2_with (first | (at_builtin; refine wp_push (.tmp 80) (.tmp 82) 23 _ 3 8 _ elemInt rfl rfl Try.underlying23 w.heap.size _ (.int .i64 y) _ rfl hown.drewN rfl rfl (by simp [maxLen]; omega) (by simp; omega) (HB.out.size) ?_; intro v' w' hown' hb') | (refine (HR.out _ _ _).mono ?_; rintro e w' ⟨rfl, n, rfl⟩))
          go_roundw
          case rel => exact ⟨p + 1, q, out ++ [y], by omega, by omega, by simp; omega, by go_num, by go_num, by simpa using hown', (HB.out.trans ((Still.one _ _).below _)).trans hb', N⟩
          case measure => simp [intOf]; omega
        · have N := Hid.mk (NX.out false (by rw [hcc]; rfl))
          go_wp2_with (refine (HR.out _ _ _).mono ?_; rintro e w' ⟨rfl, n, rfl⟩)
          go_roundw
          case rel => exact ⟨p + 1, q, out, by omega, by omega, by omega, by go_num, by go_num, hown, HB.out.trans ((Still.one _ _).below _), N⟩
          case measure => simp [intOf]; omega
      · obtain rfl := g
        obtain ⟨b1, e1⟩ : ∃ b1, (((↑p + 1 : Int) % 2) == 1) = b1 := ⟨_, rfl⟩
        obtain ⟨b2, e2⟩ : ∃ b2, (((↑q + 1 : Int) % 2) == 1) = b2 := ⟨_, rfl⟩
        obtain ⟨b3, e3⟩ : ∃ b3, (((out.length : Int) % 2) == 1) = b3 := ⟨_, rfl⟩
        have NX : Hid (∀ c, (!(r b1 b2 == b3)) = c → MergeAt r xs ys (p + 1) (q + 1) (addIf c out y)) := by
          intro c hcc
          refine MergeAt.both hh.out y hy hz c ?_
          rw [← hcc, ← bne, ← e1, ← e2, ← e3, odd_int1 p, odd_int1 q, odd_int]
        cases hcc : (r b1 b2 == b3)
        · have N := Hid.mk (NX.out true (by rw [hcc]; rfl))
          go_wp2_with (first | (at_builtin; refine wp_push (.tmp 80) (.tmp 82) 23 _ 3 8 _ elemInt rfl rfl Try.underlying23 w.heap.size _ (.int .i64 y) _ rfl hown.drewN rfl rfl (by simp [maxLen]; omega) (by simp; omega) (HB.out.size) ?_; intro v' w' hown' hb') | (refine (HR.out _ _ _).mono ?_; rintro e w' ⟨rfl, n, rfl⟩))
          go_roundw
          case rel => exact ⟨p + 1, q + 1, out ++ [y], by omega, by omega, by simp; omega, by go_num, by go_num, by simpa using hown', (HB.out.trans ((Still.one _ _).below _)).trans hb', N⟩
          case measure => simp [intOf]; omega
        · have N := Hid.mk (NX.out false (by rw [hcc]; rfl))
          go_wp2_with (refine (HR.out _ _ _).mono ?_; rintro e w' ⟨rfl, n, rfl⟩)
          go_roundw
          case rel => exact ⟨p + 1, q + 1, out, by omega, by omega, by omega, by go_num, by go_num, hown, HB.out.trans ((Still.one _ _).below _), N⟩
          case measure => simp [intOf]; omega
      · obtain ⟨b1, e1⟩ : ∃ b1, (((↑p : Int) % 2) == 1) = b1 := ⟨_, rfl⟩
        obtain ⟨b2, e2⟩ : ∃ b2, (((↑q + 1 : Int) % 2) == 1) = b2 := ⟨_, rfl⟩
        obtain ⟨b3, e3⟩ : ∃ b3, (((out.length : Int) % 2) == 1) = b3 := ⟨_, rfl⟩
        have NX : Hid (∀ c, (!(r b1 b2 == b3)) = c → MergeAt r xs ys (p) (q + 1) (addIf c out z)) := by
          intro c hcc
          refine MergeAt.right hh.out z hz (.inr ⟨y, hy, g⟩) c ?_
          rw [← hcc, ← bne, ← e1, ← e2, ← e3, odd_int p, odd_int1 q, odd_int]
        cases hcc : (r b1 b2 == b3)
        · have N := Hid.mk (NX.out true (by rw [hcc]; rfl))
          go_wp2_with (first | (at_builtin; refine wp_push (.tmp 80) (.tmp 82) 23 _ 3 8 _ elemInt rfl rfl Try.underlying23 w.heap.size _ (.int .i64 z) _ rfl hown.drewN rfl rfl (by simp [maxLen]; omega) (by simp; omega) (HB.out.size) ?_; intro v' w' hown' hb') | (refine (HR.out _ _ _).mono ?_; rintro e w' ⟨rfl, n, rfl⟩))
          go_roundw
          case rel => exact ⟨p, q + 1, out ++ [z], by omega, by omega, by simp; omega, by go_num, by go_num, by simpa using hown', (HB.out.trans ((Still.one _ _).below _)).trans hb', N⟩
          case measure => simp [intOf]; omega
        · have N := Hid.mk (NX.out false (by rw [hcc]; rfl))
          go_wp2_with (refine (HR.out _ _ _).mono ?_; rintro e w' ⟨rfl, n, rfl⟩)
          go_roundw
          case rel => exact ⟨p, q + 1, out, by omega, by omega, by omega, by go_num, by go_num, hown, HB.out.trans ((Still.one _ _).below _), N⟩
          case measure => simp [intOf]; omega
    · obtain ⟨y, hy⟩ := ints_get xs p (by omega)
      have c1 := below_cell HB.out (hc.out p y hy)
      obtain ⟨y1, y2⟩ := G.out p y hy
      obtain rfl := ha (by omega)
      clear ha
      obtain ⟨b1, e1⟩ : ∃ b1, (((↑p + 1 : Int) % 2) == 1) = b1 := ⟨_, rfl⟩
      obtain ⟨b2, e2⟩ : ∃ b2, (((↑q : Int) % 2) == 1) = b2 := ⟨_, rfl⟩
      obtain ⟨b3, e3⟩ : ∃ b3, (((out.length : Int) % 2) == 1) = b3 := ⟨_, rfl⟩
      have NX : Hid (∀ c, (!(r b1 b2 == b3)) = c → MergeAt r xs ys (p + 1) (q) (addIf c out y)) := by
        intro c hcc
        refine MergeAt.left hh.out y hy (.inl (by omega)) c ?_
        rw [← hcc, ← bne, ← e1, ← e2, ← e3, odd_int1 p, odd_int q, odd_int]
      cases hcc : (r b1 b2 == b3)
      · have N := Hid.mk (NX.out true (by rw [hcc]; rfl))
        go_wp2_with (first | (at_builtin; refine wp_push (.tmp 80) (.tmp 82) 23 _ 3 8 _ elemInt rfl rfl Try.underlying23 w.heap.size _ (.int .i64 y) _ rfl hown.drewN rfl rfl (by simp [maxLen]; omega) (by simp; omega) (HB.out.size) ?_; intro v' w' hown' hb') | (refine (HR.out _ _ _).mono ?_; rintro e w' ⟨rfl, n, rfl⟩))
        go_roundw
        case rel => exact ⟨p + 1, q, out ++ [y], by omega, by omega, by simp; omega, by go_num, by go_num, by simpa using hown', (HB.out.trans ((Still.one _ _).below _)).trans hb', N⟩
        case measure => simp [intOf]; omega
      · have N := Hid.mk (NX.out false (by rw [hcc]; rfl))
        go_wp2_with (refine (HR.out _ _ _).mono ?_; rintro e w' ⟨rfl, n, rfl⟩)
        go_roundw
        case rel => exact ⟨p + 1, q, out, by omega, by omega, by omega, by go_num, by go_num, hown, HB.out.trans ((Still.one _ _).below _), N⟩
        case measure => simp [intOf]; omega
    · obtain ⟨z, hz⟩ := ints_get ys q (by omega)
      have c2 := below_cell HB.out (hc2.out q z hz)
      obtain ⟨z1, z2⟩ := G2.out q z hz
      obtain rfl := ha2 (by omega)
      clear ha2
      obtain ⟨b1, e1⟩ : ∃ b1, (((↑p : Int) % 2) == 1) = b1 := ⟨_, rfl⟩
      obtain ⟨b2, e2⟩ : ∃ b2, (((↑q + 1 : Int) % 2) == 1) = b2 := ⟨_, rfl⟩
      obtain ⟨b3, e3⟩ : ∃ b3, (((out.length : Int) % 2) == 1) = b3 := ⟨_, rfl⟩
      have NX : Hid (∀ c, (!(r b1 b2 == b3)) = c → MergeAt r xs ys (p) (q + 1) (addIf c out z)) := by
        intro c hcc
        refine MergeAt.right hh.out z hz (.inl (by omega)) c ?_
        rw [← hcc, ← bne, ← e1, ← e2, ← e3, odd_int p, odd_int1 q, odd_int]
      cases hcc : (r b1 b2 == b3)
      · have N := Hid.mk (NX.out true (by rw [hcc]; rfl))
        go_wp2_with (first | (at_builtin; refine wp_push (.tmp 80) (.tmp 82) 23 _ 3 8 _ elemInt rfl rfl Try.underlying23 w.heap.size _ (.int .i64 z) _ rfl hown.drewN rfl rfl (by simp [maxLen]; omega) (by simp; omega) (HB.out.size) ?_; intro v' w' hown' hb') | (refine (HR.out _ _ _).mono ?_; rintro e w' ⟨rfl, n, rfl⟩))
        go_roundw
        case rel => exact ⟨p, q + 1, out ++ [z], by omega, by omega, by simp; omega, by go_num, by go_num, by simpa using hown', (HB.out.trans ((Still.one _ _).below _)).trans hb', N⟩
        case measure => simp [intOf]; omega
      · have N := Hid.mk (NX.out false (by rw [hcc]; rfl))
        go_wp2_with (refine (HR.out _ _ _).mono ?_; rintro e w' ⟨rfl, n, rfl⟩)
        go_roundw
        case rel => exact ⟨p, q + 1, out, by omega, by omega, by omega, by go_num, by go_num, hown, HB.out.trans ((Still.one _ _).below _), N⟩
        case measure => simp [intOf]; omega
    · have N := Hid.mk (MergeAt.done hh.out (by omega) (by omega))
      go_wp2
      go_ret
      exact ⟨_, rfl, by rw [N.out]; exact hown, HB.out⟩

theorem callFn46 (args : Array Value) (w : World) : (callFunc 46 args).run Try.prog w = .ok (.enter 46 args) w := by kernel_rfl
theorem callFn48 (args : Array Value) (w : World) : (callFunc 48 args).run Try.prog w = .ok (.enter 48 args) w := by kernel_rfl
theorem callFn49 (args : Array Value) (w : World) : (callFunc 49 args).run Try.prog w = .ok (.enter 49 args) w := by kernel_rfl

theorem bitsAnd (u v : Value) (xs ys : List Int) (w : World) (hu : Ints w u xs) (hv : Ints w v ys) (gx : Good xs) (gy : Good ys) :
    Calls Try.prog 30 #[u, v] w (MadeInts 3 w (mergeL (fun x y => x && y) xs ys)) := by
  have hmf : ∀ (fn : Fn) (first cap : Array Value) (w : World), (Instr.makeFunc fn first cap).run Try.prog w = .ok (.func fn first cap) w := fun _ _ _ _ => rfl
  go_enter Try.func30, Try.ntmps30
  go_wp2_with (go_at_call 45; refine (bitsMerge (fun x y => x && y) _ callFn46 andRule _ _ xs ys _ hu hv gx gy).mono ?_; rintro e w' ⟨v, rfl, ho, hb⟩)
  go_ret
  exact ⟨_, rfl, ho, hb⟩

theorem bitsOr (u v : Value) (xs ys : List Int) (w : World) (hu : Ints w u xs) (hv : Ints w v ys) (gx : Good xs) (gy : Good ys) :
    Calls Try.prog 32 #[u, v] w (MadeInts 3 w (mergeL (fun x y => x || y) xs ys)) := by
  have hmf : ∀ (fn : Fn) (first cap : Array Value) (w : World), (Instr.makeFunc fn first cap).run Try.prog w = .ok (.func fn first cap) w := fun _ _ _ _ => rfl
  go_enter Try.func32, Try.ntmps32
  go_wp2_with (go_at_call 45; refine (bitsMerge (fun x y => x || y) _ callFn48 orRule _ _ xs ys _ hu hv gx gy).mono ?_; rintro e w' ⟨v, rfl, ho, hb⟩)
  go_ret
  exact ⟨_, rfl, ho, hb⟩

theorem bitsMinus (u v : Value) (xs ys : List Int) (w : World) (hu : Ints w u xs) (hv : Ints w v ys) (gx : Good xs) (gy : Good ys) :
    Calls Try.prog 34 #[u, v] w (MadeInts 3 w (mergeL (fun x y => x && !y) xs ys)) := by
  have hmf : ∀ (fn : Fn) (first cap : Array Value) (w : World), (Instr.makeFunc fn first cap).run Try.prog w = .ok (.func fn first cap) w := fun _ _ _ _ => rfl
  go_enter Try.func34, Try.ntmps34
  go_wp2_with (go_at_call 45; refine (bitsMerge (fun x y => x && !y) _ callFn49 minusRule _ _ xs ys _ hu hv gx gy).mono ?_; rintro e w' ⟨v, rfl, ho, hb⟩)
  go_ret
  exact ⟨_, rfl, ho, hb⟩

end Go.Proofs.Ytomjfmebbpfkeaa
