/- The walks of the laws BitsCountAsSpecified and BitsFollowAlgebra. -/
import Derived.Test.YtomjfmebbpfkeaaBitsD
import Derived.Test.YtomjfmebbpfkeaaBitsG
import Derived.Test.YtomjfmebbpfkeaaBitsI
import Derived.Test.YtomjfmebbpfkeaaBitsJ
import Derived.Test.YtomjfmebbpfkeaaPlainR
import Derived.Test.YtomjfmebbpfkeaaPlainZ
import Derived.Test.YtomjfmebbpfkeaaLaw11A
namespace Go.Proofs.Ytomjfmebbpfkeaa
set_option linter.unusedSimpArgs false
set_option linter.unusedVariables false
set_option linter.unnecessarySimpa false
open Go.RowKit

theorem Ints.cellOf {w : World} {a : Option Addr} {n c : Nat} {zs : List Int} (h : Ints w (.slice a n c) zs) (k : Nat) (x : Int) (hx : zs[k]? = some x) : ∃ b off, a = some ⟨b, off, none⟩ ∧ w.cell? ⟨b, off + k, none⟩ = some (.int .i64 x) := by
  obtain ⟨a', cap, b, off, h1, h2, h3, h4, h5⟩ := h.open
  simp only [Value.slice.injEq] at h1
  have hlt := (List.getElem?_eq_some_iff.1 hx).1
  exact ⟨b, off, by rw [h1.1]; exact h4 (by omega), h5.out k x hx⟩

set_option maxRecDepth 100000 in
set_option maxHeartbeats 4000000 in
theorem lawRank (u : Value) (xs : List Int) (n s : Int) (w : World) (hu : Ints w u xs) (lu : xs.length ≤ 17592186044416) (hn : n ≤ 9223372036854775807) :
    Calls Try.prog 9 #[u, .int .i64 n, .int .i64 s] w fun e w' => e = .returned (.bool true) ∧ Below w.heap.size w w' := by
  cases h : validB xs
  · go_enter Try.func9, Try.ntmps9
    have B0 := Hid.mk (Below.refl w.heap.size w)
    have u_0 := Hid.mk hu
    go_wp2_with fail
    go_at_call 15
    refine (refValid _ xs _ u_0.out lu).mono ?_
    rw [h]
    rintro e w1 ⟨rfl, hs1⟩
    have hb1 := stillB hs1
    have u_1 := Hid.mk (Rd.below u_0.out hb1)
    have B1 := Hid.mk (belowT B0.out hb1)
    clear hb1 hs1
    go_wp2_with fail
    go_at_call 10
    refine (sanity _).mono ?_
    rintro e w2 ⟨rfl, hb2⟩
    have u_2 := Hid.mk (Rd.below u_1.out hb2)
    have B2 := Hid.mk (belowT B1.out hb2)
    clear hb2
    go_wp2
    go_ret
    exact ⟨rfl, B2.out⟩
  · by_cases c1 : s < -5
    · go_enter Try.func9, Try.ntmps9
      have B0 := Hid.mk (Below.refl w.heap.size w)
      have u_0 := Hid.mk hu
      go_wp2_with fail
      go_at_call 15
      refine (refValid _ xs _ u_0.out lu).mono ?_
      rw [h]
      rintro e w1 ⟨rfl, hs1⟩
      have hb1 := stillB hs1
      have u_1 := Hid.mk (Rd.below u_0.out hb1)
      have B1 := Hid.mk (belowT B0.out hb1)
      clear hb1 hs1
      go_wp2_with fail
      go_at_call 10
      refine (sanity _).mono ?_
      rintro e w2 ⟨rfl, hb2⟩
      have u_2 := Hid.mk (Rd.below u_1.out hb2)
      have B2 := Hid.mk (belowT B1.out hb2)
      clear hb2
      go_wp2
      go_ret
      exact ⟨rfl, B2.out⟩
    have c1' : decide (s < -5) = false := by simpa using c1
    by_cases c2 : 5000 < s
    · go_enter Try.func9, Try.ntmps9
      have B0 := Hid.mk (Below.refl w.heap.size w)
      have u_0 := Hid.mk hu
      go_wp2_with fail
      go_at_call 15
      refine (refValid _ xs _ u_0.out lu).mono ?_
      rw [h]
      rintro e w1 ⟨rfl, hs1⟩
      have hb1 := stillB hs1
      have u_1 := Hid.mk (Rd.below u_0.out hb1)
      have B1 := Hid.mk (belowT B0.out hb1)
      clear hb1 hs1
      go_wp2_with fail
      go_at_call 10
      refine (sanity _).mono ?_
      rintro e w2 ⟨rfl, hb2⟩
      have u_2 := Hid.mk (Rd.below u_1.out hb2)
      have B2 := Hid.mk (belowT B1.out hb2)
      clear hb2
      go_wp2
      go_ret
      exact ⟨rfl, B2.out⟩
    have c2' : decide (5000 < s) = false := by simpa using c2
    have gx := good_of_valid h
    have hh := Hid.mk h
    have lln := slotsL_le xs gx xs.length (Nat.le_refl _) gx.even
    rw [List.take_of_length_le (Nat.le_refl _)] at lln
    have C := Hid.mk (count_valid h)
    have R1 := Hid.mk (rank_valid h (s + 1))
    have R0 := Hid.mk (rank_valid h s)
    have ST := rank_step s xs (-1) (valid_asc h)
    have SL := Hid.mk (sel_valid h n)
    have OF := Hid.mk (slots_of h)
    have SRT := Hid.mk (slots_sorted xs (-1) (valid_asc h))
    have RK := Hid.mk (fun q => rank_valid h q)
    have q0 := countLess_le (slotsL xs) s
    have q1 := countLess_le (slotsL xs) (s + 1)
    have RNG := Hid.mk (slots_lt h)
    clear h
    obtain ⟨ss, hss⟩ : ∃ ss, slotsL xs = ss := ⟨_, rfl⟩
    have HSS := Hid.mk hss
    rw [hss] at lln C R1 R0 ST SL OF SRT RK q0 q1 RNG
    clear hss
    generalize countLess ss (s + 1) = k1 at *
    generalize countLess ss s = k0 at *
    generalize hhs : hasL xs s = bh at *
    have HHS := Hid.mk hhs
    clear hhs
    have hst : (k1 - k0 = 0 ∧ bh = false) ∨ (k1 - k0 = 1 ∧ bh = true) := by cases bh <;> simp at ST ⊢ <;> omega
    clear ST
    rcases hst with ⟨st, rfl⟩ | ⟨st, rfl⟩
    · by_cases gn : n < 0 ∨ (ss.length : Int) ≤ n
      · have SN : Hid (selR ss n = -1) := by rw [Hid, selR, if_pos gn]
        rw [SN.out] at SL
        by_cases gn0 : n < 0
        · go_enter Try.func9, Try.ntmps9
          have B0 := Hid.mk (Below.refl w.heap.size w)
          have u_0 := Hid.mk hu
          go_wp2_with fail
          go_at_call 15
          refine (refValid _ xs _ u_0.out lu).mono ?_
          rw [hh.out]
          rintro e w1 ⟨rfl, hs1⟩
          have hb1 := stillB hs1
          have u_1 := Hid.mk (Rd.below u_0.out hb1)
          have B1 := Hid.mk (belowT B0.out hb1)
          clear hb1 hs1
          go_wp2_with fail
          go_at_call 23
          refine (bitsSlots _ xs _ u_1.out gx).mono ?_
          rw [HSS.out]
          rintro e w2 ⟨v2, rfl, ho2, hb2⟩
          have u_2 := Hid.mk (Rd.below u_1.out hb2)
          have B2 := Hid.mk (belowT B1.out hb2)
          obtain ⟨a2, c2, rfl⟩ := ho2.formInts
          have l_2 := Hid.mk ho2.rd
          clear hb2 ho2
          go_wp2_with fail
          go_at_call 11
          refine (bitsOf _ ss _ l_2.out (by omega)).mono ?_
          rw [OF.out]
          rintro e w3 ⟨v3, rfl, ho3, hb3⟩
          have u_3 := Hid.mk (Rd.below u_2.out hb3)
          have l_3 := Hid.mk (Rd.below l_2.out hb3)
          have B3 := Hid.mk (belowT B2.out hb3)
          have x_3 := Hid.mk ho3.rd
          clear hb3 ho3
          go_wp2_with fail
          go_at_call 16
          refine (refSame _ _ _ _ _ x_3.out u_3.out lu lu).mono ?_
          rw [beq_self_eq_true]
          rintro e w4 ⟨rfl, hs4⟩
          have hb4 := stillB hs4
          have u_4 := Hid.mk (Rd.below u_3.out hb4)
          have l_4 := Hid.mk (Rd.below l_3.out hb4)
          have x_4 := Hid.mk (Rd.below x_3.out hb4)
          have B4 := Hid.mk (belowT B3.out hb4)
          clear hb4 hs4
          go_wp2_with fail
          go_at_call 20
          refine (bitsCount _ xs _ u_4.out gx).mono ?_
          rw [C.out]
          rintro e w5 ⟨rfl, hs5⟩
          have hb5 := stillB hs5
          have u_5 := Hid.mk (Rd.below u_4.out hb5)
          have l_5 := Hid.mk (Rd.below l_4.out hb5)
          have B5 := Hid.mk (belowT B4.out hb5)
          clear hb5 hs5
          go_wp2_with fail
          go_at_call 25
          refine (bitsRank _ xs (s + 1) _ u_5.out gx).mono ?_
          rw [R1.out]
          rintro e w6 ⟨rfl, hs6⟩
          have hb6 := stillB hs6
          have u_6 := Hid.mk (Rd.below u_5.out hb6)
          have l_6 := Hid.mk (Rd.below l_5.out hb6)
          have B6 := Hid.mk (belowT B5.out hb6)
          clear hb6 hs6
          go_wp2_with fail
          go_at_call 25
          refine (bitsRank _ xs s _ u_6.out gx).mono ?_
          rw [R0.out]
          rintro e w7 ⟨rfl, hs7⟩
          have hb7 := stillB hs7
          have u_7 := Hid.mk (Rd.below u_6.out hb7)
          have l_7 := Hid.mk (Rd.below l_6.out hb7)
          have B7 := Hid.mk (belowT B6.out hb7)
          clear hb7 hs7
          go_wp2_with fail
          go_at_call 18
          refine (bitsHas _ xs s _ u_7.out hh.out).mono ?_
          rw [HHS.out]
          rintro e w8 ⟨rfl, rfl⟩
          go_wp2_with fail
          go_at_call 27
          refine (bitsSelect _ xs _ _ u_7.out gx (by omega)).mono ?_
          rw [SL.out]
          rintro e w9 ⟨rfl, hs9⟩
          have hb9 := stillB hs9
          have u_9 := Hid.mk (Rd.below u_7.out hb9)
          have l_9 := Hid.mk (Rd.below l_7.out hb9)
          have B9 := Hid.mk (belowT B7.out hb9)
          clear hb9 hs9
          go_wp2_with fail
          go_at_call 10
          refine (sanity _).mono ?_
          rintro e w10 ⟨rfl, hb10⟩
          have u_10 := Hid.mk (Rd.below u_9.out hb10)
          have l_10 := Hid.mk (Rd.below l_9.out hb10)
          have B10 := Hid.mk (belowT B9.out hb10)
          clear hb10
          go_wp2
          go_ret
          exact ⟨rfl, B10.out⟩
        · have gn1 : (ss.length : Int) ≤ n := by omega
          have gn0' : decide (n < 0) = false := by simpa using gn0
          go_enter Try.func9, Try.ntmps9
          have B0 := Hid.mk (Below.refl w.heap.size w)
          have u_0 := Hid.mk hu
          go_wp2_with fail
          go_at_call 15
          refine (refValid _ xs _ u_0.out lu).mono ?_
          rw [hh.out]
          rintro e w1 ⟨rfl, hs1⟩
          have hb1 := stillB hs1
          have u_1 := Hid.mk (Rd.below u_0.out hb1)
          have B1 := Hid.mk (belowT B0.out hb1)
          clear hb1 hs1
          go_wp2_with fail
          go_at_call 23
          refine (bitsSlots _ xs _ u_1.out gx).mono ?_
          rw [HSS.out]
          rintro e w2 ⟨v2, rfl, ho2, hb2⟩
          have u_2 := Hid.mk (Rd.below u_1.out hb2)
          have B2 := Hid.mk (belowT B1.out hb2)
          obtain ⟨a2, c2, rfl⟩ := ho2.formInts
          have l_2 := Hid.mk ho2.rd
          clear hb2 ho2
          go_wp2_with fail
          go_at_call 11
          refine (bitsOf _ ss _ l_2.out (by omega)).mono ?_
          rw [OF.out]
          rintro e w3 ⟨v3, rfl, ho3, hb3⟩
          have u_3 := Hid.mk (Rd.below u_2.out hb3)
          have l_3 := Hid.mk (Rd.below l_2.out hb3)
          have B3 := Hid.mk (belowT B2.out hb3)
          have x_3 := Hid.mk ho3.rd
          clear hb3 ho3
          go_wp2_with fail
          go_at_call 16
          refine (refSame _ _ _ _ _ x_3.out u_3.out lu lu).mono ?_
          rw [beq_self_eq_true]
          rintro e w4 ⟨rfl, hs4⟩
          have hb4 := stillB hs4
          have u_4 := Hid.mk (Rd.below u_3.out hb4)
          have l_4 := Hid.mk (Rd.below l_3.out hb4)
          have x_4 := Hid.mk (Rd.below x_3.out hb4)
          have B4 := Hid.mk (belowT B3.out hb4)
          clear hb4 hs4
          go_wp2_with fail
          go_at_call 20
          refine (bitsCount _ xs _ u_4.out gx).mono ?_
          rw [C.out]
          rintro e w5 ⟨rfl, hs5⟩
          have hb5 := stillB hs5
          have u_5 := Hid.mk (Rd.below u_4.out hb5)
          have l_5 := Hid.mk (Rd.below l_4.out hb5)
          have B5 := Hid.mk (belowT B4.out hb5)
          clear hb5 hs5
          go_wp2_with fail
          go_at_call 25
          refine (bitsRank _ xs (s + 1) _ u_5.out gx).mono ?_
          rw [R1.out]
          rintro e w6 ⟨rfl, hs6⟩
          have hb6 := stillB hs6
          have u_6 := Hid.mk (Rd.below u_5.out hb6)
          have l_6 := Hid.mk (Rd.below l_5.out hb6)
          have B6 := Hid.mk (belowT B5.out hb6)
          clear hb6 hs6
          go_wp2_with fail
          go_at_call 25
          refine (bitsRank _ xs s _ u_6.out gx).mono ?_
          rw [R0.out]
          rintro e w7 ⟨rfl, hs7⟩
          have hb7 := stillB hs7
          have u_7 := Hid.mk (Rd.below u_6.out hb7)
          have l_7 := Hid.mk (Rd.below l_6.out hb7)
          have B7 := Hid.mk (belowT B6.out hb7)
          clear hb7 hs7
          go_wp2_with fail
          go_at_call 18
          refine (bitsHas _ xs s _ u_7.out hh.out).mono ?_
          rw [HHS.out]
          rintro e w8 ⟨rfl, rfl⟩
          go_wp2_with fail
          go_at_call 27
          refine (bitsSelect _ xs _ _ u_7.out gx (by omega)).mono ?_
          rw [SL.out]
          rintro e w9 ⟨rfl, hs9⟩
          have hb9 := stillB hs9
          have u_9 := Hid.mk (Rd.below u_7.out hb9)
          have l_9 := Hid.mk (Rd.below l_7.out hb9)
          have B9 := Hid.mk (belowT B7.out hb9)
          clear hb9 hs9
          go_wp2_with fail
          go_at_call 10
          refine (sanity _).mono ?_
          rintro e w10 ⟨rfl, hb10⟩
          have u_10 := Hid.mk (Rd.below u_9.out hb10)
          have l_10 := Hid.mk (Rd.below l_9.out hb10)
          have B10 := Hid.mk (belowT B9.out hb10)
          clear hb10
          go_wp2
          go_ret
          exact ⟨rfl, B10.out⟩
      · have gn0' : decide (n < 0) = false := by simp; omega
        have gn1' : decide ((ss.length : Int) ≤ n) = false := by simp; omega
        obtain ⟨m, rfl⟩ : ∃ m : Nat, n = m := ⟨n.toNat, by omega⟩
        obtain ⟨y, hy⟩ := ints_get ss m (by omega)
        have RG := Hid.mk (rank_get ss SRT.out m y hy)
        have SN : Hid (selR ss m = y) := by rw [Hid, selR, if_neg gn]; simp [hy]
        rw [SN.out] at SL
        have yr := RNG.out y (List.mem_of_getElem? hy)
        have RY : Hid (rankL xs y = m) := by rw [Hid, RK.out y, RG.out]
        have HY := Hid.mk hy
        clear hy
        go_enter Try.func9, Try.ntmps9
        have B0 := Hid.mk (Below.refl w.heap.size w)
        have u_0 := Hid.mk hu
        go_wp2_with fail
        go_at_call 15
        refine (refValid _ xs _ u_0.out lu).mono ?_
        rw [hh.out]
        rintro e w1 ⟨rfl, hs1⟩
        have hb1 := stillB hs1
        have u_1 := Hid.mk (Rd.below u_0.out hb1)
        have B1 := Hid.mk (belowT B0.out hb1)
        clear hb1 hs1
        go_wp2_with fail
        go_at_call 23
        refine (bitsSlots _ xs _ u_1.out gx).mono ?_
        rw [HSS.out]
        rintro e w2 ⟨v2, rfl, ho2, hb2⟩
        have u_2 := Hid.mk (Rd.below u_1.out hb2)
        have B2 := Hid.mk (belowT B1.out hb2)
        obtain ⟨a2, c2, rfl⟩ := ho2.formInts
        have l_2 := Hid.mk ho2.rd
        clear hb2 ho2
        go_wp2_with fail
        go_at_call 11
        refine (bitsOf _ ss _ l_2.out (by omega)).mono ?_
        rw [OF.out]
        rintro e w3 ⟨v3, rfl, ho3, hb3⟩
        have u_3 := Hid.mk (Rd.below u_2.out hb3)
        have l_3 := Hid.mk (Rd.below l_2.out hb3)
        have B3 := Hid.mk (belowT B2.out hb3)
        have x_3 := Hid.mk ho3.rd
        clear hb3 ho3
        go_wp2_with fail
        go_at_call 16
        refine (refSame _ _ _ _ _ x_3.out u_3.out lu lu).mono ?_
        rw [beq_self_eq_true]
        rintro e w4 ⟨rfl, hs4⟩
        have hb4 := stillB hs4
        have u_4 := Hid.mk (Rd.below u_3.out hb4)
        have l_4 := Hid.mk (Rd.below l_3.out hb4)
        have x_4 := Hid.mk (Rd.below x_3.out hb4)
        have B4 := Hid.mk (belowT B3.out hb4)
        clear hb4 hs4
        go_wp2_with fail
        go_at_call 20
        refine (bitsCount _ xs _ u_4.out gx).mono ?_
        rw [C.out]
        rintro e w5 ⟨rfl, hs5⟩
        have hb5 := stillB hs5
        have u_5 := Hid.mk (Rd.below u_4.out hb5)
        have l_5 := Hid.mk (Rd.below l_4.out hb5)
        have B5 := Hid.mk (belowT B4.out hb5)
        clear hb5 hs5
        go_wp2_with fail
        go_at_call 25
        refine (bitsRank _ xs (s + 1) _ u_5.out gx).mono ?_
        rw [R1.out]
        rintro e w6 ⟨rfl, hs6⟩
        have hb6 := stillB hs6
        have u_6 := Hid.mk (Rd.below u_5.out hb6)
        have l_6 := Hid.mk (Rd.below l_5.out hb6)
        have B6 := Hid.mk (belowT B5.out hb6)
        clear hb6 hs6
        go_wp2_with fail
        go_at_call 25
        refine (bitsRank _ xs s _ u_6.out gx).mono ?_
        rw [R0.out]
        rintro e w7 ⟨rfl, hs7⟩
        have hb7 := stillB hs7
        have u_7 := Hid.mk (Rd.below u_6.out hb7)
        have l_7 := Hid.mk (Rd.below l_6.out hb7)
        have B7 := Hid.mk (belowT B6.out hb7)
        clear hb7 hs7
        go_wp2_with fail
        go_at_call 18
        refine (bitsHas _ xs s _ u_7.out hh.out).mono ?_
        rw [HHS.out]
        rintro e w8 ⟨rfl, rfl⟩
        go_wp2_with fail
        go_at_call 27
        refine (bitsSelect _ xs _ _ u_7.out gx (by omega)).mono ?_
        rw [SL.out]
        rintro e w9 ⟨rfl, hs9⟩
        have hb9 := stillB hs9
        have u_9 := Hid.mk (Rd.below u_7.out hb9)
        have l_9 := Hid.mk (Rd.below l_7.out hb9)
        have B9 := Hid.mk (belowT B7.out hb9)
        clear hb9 hs9
        go_wp2_with fail
        go_at_call 10
        refine (sanity _).mono ?_
        rintro e w10 ⟨rfl, hb10⟩
        have u_10 := Hid.mk (Rd.below u_9.out hb10)
        have l_10 := Hid.mk (Rd.below l_9.out hb10)
        have B10 := Hid.mk (belowT B9.out hb10)
        clear hb10
        obtain ⟨bq, oq, aq, cq⟩ := Ints.cellOf l_10.out m y HY.out
        subst aq
        go_wp2_with fail
        go_at_call 25
        refine (bitsRank _ xs y _ u_10.out gx).mono ?_
        rw [RY.out]
        rintro e w11 ⟨rfl, hs11⟩
        have hb11 := stillB hs11
        have u_11 := Hid.mk (Rd.below u_10.out hb11)
        have l_11 := Hid.mk (Rd.below l_10.out hb11)
        have B11 := Hid.mk (belowT B10.out hb11)
        clear hb11 hs11
        go_wp2
        go_ret
        exact ⟨rfl, B11.out⟩
    · by_cases gn : n < 0 ∨ (ss.length : Int) ≤ n
      · have SN : Hid (selR ss n = -1) := by rw [Hid, selR, if_pos gn]
        rw [SN.out] at SL
        by_cases gn0 : n < 0
        · go_enter Try.func9, Try.ntmps9
          have B0 := Hid.mk (Below.refl w.heap.size w)
          have u_0 := Hid.mk hu
          go_wp2_with fail
          go_at_call 15
          refine (refValid _ xs _ u_0.out lu).mono ?_
          rw [hh.out]
          rintro e w1 ⟨rfl, hs1⟩
          have hb1 := stillB hs1
          have u_1 := Hid.mk (Rd.below u_0.out hb1)
          have B1 := Hid.mk (belowT B0.out hb1)
          clear hb1 hs1
          go_wp2_with fail
          go_at_call 23
          refine (bitsSlots _ xs _ u_1.out gx).mono ?_
          rw [HSS.out]
          rintro e w2 ⟨v2, rfl, ho2, hb2⟩
          have u_2 := Hid.mk (Rd.below u_1.out hb2)
          have B2 := Hid.mk (belowT B1.out hb2)
          obtain ⟨a2, c2, rfl⟩ := ho2.formInts
          have l_2 := Hid.mk ho2.rd
          clear hb2 ho2
          go_wp2_with fail
          go_at_call 11
          refine (bitsOf _ ss _ l_2.out (by omega)).mono ?_
          rw [OF.out]
          rintro e w3 ⟨v3, rfl, ho3, hb3⟩
          have u_3 := Hid.mk (Rd.below u_2.out hb3)
          have l_3 := Hid.mk (Rd.below l_2.out hb3)
          have B3 := Hid.mk (belowT B2.out hb3)
          have x_3 := Hid.mk ho3.rd
          clear hb3 ho3
          go_wp2_with fail
          go_at_call 16
          refine (refSame _ _ _ _ _ x_3.out u_3.out lu lu).mono ?_
          rw [beq_self_eq_true]
          rintro e w4 ⟨rfl, hs4⟩
          have hb4 := stillB hs4
          have u_4 := Hid.mk (Rd.below u_3.out hb4)
          have l_4 := Hid.mk (Rd.below l_3.out hb4)
          have x_4 := Hid.mk (Rd.below x_3.out hb4)
          have B4 := Hid.mk (belowT B3.out hb4)
          clear hb4 hs4
          go_wp2_with fail
          go_at_call 20
          refine (bitsCount _ xs _ u_4.out gx).mono ?_
          rw [C.out]
          rintro e w5 ⟨rfl, hs5⟩
          have hb5 := stillB hs5
          have u_5 := Hid.mk (Rd.below u_4.out hb5)
          have l_5 := Hid.mk (Rd.below l_4.out hb5)
          have B5 := Hid.mk (belowT B4.out hb5)
          clear hb5 hs5
          go_wp2_with fail
          go_at_call 25
          refine (bitsRank _ xs (s + 1) _ u_5.out gx).mono ?_
          rw [R1.out]
          rintro e w6 ⟨rfl, hs6⟩
          have hb6 := stillB hs6
          have u_6 := Hid.mk (Rd.below u_5.out hb6)
          have l_6 := Hid.mk (Rd.below l_5.out hb6)
          have B6 := Hid.mk (belowT B5.out hb6)
          clear hb6 hs6
          go_wp2_with fail
          go_at_call 25
          refine (bitsRank _ xs s _ u_6.out gx).mono ?_
          rw [R0.out]
          rintro e w7 ⟨rfl, hs7⟩
          have hb7 := stillB hs7
          have u_7 := Hid.mk (Rd.below u_6.out hb7)
          have l_7 := Hid.mk (Rd.below l_6.out hb7)
          have B7 := Hid.mk (belowT B6.out hb7)
          clear hb7 hs7
          go_wp2_with fail
          go_at_call 18
          refine (bitsHas _ xs s _ u_7.out hh.out).mono ?_
          rw [HHS.out]
          rintro e w8 ⟨rfl, rfl⟩
          go_wp2_with fail
          go_at_call 27
          refine (bitsSelect _ xs _ _ u_7.out gx (by omega)).mono ?_
          rw [SL.out]
          rintro e w9 ⟨rfl, hs9⟩
          have hb9 := stillB hs9
          have u_9 := Hid.mk (Rd.below u_7.out hb9)
          have l_9 := Hid.mk (Rd.below l_7.out hb9)
          have B9 := Hid.mk (belowT B7.out hb9)
          clear hb9 hs9
          go_wp2_with fail
          go_at_call 10
          refine (sanity _).mono ?_
          rintro e w10 ⟨rfl, hb10⟩
          have u_10 := Hid.mk (Rd.below u_9.out hb10)
          have l_10 := Hid.mk (Rd.below l_9.out hb10)
          have B10 := Hid.mk (belowT B9.out hb10)
          clear hb10
          go_wp2
          go_ret
          exact ⟨rfl, B10.out⟩
        · have gn1 : (ss.length : Int) ≤ n := by omega
          have gn0' : decide (n < 0) = false := by simpa using gn0
          go_enter Try.func9, Try.ntmps9
          have B0 := Hid.mk (Below.refl w.heap.size w)
          have u_0 := Hid.mk hu
          go_wp2_with fail
          go_at_call 15
          refine (refValid _ xs _ u_0.out lu).mono ?_
          rw [hh.out]
          rintro e w1 ⟨rfl, hs1⟩
          have hb1 := stillB hs1
          have u_1 := Hid.mk (Rd.below u_0.out hb1)
          have B1 := Hid.mk (belowT B0.out hb1)
          clear hb1 hs1
          go_wp2_with fail
          go_at_call 23
          refine (bitsSlots _ xs _ u_1.out gx).mono ?_
          rw [HSS.out]
          rintro e w2 ⟨v2, rfl, ho2, hb2⟩
          have u_2 := Hid.mk (Rd.below u_1.out hb2)
          have B2 := Hid.mk (belowT B1.out hb2)
          obtain ⟨a2, c2, rfl⟩ := ho2.formInts
          have l_2 := Hid.mk ho2.rd
          clear hb2 ho2
          go_wp2_with fail
          go_at_call 11
          refine (bitsOf _ ss _ l_2.out (by omega)).mono ?_
          rw [OF.out]
          rintro e w3 ⟨v3, rfl, ho3, hb3⟩
          have u_3 := Hid.mk (Rd.below u_2.out hb3)
          have l_3 := Hid.mk (Rd.below l_2.out hb3)
          have B3 := Hid.mk (belowT B2.out hb3)
          have x_3 := Hid.mk ho3.rd
          clear hb3 ho3
          go_wp2_with fail
          go_at_call 16
          refine (refSame _ _ _ _ _ x_3.out u_3.out lu lu).mono ?_
          rw [beq_self_eq_true]
          rintro e w4 ⟨rfl, hs4⟩
          have hb4 := stillB hs4
          have u_4 := Hid.mk (Rd.below u_3.out hb4)
          have l_4 := Hid.mk (Rd.below l_3.out hb4)
          have x_4 := Hid.mk (Rd.below x_3.out hb4)
          have B4 := Hid.mk (belowT B3.out hb4)
          clear hb4 hs4
          go_wp2_with fail
          go_at_call 20
          refine (bitsCount _ xs _ u_4.out gx).mono ?_
          rw [C.out]
          rintro e w5 ⟨rfl, hs5⟩
          have hb5 := stillB hs5
          have u_5 := Hid.mk (Rd.below u_4.out hb5)
          have l_5 := Hid.mk (Rd.below l_4.out hb5)
          have B5 := Hid.mk (belowT B4.out hb5)
          clear hb5 hs5
          go_wp2_with fail
          go_at_call 25
          refine (bitsRank _ xs (s + 1) _ u_5.out gx).mono ?_
          rw [R1.out]
          rintro e w6 ⟨rfl, hs6⟩
          have hb6 := stillB hs6
          have u_6 := Hid.mk (Rd.below u_5.out hb6)
          have l_6 := Hid.mk (Rd.below l_5.out hb6)
          have B6 := Hid.mk (belowT B5.out hb6)
          clear hb6 hs6
          go_wp2_with fail
          go_at_call 25
          refine (bitsRank _ xs s _ u_6.out gx).mono ?_
          rw [R0.out]
          rintro e w7 ⟨rfl, hs7⟩
          have hb7 := stillB hs7
          have u_7 := Hid.mk (Rd.below u_6.out hb7)
          have l_7 := Hid.mk (Rd.below l_6.out hb7)
          have B7 := Hid.mk (belowT B6.out hb7)
          clear hb7 hs7
          go_wp2_with fail
          go_at_call 18
          refine (bitsHas _ xs s _ u_7.out hh.out).mono ?_
          rw [HHS.out]
          rintro e w8 ⟨rfl, rfl⟩
          go_wp2_with fail
          go_at_call 27
          refine (bitsSelect _ xs _ _ u_7.out gx (by omega)).mono ?_
          rw [SL.out]
          rintro e w9 ⟨rfl, hs9⟩
          have hb9 := stillB hs9
          have u_9 := Hid.mk (Rd.below u_7.out hb9)
          have l_9 := Hid.mk (Rd.below l_7.out hb9)
          have B9 := Hid.mk (belowT B7.out hb9)
          clear hb9 hs9
          go_wp2_with fail
          go_at_call 10
          refine (sanity _).mono ?_
          rintro e w10 ⟨rfl, hb10⟩
          have u_10 := Hid.mk (Rd.below u_9.out hb10)
          have l_10 := Hid.mk (Rd.below l_9.out hb10)
          have B10 := Hid.mk (belowT B9.out hb10)
          clear hb10
          go_wp2
          go_ret
          exact ⟨rfl, B10.out⟩
      · have gn0' : decide (n < 0) = false := by simp; omega
        have gn1' : decide ((ss.length : Int) ≤ n) = false := by simp; omega
        obtain ⟨m, rfl⟩ : ∃ m : Nat, n = m := ⟨n.toNat, by omega⟩
        obtain ⟨y, hy⟩ := ints_get ss m (by omega)
        have RG := Hid.mk (rank_get ss SRT.out m y hy)
        have SN : Hid (selR ss m = y) := by rw [Hid, selR, if_neg gn]; simp [hy]
        rw [SN.out] at SL
        have yr := RNG.out y (List.mem_of_getElem? hy)
        have RY : Hid (rankL xs y = m) := by rw [Hid, RK.out y, RG.out]
        have HY := Hid.mk hy
        clear hy
        go_enter Try.func9, Try.ntmps9
        have B0 := Hid.mk (Below.refl w.heap.size w)
        have u_0 := Hid.mk hu
        go_wp2_with fail
        go_at_call 15
        refine (refValid _ xs _ u_0.out lu).mono ?_
        rw [hh.out]
        rintro e w1 ⟨rfl, hs1⟩
        have hb1 := stillB hs1
        have u_1 := Hid.mk (Rd.below u_0.out hb1)
        have B1 := Hid.mk (belowT B0.out hb1)
        clear hb1 hs1
        go_wp2_with fail
        go_at_call 23
        refine (bitsSlots _ xs _ u_1.out gx).mono ?_
        rw [HSS.out]
        rintro e w2 ⟨v2, rfl, ho2, hb2⟩
        have u_2 := Hid.mk (Rd.below u_1.out hb2)
        have B2 := Hid.mk (belowT B1.out hb2)
        obtain ⟨a2, c2, rfl⟩ := ho2.formInts
        have l_2 := Hid.mk ho2.rd
        clear hb2 ho2
        go_wp2_with fail
        go_at_call 11
        refine (bitsOf _ ss _ l_2.out (by omega)).mono ?_
        rw [OF.out]
        rintro e w3 ⟨v3, rfl, ho3, hb3⟩
        have u_3 := Hid.mk (Rd.below u_2.out hb3)
        have l_3 := Hid.mk (Rd.below l_2.out hb3)
        have B3 := Hid.mk (belowT B2.out hb3)
        have x_3 := Hid.mk ho3.rd
        clear hb3 ho3
        go_wp2_with fail
        go_at_call 16
        refine (refSame _ _ _ _ _ x_3.out u_3.out lu lu).mono ?_
        rw [beq_self_eq_true]
        rintro e w4 ⟨rfl, hs4⟩
        have hb4 := stillB hs4
        have u_4 := Hid.mk (Rd.below u_3.out hb4)
        have l_4 := Hid.mk (Rd.below l_3.out hb4)
        have x_4 := Hid.mk (Rd.below x_3.out hb4)
        have B4 := Hid.mk (belowT B3.out hb4)
        clear hb4 hs4
        go_wp2_with fail
        go_at_call 20
        refine (bitsCount _ xs _ u_4.out gx).mono ?_
        rw [C.out]
        rintro e w5 ⟨rfl, hs5⟩
        have hb5 := stillB hs5
        have u_5 := Hid.mk (Rd.below u_4.out hb5)
        have l_5 := Hid.mk (Rd.below l_4.out hb5)
        have B5 := Hid.mk (belowT B4.out hb5)
        clear hb5 hs5
        go_wp2_with fail
        go_at_call 25
        refine (bitsRank _ xs (s + 1) _ u_5.out gx).mono ?_
        rw [R1.out]
        rintro e w6 ⟨rfl, hs6⟩
        have hb6 := stillB hs6
        have u_6 := Hid.mk (Rd.below u_5.out hb6)
        have l_6 := Hid.mk (Rd.below l_5.out hb6)
        have B6 := Hid.mk (belowT B5.out hb6)
        clear hb6 hs6
        go_wp2_with fail
        go_at_call 25
        refine (bitsRank _ xs s _ u_6.out gx).mono ?_
        rw [R0.out]
        rintro e w7 ⟨rfl, hs7⟩
        have hb7 := stillB hs7
        have u_7 := Hid.mk (Rd.below u_6.out hb7)
        have l_7 := Hid.mk (Rd.below l_6.out hb7)
        have B7 := Hid.mk (belowT B6.out hb7)
        clear hb7 hs7
        go_wp2_with fail
        go_at_call 18
        refine (bitsHas _ xs s _ u_7.out hh.out).mono ?_
        rw [HHS.out]
        rintro e w8 ⟨rfl, rfl⟩
        go_wp2_with fail
        go_at_call 27
        refine (bitsSelect _ xs _ _ u_7.out gx (by omega)).mono ?_
        rw [SL.out]
        rintro e w9 ⟨rfl, hs9⟩
        have hb9 := stillB hs9
        have u_9 := Hid.mk (Rd.below u_7.out hb9)
        have l_9 := Hid.mk (Rd.below l_7.out hb9)
        have B9 := Hid.mk (belowT B7.out hb9)
        clear hb9 hs9
        go_wp2_with fail
        go_at_call 10
        refine (sanity _).mono ?_
        rintro e w10 ⟨rfl, hb10⟩
        have u_10 := Hid.mk (Rd.below u_9.out hb10)
        have l_10 := Hid.mk (Rd.below l_9.out hb10)
        have B10 := Hid.mk (belowT B9.out hb10)
        clear hb10
        obtain ⟨bq, oq, aq, cq⟩ := Ints.cellOf l_10.out m y HY.out
        subst aq
        go_wp2_with fail
        go_at_call 25
        refine (bitsRank _ xs y _ u_10.out gx).mono ?_
        rw [RY.out]
        rintro e w11 ⟨rfl, hs11⟩
        have hb11 := stillB hs11
        have u_11 := Hid.mk (Rd.below u_10.out hb11)
        have l_11 := Hid.mk (Rd.below l_10.out hb11)
        have B11 := Hid.mk (belowT B10.out hb11)
        clear hb11 hs11
        go_wp2
        go_ret
        exact ⟨rfl, B11.out⟩

end Go.Proofs.Ytomjfmebbpfkeaa
