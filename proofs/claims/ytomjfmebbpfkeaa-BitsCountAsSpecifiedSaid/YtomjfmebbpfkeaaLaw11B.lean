/- The walks of the laws BitsCountAsSpecified and BitsFollowAlgebra. -/
import Derived.Test.YtomjfmebbpfkeaaBitsD
import Derived.Test.YtomjfmebbpfkeaaBitsG
import Derived.Test.YtomjfmebbpfkeaaBitsI
import Derived.Test.YtomjfmebbpfkeaaBitsJ
import Derived.Test.YtomjfmebbpfkeaaPlainR
import Derived.Test.YtomjfmebbpfkeaaPlainZ
import Derived.Test.YtomjfmebbpfkeaaLaw11A
namespace Go.Proofs.Ytomjfmebbpfkeaa
set_option linter.unusedSimpArgs false
set_option linter.unusedVariables false
set_option linter.unnecessarySimpa false
open Go.RowKit

set_option maxRecDepth 100000 in
set_option maxHeartbeats 4000000 in
theorem lawCount (u : Value) (xs : List Int) (s n : Int) (w : World) (hu : Ints w u xs) (lu : xs.length ≤ 17592186044416) (hn : n ≤ 9223372036854775807) :
    Calls Try.prog 4 #[u, .int .i64 s, .int .i64 n] w fun e w' => e = .returned (.bool true) ∧ Below w.heap.size w w' := by
  cases h : validB xs
  · go_enter Try.func4, Try.ntmps4
    have B0 := Hid.mk (Below.refl w.heap.size w)
    have u_0 := Hid.mk hu
    go_wp2_with fail
    go_at_call 15
    refine (refValid _ xs _ u_0.out lu).mono ?_
    rw [h]
    rintro e w1 ⟨rfl, hs1⟩
    have hb1 := stillB hs1
    have u_1 := Hid.mk (Rd.below u_0.out hb1)
    have B1 := Hid.mk (belowT B0.out hb1)
    clear hb1 hs1
    go_wp2_with fail
    go_at_call 10
    refine (sanity _).mono ?_
    rintro e w2 ⟨rfl, hb2⟩
    have u_2 := Hid.mk (Rd.below u_1.out hb2)
    have B2 := Hid.mk (belowT B1.out hb2)
    clear hb2
    go_wp2
    go_ret
    exact ⟨rfl, B2.out⟩
  · have gx := good_of_valid h
    have hh := Hid.mk h
    have lln := slotsL_le xs gx xs.length (Nat.le_refl _) gx.even
    rw [List.take_of_length_le (Nat.le_refl _)] at lln
    have C := Hid.mk (count_valid h)
    have R := Hid.mk (rank_valid h s)
    have SL := Hid.mk (sel_valid h n)
    clear h
    go_enter Try.func4, Try.ntmps4
    have B0 := Hid.mk (Below.refl w.heap.size w)
    have u_0 := Hid.mk hu
    go_wp2_with fail
    go_at_call 15
    refine (refValid _ xs _ u_0.out lu).mono ?_
    rw [hh.out]
    rintro e w1 ⟨rfl, hs1⟩
    have hb1 := stillB hs1
    have u_1 := Hid.mk (Rd.below u_0.out hb1)
    have B1 := Hid.mk (belowT B0.out hb1)
    clear hb1 hs1
    go_wp2_with fail
    go_at_call 18
    refine (bitsHas _ xs s _ u_1.out hh.out).mono ?_
    rintro e w2 ⟨rfl, rfl⟩
    go_wp2_with fail
    go_at_call 19
    refine (refHas _ xs s _ u_1.out lu).mono ?_
    rintro e w3 ⟨rfl, hs3⟩
    have hb3 := stillB hs3
    generalize hasL xs s = bb
    have ebb : (bb == bb) = true := by simp
    have u_3 := Hid.mk (Rd.below u_1.out hb3)
    have B3 := Hid.mk (belowT B1.out hb3)
    clear hb3 hs3
    go_wp2_with fail
    go_at_call 20
    refine (bitsCount _ xs _ u_3.out gx).mono ?_
    rw [C.out]
    rintro e w4 ⟨rfl, hs4⟩
    have hb4 := stillB hs4
    have u_4 := Hid.mk (Rd.below u_3.out hb4)
    have B4 := Hid.mk (belowT B3.out hb4)
    clear hb4 hs4
    go_wp2_with fail
    go_at_call 21
    refine (refCount _ xs _ u_4.out gx).mono ?_
    rintro e w5 ⟨rfl, hb5⟩
    have u_5 := Hid.mk (Rd.below u_4.out hb5)
    have B5 := Hid.mk (belowT B4.out hb5)
    clear hb5
    go_wp2_with fail
    go_at_call 23
    refine (bitsSlots _ xs _ u_5.out gx).mono ?_
    rintro e w6 ⟨v6, rfl, ho6, hb6⟩
    have u_6 := Hid.mk (Rd.below u_5.out hb6)
    have B6 := Hid.mk (belowT B5.out hb6)
    have l_6 := Hid.mk ho6.rd
    clear hb6 ho6
    go_wp2_with fail
    go_at_call 24
    refine (refSlots _ xs _ u_6.out gx).mono ?_
    rintro e w7 ⟨v7, rfl, ho7, hb7⟩
    have u_7 := Hid.mk (Rd.below u_6.out hb7)
    have l_7 := Hid.mk (Rd.below l_6.out hb7)
    have B7 := Hid.mk (belowT B6.out hb7)
    have m_7 := Hid.mk ho7.rd
    clear hb7 ho7
    go_wp2_with fail
    go_at_call 22
    refine (refSameInts _ _ _ _ _ l_7.out m_7.out (by omega) (by omega)).mono ?_
    rw [beq_self_eq_true]
    rintro e w8 ⟨rfl, hs8⟩
    have hb8 := stillB hs8
    have u_8 := Hid.mk (Rd.below u_7.out hb8)
    have l_8 := Hid.mk (Rd.below l_7.out hb8)
    have m_8 := Hid.mk (Rd.below m_7.out hb8)
    have B8 := Hid.mk (belowT B7.out hb8)
    clear hb8 hs8
    go_wp2_with fail
    go_at_call 10
    refine (sanity _).mono ?_
    rintro e w9 ⟨rfl, hb9⟩
    have u_9 := Hid.mk (Rd.below u_8.out hb9)
    have B9 := Hid.mk (belowT B8.out hb9)
    clear hb9
    go_wp2_with fail
    go_at_call 25
    refine (bitsRank _ xs s _ u_9.out gx).mono ?_
    rw [R.out]
    rintro e w10 ⟨rfl, hs10⟩
    have hb10 := stillB hs10
    have u_10 := Hid.mk (Rd.below u_9.out hb10)
    have B10 := Hid.mk (belowT B9.out hb10)
    clear hb10 hs10
    go_wp2_with fail
    go_at_call 26
    refine (refRank _ xs s _ u_10.out gx).mono ?_
    rintro e w11 ⟨rfl, hb11⟩
    have u_11 := Hid.mk (Rd.below u_10.out hb11)
    have B11 := Hid.mk (belowT B10.out hb11)
    clear hb11
    go_wp2_with fail
    go_at_call 27
    refine (bitsSelect _ xs n _ u_11.out gx hn).mono ?_
    rw [SL.out]
    rintro e w12 ⟨rfl, hs12⟩
    have hb12 := stillB hs12
    have u_12 := Hid.mk (Rd.below u_11.out hb12)
    have B12 := Hid.mk (belowT B11.out hb12)
    clear hb12 hs12
    go_wp2_with fail
    go_at_call 28
    refine (refSelect _ xs n _ u_12.out gx).mono ?_
    rintro e w13 ⟨rfl, hb13⟩
    have u_13 := Hid.mk (Rd.below u_12.out hb13)
    have B13 := Hid.mk (belowT B12.out hb13)
    clear hb13
    go_wp2
    go_ret
    exact ⟨rfl, B13.out⟩

end Go.Proofs.Ytomjfmebbpfkeaa
