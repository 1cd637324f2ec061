/- The walks of the laws BitsCountAsSpecified and BitsFollowAlgebra. -/
import Derived.Test.YtomjfmebbpfkeaaBitsD
import Derived.Test.YtomjfmebbpfkeaaBitsG
import Derived.Test.YtomjfmebbpfkeaaBitsI
import Derived.Test.YtomjfmebbpfkeaaBitsJ
import Derived.Test.YtomjfmebbpfkeaaPlainR
import Derived.Test.YtomjfmebbpfkeaaPlainZ
import Derived.Test.YtomjfmebbpfkeaaLaw11A
namespace Go.Proofs.Ytomjfmebbpfkeaa
set_option linter.unusedSimpArgs false
set_option linter.unusedVariables false
set_option linter.unnecessarySimpa false
open Go.RowKit

theorem blkBelow {w w' : World} {g : Nat} {o : Obj} (hb : Below w.heap.size w w') (h : w.heap[g]? = some o) : w'.heap[g]? = some o :=
  (hb.block g (Array.getElem?_eq_some_iff.1 h).1).trans h

set_option maxRecDepth 100000 in
set_option maxHeartbeats 4000000 in
theorem lawMade (u v : Value) (xs ys : List Int) (p q : Int) (w : World) (hu : Ints w u xs) (hv : Ints w v ys) (lu : xs.length ≤ 17592186044416) (lv : ys.length ≤ 17592186044416) :
    Calls Try.prog 3 #[u, v, .int .i64 p, .int .i64 q] w fun e w' => e = .returned (.bool true) ∧ Below w.heap.size w w' := by
  obtain ⟨au, cu, bu, ou, hue, -⟩ := hu.open
  obtain ⟨av, cv, bv, ov, hve, -⟩ := hv.open
  subst hue
  subst hve
  by_cases g1 : 5000 < xs.length
  · go_enter Try.func3, Try.ntmps3
    have B0 := Hid.mk (Below.refl w.heap.size w)
    go_wp2_with fail
    go_at_call 10
    refine (sanity _).mono ?_
    rintro e w1 ⟨rfl, hb1⟩
    have B1 := Hid.mk (belowT B0.out hb1)
    clear hb1
    go_wp2
    go_ret
    exact ⟨rfl, B1.out⟩
  have g1' : decide (5000 < xs.length) = false := by simpa using g1
  by_cases g2 : 5000 < ys.length
  · go_enter Try.func3, Try.ntmps3
    have B0 := Hid.mk (Below.refl w.heap.size w)
    go_wp2_with fail
    go_at_call 10
    refine (sanity _).mono ?_
    rintro e w1 ⟨rfl, hb1⟩
    have B1 := Hid.mk (belowT B0.out hb1)
    clear hb1
    go_wp2
    go_ret
    exact ⟨rfl, B1.out⟩
  have g2' : decide (5000 < ys.length) = false := by simpa using g2
  obtain ⟨zs, er, hof⟩ : ∃ zs er, ofL ys = (zs, er) := ⟨_, _, rfl⟩
  have OB : Hid (ofB ys = zs) := by have := ofL_eq ys; rw [hof] at this; cases this; rfl
  have OE : Hid (ofE ys = er) := by have := ofL_eq ys; rw [hof] at this; cases this; rfl
  have vz : validB zs = true := by have := ofL_valid ys; rw [hof] at this; exact this
  have OF := Hid.mk hof
  clear hof
  have RN := Hid.mk (run_spec p q)
  have vr : validB (runL p q) = true := by rw [RN.out]; exact bitsL_valid _
  have gz := (good_of_valid vz).len
  have gr := (good_of_valid vr).len
  generalize hbv : validB xs = bb
  have HBV := Hid.mk hbv
  clear hbv
  have ebb : (bb == bb) = true := by simp
  have eer : (er == er) = true := by simp
  go_enter Try.func3, Try.ntmps3
  have B0 := Hid.mk (Below.refl w.heap.size w)
  have u_0 := Hid.mk hu
  have v_0 := Hid.mk hv
  go_wp2_with fail
  go_at_call 11
  refine (bitsOf _ ys _ v_0.out (by omega)).mono ?_
  rw [OF.out]
  rintro e w1 ⟨v1, rfl, ho1, hb1⟩
  have u_1 := Hid.mk (Rd.below u_0.out hb1)
  have v_1 := Hid.mk (Rd.below v_0.out hb1)
  have B1 := Hid.mk (belowT B0.out hb1)
  have x_1 := Hid.mk ho1.rd
  clear hb1 ho1
  go_wp2_with fail
  go_at_call 12
  refine (refOf _ ys _ v_1.out (by omega)).mono ?_
  rw [OB.out, OE.out]
  rintro e w2 ⟨v2, rfl, ho2, hb2⟩
  have u_2 := Hid.mk (Rd.below u_1.out hb2)
  have v_2 := Hid.mk (Rd.below v_1.out hb2)
  have x_2 := Hid.mk (Rd.below x_1.out hb2)
  have B2 := Hid.mk (belowT B1.out hb2)
  obtain ⟨a2, c2, rfl⟩ := ho2.formInts
  have y_2 := Hid.mk ho2.rd
  clear hb2 ho2
  go_wp2_with fail
  go_at_call 13
  refine (bitsRun p q _).mono ?_
  rintro e w3 ⟨v3, rfl, ho3, hb3⟩
  have CB_3 := Hid.mk (blkBelow hb3 (heap_alloc_new w2 _))
  have u_3 := Hid.mk (Rd.below (allocI u_2.out) hb3)
  have v_3 := Hid.mk (Rd.below (allocI v_2.out) hb3)
  have x_3 := Hid.mk (Rd.below (allocI x_2.out) hb3)
  have y_3 := Hid.mk (Rd.below (allocI y_2.out) hb3)
  have B3 := Hid.mk (belowT (allocB B2.out) hb3)
  have r_3 := Hid.mk ho3.rd
  clear hb3 ho3
  go_wp2_with fail
  go_at_call 14
  refine (bitsValid _ xs _ u_3.out lu).mono ?_
  rw [HBV.out]
  rintro e w4 ⟨rfl, hs4⟩
  have hb4 := stillB hs4
  have CB_4 := Hid.mk (blkBelow hb4 CB_3.out)
  have u_4 := Hid.mk (Rd.below u_3.out hb4)
  have v_4 := Hid.mk (Rd.below v_3.out hb4)
  have x_4 := Hid.mk (Rd.below x_3.out hb4)
  have y_4 := Hid.mk (Rd.below y_3.out hb4)
  have r_4 := Hid.mk (Rd.below r_3.out hb4)
  have B4 := Hid.mk (belowT B3.out hb4)
  clear hb4 hs4
  go_wp2_with fail
  go_at_call 15
  refine (refValid _ xs _ u_4.out lu).mono ?_
  rw [HBV.out]
  rintro e w5 ⟨rfl, hs5⟩
  have hb5 := stillB hs5
  have CB_5 := Hid.mk (blkBelow hb5 CB_4.out)
  obtain ⟨d1_5, d2_5, -, -⟩ := two_cells CB_5.out
  have u_5 := Hid.mk (Rd.below u_4.out hb5)
  have v_5 := Hid.mk (Rd.below v_4.out hb5)
  have x_5 := Hid.mk (Rd.below x_4.out hb5)
  have y_5 := Hid.mk (Rd.below y_4.out hb5)
  have r_5 := Hid.mk (Rd.below r_4.out hb5)
  have B5 := Hid.mk (belowT B4.out hb5)
  clear hb5 hs5
  go_wp2_with fail
  go_at_call 16
  refine (refSame _ _ _ _ _ x_5.out y_5.out (by omega) (by omega)).mono ?_
  rw [beq_self_eq_true]
  rintro e w6 ⟨rfl, hs6⟩
  have hb6 := stillB hs6
  have CB_6 := Hid.mk (blkBelow hb6 CB_5.out)
  have u_6 := Hid.mk (Rd.below u_5.out hb6)
  have v_6 := Hid.mk (Rd.below v_5.out hb6)
  have x_6 := Hid.mk (Rd.below x_5.out hb6)
  have y_6 := Hid.mk (Rd.below y_5.out hb6)
  have r_6 := Hid.mk (Rd.below r_5.out hb6)
  have B6 := Hid.mk (belowT B5.out hb6)
  clear hb6 hs6
  go_wp2_with fail
  go_at_call 17
  refine (refRun p q _).mono ?_
  rw [← RN.out]
  rintro e w7 ⟨v7, rfl, ho7, hb7⟩
  have u_7 := Hid.mk (Rd.below u_6.out hb7)
  have v_7 := Hid.mk (Rd.below v_6.out hb7)
  have x_7 := Hid.mk (Rd.below x_6.out hb7)
  have y_7 := Hid.mk (Rd.below y_6.out hb7)
  have r_7 := Hid.mk (Rd.below r_6.out hb7)
  have B7 := Hid.mk (belowT B6.out hb7)
  have q_7 := Hid.mk ho7.rd
  clear hb7 ho7
  go_wp2_with fail
  go_at_call 16
  refine (refSame _ _ _ _ _ r_7.out q_7.out (by omega) (by omega)).mono ?_
  rw [beq_self_eq_true]
  rintro e w8 ⟨rfl, hs8⟩
  have hb8 := stillB hs8
  have u_8 := Hid.mk (Rd.below u_7.out hb8)
  have v_8 := Hid.mk (Rd.below v_7.out hb8)
  have x_8 := Hid.mk (Rd.below x_7.out hb8)
  have y_8 := Hid.mk (Rd.below y_7.out hb8)
  have r_8 := Hid.mk (Rd.below r_7.out hb8)
  have q_8 := Hid.mk (Rd.below q_7.out hb8)
  have B8 := Hid.mk (belowT B7.out hb8)
  clear hb8 hs8
  go_wp2_with fail
  go_at_call 10
  refine (sanity _).mono ?_
  rintro e w9 ⟨rfl, hb9⟩
  have u_9 := Hid.mk (Rd.below u_8.out hb9)
  have v_9 := Hid.mk (Rd.below v_8.out hb9)
  have x_9 := Hid.mk (Rd.below x_8.out hb9)
  have y_9 := Hid.mk (Rd.below y_8.out hb9)
  have r_9 := Hid.mk (Rd.below r_8.out hb9)
  have q_9 := Hid.mk (Rd.below q_8.out hb9)
  have B9 := Hid.mk (belowT B8.out hb9)
  clear hb9
  go_wp2_with fail
  go_at_call 14
  refine (bitsValid _ _ _ x_9.out (by omega)).mono ?_
  rw [vz]
  rintro e w10 ⟨rfl, hs10⟩
  have hb10 := stillB hs10
  have u_10 := Hid.mk (Rd.below u_9.out hb10)
  have v_10 := Hid.mk (Rd.below v_9.out hb10)
  have x_10 := Hid.mk (Rd.below x_9.out hb10)
  have y_10 := Hid.mk (Rd.below y_9.out hb10)
  have r_10 := Hid.mk (Rd.below r_9.out hb10)
  have q_10 := Hid.mk (Rd.below q_9.out hb10)
  have B10 := Hid.mk (belowT B9.out hb10)
  clear hb10 hs10
  go_wp2_with fail
  go_at_call 14
  refine (bitsValid _ _ _ r_10.out (by omega)).mono ?_
  rw [vr]
  rintro e w11 ⟨rfl, hs11⟩
  have hb11 := stillB hs11
  have u_11 := Hid.mk (Rd.below u_10.out hb11)
  have v_11 := Hid.mk (Rd.below v_10.out hb11)
  have x_11 := Hid.mk (Rd.below x_10.out hb11)
  have y_11 := Hid.mk (Rd.below y_10.out hb11)
  have r_11 := Hid.mk (Rd.below r_10.out hb11)
  have q_11 := Hid.mk (Rd.below q_10.out hb11)
  have B11 := Hid.mk (belowT B10.out hb11)
  clear hb11 hs11
  go_wp2
  go_ret
  exact ⟨rfl, B11.out⟩

end Go.Proofs.Ytomjfmebbpfkeaa
