/- The walks of the laws BitsMeetAsSpecified and BitsFollowLogic. -/
import Derived.Test.YtomjfmebbpfkeaaBitsD
import Derived.Test.YtomjfmebbpfkeaaBitsG
import Derived.Test.YtomjfmebbpfkeaaBitsI
import Derived.Test.YtomjfmebbpfkeaaBitsJ
import Derived.Test.YtomjfmebbpfkeaaPlainR
import Derived.Test.YtomjfmebbpfkeaaPlainZ
import Derived.Test.YtomjfmebbpfkeaaSanity11
namespace Go.Proofs.Ytomjfmebbpfkeaa
set_option linter.unusedSimpArgs false
set_option linter.unusedVariables false
set_option linter.unnecessarySimpa false
open Go.RowKit

set_option maxRecDepth 100000 in
theorem lawValid (u v : Value) (xs ys : List Int) (w : World) (hu : Ints w u xs) (hv : Ints w v ys) (lu : xs.length ≤ 17592186044416) (lv : ys.length ≤ 17592186044416) :
    Calls Try.prog 29 #[u, v] w fun e w' => e = .returned (.bool (validB xs && validB ys)) ∧ Still w w' := by
  cases h1 : validB xs
  · have H1 := Hid.mk h1
    clear h1
    go_enter Try.func29, Try.ntmps29
    go_wp2_with (go_at_call 15; refine (refValid _ xs _ hu lu).mono ?_; rw [H1.out]; rintro e w' ⟨rfl, n, rfl⟩)
    go_ret
    exact ⟨rfl, Still.one _ _⟩
  · have H1 := Hid.mk h1
    clear h1
    generalize h2 : validB ys = b
    have H2 := Hid.mk h2
    clear h2
    go_enter Try.func29, Try.ntmps29
    go_wp2_with fail
    refine (refValid _ xs _ hu lu).mono ?_
    rw [H1.out]
    rintro e w1 ⟨rfl, n, rfl⟩
    go_wp2_with fail
    refine (refValid _ ys _ (Rd.below hv (stillB (Still.one _ _))) lv).mono ?_
    rw [H2.out]
    rintro e w2 ⟨rfl, n2, rfl⟩
    go_wp2
    go_ret
    exact ⟨ret_bool (by simp), by first | exact Still.two _ _ _ | exact Still.one _ _⟩

theorem meetEq (r : Bool → Bool → Bool) (hr : r false false = false) {xs ys : List Int} (hx : validB xs = true) (hy : validB ys = true) :
    mergeL r xs ys = bitsL (tab (fun j => r (hasL xs j) (hasL ys j))) := by
  obtain ⟨h1, h2⟩ := mergeL_spec r hr hx hy
  exact bits_of_has h1 _ (fun y _ _ => h2 y)

theorem cnt_bd (f : Int → Bool) : ∀ k : Nat, 0 ≤ cntTo f k ∧ cntTo f k ≤ k
  | 0 => by simp [cntTo]
  | k + 1 => by
    have := cnt_bd f k
    rw [cntTo]
    split <;> omega

set_option maxRecDepth 100000 in
set_option maxHeartbeats 4000000 in
theorem lawMeet (u v : Value) (xs ys : List Int) (w : World) (hu : Ints w u xs) (hv : Ints w v ys) (lu : xs.length ≤ 17592186044416) (lv : ys.length ≤ 17592186044416) :
    Calls Try.prog 5 #[u, v] w fun e w' => e = .returned (.bool true) ∧ Below w.heap.size w w' := by
  cases h : (validB xs && validB ys)
  · go_enter Try.func5, Try.ntmps5
    have B0 := Hid.mk (Below.refl w.heap.size w)
    have u_0 := Hid.mk hu
    have v_0 := Hid.mk hv
    go_wp2_with fail
    go_at_call 29
    refine (lawValid _ _ xs ys _ u_0.out v_0.out lu lv).mono ?_
    rw [h]
    rintro e w1 ⟨rfl, hs1⟩
    have hb1 := stillB hs1
    have u_1 := Hid.mk (Rd.below u_0.out hb1)
    have v_1 := Hid.mk (Rd.below v_0.out hb1)
    have B1 := Hid.mk (belowT B0.out hb1)
    clear hb1 hs1
    go_wp2_with fail
    go_at_call 10
    refine (sanity _).mono ?_
    rintro e w2 ⟨rfl, hb2⟩
    have u_2 := Hid.mk (Rd.below u_1.out hb2)
    have v_2 := Hid.mk (Rd.below v_1.out hb2)
    have B2 := Hid.mk (belowT B1.out hb2)
    clear hb2
    go_wp2
    go_ret
    exact ⟨rfl, B2.out⟩
  · rw [Bool.and_eq_true] at h
    obtain ⟨h1, h2⟩ := h
    have gx := good_of_valid h1
    have gy := good_of_valid h2
    have E_and := meetEq (fun x y => x && y) rfl h1 h2
    have E_or := meetEq (fun x y => x || y) rfl h1 h2
    have E_minus := meetEq (fun x y => x && !y) rfl h1 h2
    have L_and := (good_of_valid (mergeL_spec (fun x y => x && y) rfl h1 h2).1).len
    have L_or := (good_of_valid (mergeL_spec (fun x y => x || y) rfl h1 h2).1).len
    have L_minus := (good_of_valid (mergeL_spec (fun x y => x && !y) rfl h1 h2).1).len
    have EH_and := Hid.mk E_and
    have EH_or := Hid.mk E_or
    have EH_minus := Hid.mk E_minus
    clear E_and E_or E_minus
    go_enter Try.func5, Try.ntmps5
    have B0 := Hid.mk (Below.refl w.heap.size w)
    have u_0 := Hid.mk hu
    have v_0 := Hid.mk hv
    go_wp2_with fail
    go_at_call 29
    refine (lawValid _ _ xs ys _ u_0.out v_0.out lu lv).mono ?_
    rw [h1, h2]
    rintro e w1 ⟨rfl, hs1⟩
    have hb1 := stillB hs1
    have u_1 := Hid.mk (Rd.below u_0.out hb1)
    have v_1 := Hid.mk (Rd.below v_0.out hb1)
    have B1 := Hid.mk (belowT B0.out hb1)
    clear hb1 hs1
    go_wp2_with fail
    go_at_call 10
    refine (sanity _).mono ?_
    rintro e w2 ⟨rfl, hb2⟩
    have u_2 := Hid.mk (Rd.below u_1.out hb2)
    have v_2 := Hid.mk (Rd.below v_1.out hb2)
    have B2 := Hid.mk (belowT B1.out hb2)
    clear hb2
    go_wp2_with fail
    go_at_call 30
    refine (bitsAnd _ _ xs ys _ u_2.out v_2.out gx gy).mono ?_
    rintro e w3 ⟨v3, rfl, ho3, hb3⟩
    have u_3 := Hid.mk (Rd.below u_2.out hb3)
    have v_3 := Hid.mk (Rd.below v_2.out hb3)
    have B3 := Hid.mk (belowT B2.out hb3)
    have m_3 := Hid.mk ho3.rd
    clear hb3 ho3
    go_wp2_with fail
    go_at_call 31
    refine (refAnd _ _ xs ys _ u_3.out v_3.out gx gy).mono ?_
    rw [← EH_and.out]
    rintro e w4 ⟨v4, rfl, ho4, hb4⟩
    have u_4 := Hid.mk (Rd.below u_3.out hb4)
    have v_4 := Hid.mk (Rd.below v_3.out hb4)
    have m_4 := Hid.mk (Rd.below m_3.out hb4)
    have B4 := Hid.mk (belowT B3.out hb4)
    have n_4 := Hid.mk ho4.rd
    clear hb4 ho4
    go_wp2_with fail
    go_at_call 16
    refine (refSame _ _ _ _ _ m_4.out n_4.out (by omega) (by omega)).mono ?_
    rw [beq_self_eq_true]
    rintro e w5 ⟨rfl, hs5⟩
    have hb5 := stillB hs5
    have u_5 := Hid.mk (Rd.below u_4.out hb5)
    have v_5 := Hid.mk (Rd.below v_4.out hb5)
    have m_5 := Hid.mk (Rd.below m_4.out hb5)
    have n_5 := Hid.mk (Rd.below n_4.out hb5)
    have B5 := Hid.mk (belowT B4.out hb5)
    clear hb5 hs5
    go_wp2_with fail
    go_at_call 32
    refine (bitsOr _ _ xs ys _ u_5.out v_5.out gx gy).mono ?_
    rintro e w6 ⟨v6, rfl, ho6, hb6⟩
    have u_6 := Hid.mk (Rd.below u_5.out hb6)
    have v_6 := Hid.mk (Rd.below v_5.out hb6)
    have B6 := Hid.mk (belowT B5.out hb6)
    have m_6 := Hid.mk ho6.rd
    clear hb6 ho6
    go_wp2_with fail
    go_at_call 33
    refine (refOr _ _ xs ys _ u_6.out v_6.out gx gy).mono ?_
    rw [← EH_or.out]
    rintro e w7 ⟨v7, rfl, ho7, hb7⟩
    have u_7 := Hid.mk (Rd.below u_6.out hb7)
    have v_7 := Hid.mk (Rd.below v_6.out hb7)
    have m_7 := Hid.mk (Rd.below m_6.out hb7)
    have B7 := Hid.mk (belowT B6.out hb7)
    have n_7 := Hid.mk ho7.rd
    clear hb7 ho7
    go_wp2_with fail
    go_at_call 16
    refine (refSame _ _ _ _ _ m_7.out n_7.out (by omega) (by omega)).mono ?_
    rw [beq_self_eq_true]
    rintro e w8 ⟨rfl, hs8⟩
    have hb8 := stillB hs8
    have u_8 := Hid.mk (Rd.below u_7.out hb8)
    have v_8 := Hid.mk (Rd.below v_7.out hb8)
    have m_8 := Hid.mk (Rd.below m_7.out hb8)
    have n_8 := Hid.mk (Rd.below n_7.out hb8)
    have B8 := Hid.mk (belowT B7.out hb8)
    clear hb8 hs8
    go_wp2_with fail
    go_at_call 34
    refine (bitsMinus _ _ xs ys _ u_8.out v_8.out gx gy).mono ?_
    rintro e w9 ⟨v9, rfl, ho9, hb9⟩
    have u_9 := Hid.mk (Rd.below u_8.out hb9)
    have v_9 := Hid.mk (Rd.below v_8.out hb9)
    have B9 := Hid.mk (belowT B8.out hb9)
    have m_9 := Hid.mk ho9.rd
    clear hb9 ho9
    go_wp2_with fail
    go_at_call 35
    refine (refMinus _ _ xs ys _ u_9.out v_9.out gx gy).mono ?_
    rw [← EH_minus.out]
    rintro e w10 ⟨v10, rfl, ho10, hb10⟩
    have u_10 := Hid.mk (Rd.below u_9.out hb10)
    have v_10 := Hid.mk (Rd.below v_9.out hb10)
    have m_10 := Hid.mk (Rd.below m_9.out hb10)
    have B10 := Hid.mk (belowT B9.out hb10)
    have n_10 := Hid.mk ho10.rd
    clear hb10 ho10
    go_wp2_with fail
    go_at_call 16
    refine (refSame _ _ _ _ _ m_10.out n_10.out (by omega) (by omega)).mono ?_
    rw [beq_self_eq_true]
    rintro e w11 ⟨rfl, hs11⟩
    have hb11 := stillB hs11
    have u_11 := Hid.mk (Rd.below u_10.out hb11)
    have v_11 := Hid.mk (Rd.below v_10.out hb11)
    have m_11 := Hid.mk (Rd.below m_10.out hb11)
    have n_11 := Hid.mk (Rd.below n_10.out hb11)
    have B11 := Hid.mk (belowT B10.out hb11)
    clear hb11 hs11
    go_wp2
    go_ret
    exact ⟨rfl, B11.out⟩

set_option maxRecDepth 100000 in
set_option maxHeartbeats 4000000 in
theorem lawLogic (u v : Value) (xs ys : List Int) (s : Int) (w : World) (hu : Ints w u xs) (hv : Ints w v ys) (lu : xs.length ≤ 17592186044416) (lv : ys.length ≤ 17592186044416) :
    Calls Try.prog 7 #[u, v, .int .i64 s] w fun e w' => e = .returned (.bool true) ∧ Below w.heap.size w w' := by
  cases h : (validB xs && validB ys)
  · go_enter Try.func7, Try.ntmps7
    have B0 := Hid.mk (Below.refl w.heap.size w)
    have u_0 := Hid.mk hu
    have v_0 := Hid.mk hv
    go_wp2_with fail
    go_at_call 29
    refine (lawValid _ _ xs ys _ u_0.out v_0.out lu lv).mono ?_
    rw [h]
    rintro e w1 ⟨rfl, hs1⟩
    have hb1 := stillB hs1
    have u_1 := Hid.mk (Rd.below u_0.out hb1)
    have v_1 := Hid.mk (Rd.below v_0.out hb1)
    have B1 := Hid.mk (belowT B0.out hb1)
    clear hb1 hs1
    go_wp2_with fail
    go_at_call 10
    refine (sanity _).mono ?_
    rintro e w2 ⟨rfl, hb2⟩
    have u_2 := Hid.mk (Rd.below u_1.out hb2)
    have v_2 := Hid.mk (Rd.below v_1.out hb2)
    have B2 := Hid.mk (belowT B1.out hb2)
    clear hb2
    go_wp2
    go_ret
    exact ⟨rfl, B2.out⟩
  · rw [Bool.and_eq_true] at h
    obtain ⟨h1, h2⟩ := h
    have gx := good_of_valid h1
    have gy := good_of_valid h2
    obtain ⟨va, ma⟩ := mergeL_spec (fun x y => x && y) rfl h1 h2
    obtain ⟨vo, mo⟩ := mergeL_spec (fun x y => x || y) rfl h1 h2
    obtain ⟨vm, mm⟩ := mergeL_spec (fun x y => x && !y) rfl h1 h2
    have ga := good_of_valid va
    have go := good_of_valid vo
    have gm := good_of_valid vm
    have ca := count_valid va
    have co := count_valid vo
    have cm := count_valid vm
    have cx := count_valid h1
    have cy := count_valid h2
    rw [count_cnt va, cnt_congr ma] at ca
    rw [count_cnt vo, cnt_congr mo] at co
    rw [count_cnt vm, cnt_congr mm] at cm
    rw [count_cnt h1] at cx
    rw [count_cnt h2] at cy
    have k1 := cnt_or (hasL xs) (hasL ys) 4096
    have k2 := cnt_minus (hasL xs) (hasL ys) 4096
    have b1 := cnt_bd (hasL xs) 4096
    have b2 := cnt_bd (hasL ys) 4096
    have b3 := cnt_bd (fun x => hasL xs x && hasL ys x) 4096
    have b4 := cnt_bd (fun x => hasL xs x && !hasL ys x) 4096
    have b5 := cnt_bd (fun x => hasL xs x || hasL ys x) 4096
    have ma' := Hid.mk (ma s)
    have mo' := Hid.mk (mo s)
    have mm' := Hid.mk (mm s)
    generalize cntTo (hasL xs) 4096 = p1 at *
    generalize cntTo (hasL ys) 4096 = p2 at *
    generalize cntTo (fun x => hasL xs x && hasL ys x) 4096 = p3 at *
    generalize cntTo (fun x => hasL xs x && !hasL ys x) 4096 = p4 at *
    generalize cntTo (fun x => hasL xs x || hasL ys x) 4096 = p5 at *
    have CA := Hid.mk ca
    have CO := Hid.mk co
    have CM := Hid.mk cm
    have CX := Hid.mk cx
    have CY := Hid.mk cy
    clear ca co cm cx cy ma mo mm
    generalize hx : hasL xs s = b1' at *
    generalize hy : hasL ys s = b2' at *
    have HX := Hid.mk hx
    have HY := Hid.mk hy
    clear hx hy
    have e1 : (p5 == p1 + p2 - p3) = true := by rw [beq_iff_eq]; omega
    have e2 : (p4 + p3 == p1) = true := by rw [beq_iff_eq]; omega
    cases b1' <;> cases b2'
    all_goals
      go_enter Try.func7, Try.ntmps7
      have B0 := Hid.mk (Below.refl w.heap.size w)
      have u_0 := Hid.mk hu
      have v_0 := Hid.mk hv
      go_wp2_with fail
      go_at_call 29
      refine (lawValid _ _ xs ys _ u_0.out v_0.out lu lv).mono ?_
      rw [h1, h2]
      rintro e w1 ⟨rfl, hs1⟩
      have hb1 := stillB hs1
      have u_1 := Hid.mk (Rd.below u_0.out hb1)
      have v_1 := Hid.mk (Rd.below v_0.out hb1)
      have B1 := Hid.mk (belowT B0.out hb1)
      clear hb1 hs1
      go_wp2_with fail
      go_at_call 30
      refine (bitsAnd _ _ xs ys _ u_1.out v_1.out gx gy).mono ?_
      rintro e w2 ⟨v2, rfl, ho2, hb2⟩
      have u_2 := Hid.mk (Rd.below u_1.out hb2)
      have v_2 := Hid.mk (Rd.below v_1.out hb2)
      have B2 := Hid.mk (belowT B1.out hb2)
      have a_2 := Hid.mk ho2.rd
      clear hb2 ho2
      go_wp2_with fail
      go_at_call 32
      refine (bitsOr _ _ xs ys _ u_2.out v_2.out gx gy).mono ?_
      rintro e w3 ⟨v3, rfl, ho3, hb3⟩
      have u_3 := Hid.mk (Rd.below u_2.out hb3)
      have v_3 := Hid.mk (Rd.below v_2.out hb3)
      have a_3 := Hid.mk (Rd.below a_2.out hb3)
      have B3 := Hid.mk (belowT B2.out hb3)
      have o_3 := Hid.mk ho3.rd
      clear hb3 ho3
      go_wp2_with fail
      go_at_call 34
      refine (bitsMinus _ _ xs ys _ u_3.out v_3.out gx gy).mono ?_
      rintro e w4 ⟨v4, rfl, ho4, hb4⟩
      have u_4 := Hid.mk (Rd.below u_3.out hb4)
      have v_4 := Hid.mk (Rd.below v_3.out hb4)
      have a_4 := Hid.mk (Rd.below a_3.out hb4)
      have o_4 := Hid.mk (Rd.below o_3.out hb4)
      have B4 := Hid.mk (belowT B3.out hb4)
      have m_4 := Hid.mk ho4.rd
      clear hb4 ho4
      go_wp2_with fail
      go_at_call 18
      refine (bitsHas _ xs s _ u_4.out h1).mono ?_
      rw [HX.out]
      rintro e w5 ⟨rfl, rfl⟩
      go_wp2_with fail
      go_at_call 18
      refine (bitsHas _ ys s _ v_4.out h2).mono ?_
      rw [HY.out]
      rintro e w6 ⟨rfl, rfl⟩
      go_wp2_with fail
      go_at_call 18
      refine (bitsHas _ _ s _ a_4.out va).mono ?_
      rw [ma'.out]
      rintro e w7 ⟨rfl, rfl⟩
      go_wp2_with fail
      go_at_call 18
      refine (bitsHas _ _ s _ o_4.out vo).mono ?_
      rw [mo'.out]
      rintro e w8 ⟨rfl, rfl⟩
      go_wp2_with fail
      go_at_call 18
      refine (bitsHas _ _ s _ m_4.out vm).mono ?_
      rw [mm'.out]
      rintro e w9 ⟨rfl, rfl⟩
      go_wp2_with fail
      go_at_call 10
      refine (sanity _).mono ?_
      rintro e w10 ⟨rfl, hb10⟩
      have u_10 := Hid.mk (Rd.below u_4.out hb10)
      have v_10 := Hid.mk (Rd.below v_4.out hb10)
      have a_10 := Hid.mk (Rd.below a_4.out hb10)
      have o_10 := Hid.mk (Rd.below o_4.out hb10)
      have m_10 := Hid.mk (Rd.below m_4.out hb10)
      have B10 := Hid.mk (belowT B4.out hb10)
      clear hb10
      go_wp2_with fail
      go_at_call 20
      refine (bitsCount _ _ _ o_10.out go).mono ?_
      rw [CO.out]
      rintro e w11 ⟨rfl, hs11⟩
      have hb11 := stillB hs11
      have u_11 := Hid.mk (Rd.below u_10.out hb11)
      have v_11 := Hid.mk (Rd.below v_10.out hb11)
      have a_11 := Hid.mk (Rd.below a_10.out hb11)
      have o_11 := Hid.mk (Rd.below o_10.out hb11)
      have m_11 := Hid.mk (Rd.below m_10.out hb11)
      have B11 := Hid.mk (belowT B10.out hb11)
      clear hb11 hs11
      go_wp2_with fail
      go_at_call 20
      refine (bitsCount _ _ _ u_11.out gx).mono ?_
      rw [CX.out]
      rintro e w12 ⟨rfl, hs12⟩
      have hb12 := stillB hs12
      have u_12 := Hid.mk (Rd.below u_11.out hb12)
      have v_12 := Hid.mk (Rd.below v_11.out hb12)
      have a_12 := Hid.mk (Rd.below a_11.out hb12)
      have o_12 := Hid.mk (Rd.below o_11.out hb12)
      have m_12 := Hid.mk (Rd.below m_11.out hb12)
      have B12 := Hid.mk (belowT B11.out hb12)
      clear hb12 hs12
      go_wp2_with fail
      go_at_call 20
      refine (bitsCount _ _ _ v_12.out gy).mono ?_
      rw [CY.out]
      rintro e w13 ⟨rfl, hs13⟩
      have hb13 := stillB hs13
      have u_13 := Hid.mk (Rd.below u_12.out hb13)
      have v_13 := Hid.mk (Rd.below v_12.out hb13)
      have a_13 := Hid.mk (Rd.below a_12.out hb13)
      have o_13 := Hid.mk (Rd.below o_12.out hb13)
      have m_13 := Hid.mk (Rd.below m_12.out hb13)
      have B13 := Hid.mk (belowT B12.out hb13)
      clear hb13 hs13
      go_wp2_with fail
      go_at_call 20
      refine (bitsCount _ _ _ a_13.out ga).mono ?_
      rw [CA.out]
      rintro e w14 ⟨rfl, hs14⟩
      have hb14 := stillB hs14
      have u_14 := Hid.mk (Rd.below u_13.out hb14)
      have v_14 := Hid.mk (Rd.below v_13.out hb14)
      have a_14 := Hid.mk (Rd.below a_13.out hb14)
      have o_14 := Hid.mk (Rd.below o_13.out hb14)
      have m_14 := Hid.mk (Rd.below m_13.out hb14)
      have B14 := Hid.mk (belowT B13.out hb14)
      clear hb14 hs14
      go_wp2_with fail
      go_at_call 20
      refine (bitsCount _ _ _ m_14.out gm).mono ?_
      rw [CM.out]
      rintro e w15 ⟨rfl, hs15⟩
      have hb15 := stillB hs15
      have u_15 := Hid.mk (Rd.below u_14.out hb15)
      have v_15 := Hid.mk (Rd.below v_14.out hb15)
      have a_15 := Hid.mk (Rd.below a_14.out hb15)
      have o_15 := Hid.mk (Rd.below o_14.out hb15)
      have m_15 := Hid.mk (Rd.below m_14.out hb15)
      have B15 := Hid.mk (belowT B14.out hb15)
      clear hb15 hs15
      go_wp2_with fail
      go_at_call 20
      refine (bitsCount _ _ _ a_15.out ga).mono ?_
      rw [CA.out]
      rintro e w16 ⟨rfl, hs16⟩
      have hb16 := stillB hs16
      have u_16 := Hid.mk (Rd.below u_15.out hb16)
      have v_16 := Hid.mk (Rd.below v_15.out hb16)
      have a_16 := Hid.mk (Rd.below a_15.out hb16)
      have o_16 := Hid.mk (Rd.below o_15.out hb16)
      have m_16 := Hid.mk (Rd.below m_15.out hb16)
      have B16 := Hid.mk (belowT B15.out hb16)
      clear hb16 hs16
      go_wp2_with fail
      go_at_call 20
      refine (bitsCount _ _ _ u_16.out gx).mono ?_
      rw [CX.out]
      rintro e w17 ⟨rfl, hs17⟩
      have hb17 := stillB hs17
      have u_17 := Hid.mk (Rd.below u_16.out hb17)
      have v_17 := Hid.mk (Rd.below v_16.out hb17)
      have a_17 := Hid.mk (Rd.below a_16.out hb17)
      have o_17 := Hid.mk (Rd.below o_16.out hb17)
      have m_17 := Hid.mk (Rd.below m_16.out hb17)
      have B17 := Hid.mk (belowT B16.out hb17)
      clear hb17 hs17
      go_wp2
      go_ret
      exact ⟨rfl, B17.out⟩

end Go.Proofs.Ytomjfmebbpfkeaa
