/- The walk of sanity of antiquarylaw11. -/
import Derived.Test.YtomjfmebbpfkeaaBitsD
import Derived.Test.YtomjfmebbpfkeaaBitsG
import Derived.Test.YtomjfmebbpfkeaaBitsI
import Derived.Test.YtomjfmebbpfkeaaBitsJ
import Derived.Test.YtomjfmebbpfkeaaPlainR
import Derived.Test.YtomjfmebbpfkeaaPlainZ
namespace Go.Proofs.Ytomjfmebbpfkeaa
set_option linter.unusedSimpArgs false
set_option linter.unusedVariables false
set_option linter.unnecessarySimpa false
open Go.RowKit

theorem allocI {w : World} {v : Value} {cs : List Value} {o : Obj} (h : Rd w v cs) : Rd (w.alloc o) v cs := Rd.below h ((Below.refl _ _).alloc (Nat.le_refl _) _)
theorem litI (w : World) (zs : List Int) (h : zs.length ≤ maxLen) : Ints (w.alloc (.cells (zs.map (Value.int .i64)).toArray 3)) (.slice (some ⟨w.heap.size, 0, none⟩) zs.length zs.length) zs := by
  have := (Own.lit w (zs.map (Value.int .i64)) 3 0 (Nat.zero_le _) (by simpa using h)).rd
  simpa [Ints] using this
theorem allocB {w w1 : World} {o : Obj} (h : Below w.heap.size w w1) : Below w.heap.size w (w1.alloc o) := h.alloc h.size o
theorem stillB {w w1 : World} (h : Still w w1) : Below w.heap.size w w1 := h.below _
theorem belowT {w w1 w2 : World} (h : Below w.heap.size w w1) (k : Below w1.heap.size w1 w2) : Below w.heap.size w w2 := h.trans (k.mono h.size)

theorem validA : validB [1, 4, 7, 8] = true := by decide
theorem goodA : Good [1, 4, 7, 8] := good_of_valid validA
theorem goodB : Good [3, 8] := good_of_valid (by decide)
theorem of_example : ofL [7, 2, 1, 3, 2] = ([1, 4, 7, 8], 0) := by
  rw [ofL_eq]
  have h1 : ofE [7, 2, 1, 3, 2] = 0 := by decide
  have h2 : ofB [7, 2, 1, 3, 2] = [1, 4, 7, 8] := by
    rw [ofB, if_pos (by decide)]
    symm
    refine bits_of_has validA _ (fun y h0 h1 => ?_)
    rw [Bool.eq_iff_iff]
    simp [hasL]; omega
  rw [h1, h2]
theorem leb_byte : ∀ (z : Nat), ∀ c ∈ leb z, 0 ≤ c ∧ c < 256 := by
  intro z
  induction z using Nat.strongRecOn with
  | _ z ih =>
    intro c hc
    by_cases h : z < 128
    · rw [leb_small z h] at hc; simp at hc; omega
    · rw [leb_big z (by omega)] at hc
      rcases List.mem_cons.1 hc with rfl | hc
      · omega
      · exact ih (z / 128) (by omega) c hc
theorem intsB_byte (ds : List Int) : Byte (intsB ds) := Byte.of (fun c hc => by
  rw [intsB, List.mem_append] at hc
  rcases hc with hc | hc
  · exact leb_byte _ c hc
  · obtain ⟨l, hl, hcl⟩ := List.mem_flatten.1 hc
    obtain ⟨d, _, rfl⟩ := List.mem_map.1 hl
    exact leb_byte _ c hcl)
theorem intsB_len (zs : List Int) (hg : Good zs) : (intsB (diffL zs 0)).length ≤ 1000000000 := by
  have h1 := flat_len (diffL zs 0) (diff_fit hg)
  have h2 := intB_len ((diffL zs 0).length : Int) (by omega) (by rw [diffL_length]; have := hg.len; omega)
  rw [intsB, List.length_append]
  rw [diffL_length] at h1
  have := hg.len
  omega
theorem encA_byte : Byte (intsB (diffL [1, 4, 7, 8] 0)) := intsB_byte _
theorem encA_len : (intsB (diffL [1, 4, 7, 8] 0)).length ≤ 1000000000 := intsB_len _ goodA

set_option maxRecDepth 100000 in
set_option maxHeartbeats 4000000 in
theorem sanity (w : World) : Calls Try.prog 10 #[] w fun e w' => e = .returned (.bool true) ∧ Below w.heap.size w w' := by
  go_enter Try.func10, Try.ntmps10
  have B0 := Hid.mk (Below.refl w.heap.size w)
  go_wp2_with fail
  go_at_call 11
  refine (bitsOf _ [7, 2, 1, 3, 2] _ (litI w [7, 2, 1, 3, 2] (by simp [maxLen])) (by simp)).mono ?_
  rw [of_example]
  rintro e w1 ⟨v1, rfl, ho1, hb1⟩
  have B1 := Hid.mk (belowT (allocB B0.out) hb1)
  have a_1 := Hid.mk ho1.rd
  clear hb1 ho1
  go_wp2_with fail
  go_at_call 13
  refine (bitsRun 3 8 _).mono ?_
  rw [show runL 3 8 = [3, 8] from by decide]
  rintro e w2 ⟨v2, rfl, ho2, hb2⟩
  have a_2 := Hid.mk (Rd.below a_1.out hb2)
  have B2 := Hid.mk (belowT B1.out hb2)
  have b_2 := Hid.mk ho2.rd
  clear hb2 ho2
  go_wp2_with fail
  go_at_call 36
  refine (bitsEncode _ [1, 4, 7, 8] _ a_2.out goodA).mono ?_
  rintro e w3 ⟨v3, rfl, ho3, hb3⟩
  have a_3 := Hid.mk (Rd.below a_2.out hb3)
  have b_3 := Hid.mk (Rd.below b_2.out hb3)
  have B3 := Hid.mk (belowT B2.out hb3)
  have s_3 := Hid.mk ho3.rd
  clear hb3 ho3
  go_wp2_with fail
  go_at_call 37
  refine (bitsDecode _ _ _ s_3.out encA_byte encA_len).mono ?_
  rw [dec_enc validA]
  rintro e w4 ⟨v4, rfl, ho4, hb4⟩
  have a_4 := Hid.mk (Rd.below a_3.out hb4)
  have b_4 := Hid.mk (Rd.below b_3.out hb4)
  have s_4 := Hid.mk (Rd.below s_3.out hb4)
  have B4 := Hid.mk (belowT B3.out hb4)
  have c_4 := Hid.mk ho4.rd
  clear hb4 ho4
  go_wp2_with fail
  go_at_call 16
  refine (refSame _ _ [1, 4, 7, 8] [1, 4, 7, 8] _ (allocI a_4.out) (litI _ [1, 4, 7, 8] (by simp [maxLen])) (by simp) (by simp)).mono ?_
  rw [show ([1, 4, 7, 8] == ([1, 4, 7, 8] : List Int)) = true from by decide]
  rintro e w5 ⟨rfl, hs5⟩
  have hb5 := stillB hs5
  have a_5 := Hid.mk (Rd.below (allocI a_4.out) hb5)
  have b_5 := Hid.mk (Rd.below (allocI b_4.out) hb5)
  have c_5 := Hid.mk (Rd.below (allocI c_4.out) hb5)
  have B5 := Hid.mk (belowT (allocB B4.out) hb5)
  clear hb5 hs5
  go_wp2_with fail
  go_at_call 16
  refine (refSame _ _ [3, 8] [3, 8] _ (allocI b_5.out) (litI _ [3, 8] (by simp [maxLen])) (by simp) (by simp)).mono ?_
  rw [show ([3, 8] == ([3, 8] : List Int)) = true from by decide]
  rintro e w6 ⟨rfl, hs6⟩
  have hb6 := stillB hs6
  have a_6 := Hid.mk (Rd.below (allocI a_5.out) hb6)
  have b_6 := Hid.mk (Rd.below (allocI b_5.out) hb6)
  have c_6 := Hid.mk (Rd.below (allocI c_5.out) hb6)
  have B6 := Hid.mk (belowT (allocB B5.out) hb6)
  clear hb6 hs6
  go_wp2_with fail
  go_at_call 30
  refine (bitsAnd _ _ [1, 4, 7, 8] [3, 8] _ a_6.out b_6.out goodA goodB).mono ?_
  rw [show mergeL (fun x y => x && y) [1, 4, 7, 8] [3, 8] = [3, 4, 7, 8] from by decide]
  rintro e w7 ⟨v7, rfl, ho7, hb7⟩
  have a_7 := Hid.mk (Rd.below a_6.out hb7)
  have b_7 := Hid.mk (Rd.below b_6.out hb7)
  have c_7 := Hid.mk (Rd.below c_6.out hb7)
  have B7 := Hid.mk (belowT B6.out hb7)
  have m_7 := Hid.mk ho7.rd
  clear hb7 ho7
  go_wp2_with fail
  go_at_call 16
  refine (refSame _ _ [3, 4, 7, 8] [3, 4, 7, 8] _ (allocI m_7.out) (litI _ [3, 4, 7, 8] (by simp [maxLen])) (by simp) (by simp)).mono ?_
  rw [show ([3, 4, 7, 8] == ([3, 4, 7, 8] : List Int)) = true from by decide]
  rintro e w8 ⟨rfl, hs8⟩
  have hb8 := stillB hs8
  have a_8 := Hid.mk (Rd.below (allocI a_7.out) hb8)
  have b_8 := Hid.mk (Rd.below (allocI b_7.out) hb8)
  have c_8 := Hid.mk (Rd.below (allocI c_7.out) hb8)
  have m_8 := Hid.mk (Rd.below (allocI m_7.out) hb8)
  have B8 := Hid.mk (belowT (allocB B7.out) hb8)
  clear hb8 hs8
  go_wp2_with fail
  go_at_call 32
  refine (bitsOr _ _ [1, 4, 7, 8] [3, 8] _ a_8.out b_8.out goodA goodB).mono ?_
  rw [show mergeL (fun x y => x || y) [1, 4, 7, 8] [3, 8] = [1, 8] from by decide]
  rintro e w9 ⟨v9, rfl, ho9, hb9⟩
  have a_9 := Hid.mk (Rd.below a_8.out hb9)
  have b_9 := Hid.mk (Rd.below b_8.out hb9)
  have c_9 := Hid.mk (Rd.below c_8.out hb9)
  have B9 := Hid.mk (belowT B8.out hb9)
  have m_9 := Hid.mk ho9.rd
  clear hb9 ho9
  go_wp2_with fail
  go_at_call 16
  refine (refSame _ _ [1, 8] [1, 8] _ (allocI m_9.out) (litI _ [1, 8] (by simp [maxLen])) (by simp) (by simp)).mono ?_
  rw [show ([1, 8] == ([1, 8] : List Int)) = true from by decide]
  rintro e w10 ⟨rfl, hs10⟩
  have hb10 := stillB hs10
  have a_10 := Hid.mk (Rd.below (allocI a_9.out) hb10)
  have b_10 := Hid.mk (Rd.below (allocI b_9.out) hb10)
  have c_10 := Hid.mk (Rd.below (allocI c_9.out) hb10)
  have m_10 := Hid.mk (Rd.below (allocI m_9.out) hb10)
  have B10 := Hid.mk (belowT (allocB B9.out) hb10)
  clear hb10 hs10
  go_wp2_with fail
  go_at_call 34
  refine (bitsMinus _ _ [1, 4, 7, 8] [3, 8] _ a_10.out b_10.out goodA goodB).mono ?_
  rw [show mergeL (fun x y => x && !y) [1, 4, 7, 8] [3, 8] = [1, 3] from by decide]
  rintro e w11 ⟨v11, rfl, ho11, hb11⟩
  have a_11 := Hid.mk (Rd.below a_10.out hb11)
  have b_11 := Hid.mk (Rd.below b_10.out hb11)
  have c_11 := Hid.mk (Rd.below c_10.out hb11)
  have B11 := Hid.mk (belowT B10.out hb11)
  have m_11 := Hid.mk ho11.rd
  clear hb11 ho11
  go_wp2_with fail
  go_at_call 16
  refine (refSame _ _ [1, 3] [1, 3] _ (allocI m_11.out) (litI _ [1, 3] (by simp [maxLen])) (by simp) (by simp)).mono ?_
  rw [show ([1, 3] == ([1, 3] : List Int)) = true from by decide]
  rintro e w12 ⟨rfl, hs12⟩
  have hb12 := stillB hs12
  have a_12 := Hid.mk (Rd.below (allocI a_11.out) hb12)
  have b_12 := Hid.mk (Rd.below (allocI b_11.out) hb12)
  have c_12 := Hid.mk (Rd.below (allocI c_11.out) hb12)
  have m_12 := Hid.mk (Rd.below (allocI m_11.out) hb12)
  have B12 := Hid.mk (belowT (allocB B11.out) hb12)
  clear hb12 hs12
  go_wp2_with fail
  go_at_call 20
  refine (bitsCount _ [1, 4, 7, 8] _ a_12.out goodA).mono ?_
  rw [show rankL [1, 4, 7, 8] 4096 = 4 from by decide]
  rintro e w13 ⟨rfl, hs13⟩
  have hb13 := stillB hs13
  have a_13 := Hid.mk (Rd.below a_12.out hb13)
  have b_13 := Hid.mk (Rd.below b_12.out hb13)
  have c_13 := Hid.mk (Rd.below c_12.out hb13)
  have B13 := Hid.mk (belowT B12.out hb13)
  clear hb13 hs13
  go_wp2_with fail
  go_at_call 25
  refine (bitsRank _ [1, 4, 7, 8] 7 _ a_13.out goodA).mono ?_
  rw [show rankL [1, 4, 7, 8] 7 = 3 from by decide]
  rintro e w14 ⟨rfl, hs14⟩
  have hb14 := stillB hs14
  have a_14 := Hid.mk (Rd.below a_13.out hb14)
  have b_14 := Hid.mk (Rd.below b_13.out hb14)
  have c_14 := Hid.mk (Rd.below c_13.out hb14)
  have B14 := Hid.mk (belowT B13.out hb14)
  clear hb14 hs14
  go_wp2_with fail
  go_at_call 27
  refine (bitsSelect _ [1, 4, 7, 8] 3 _ a_14.out goodA (by omega)).mono ?_
  rw [show selB [1, 4, 7, 8] 3 = 7 from by decide]
  rintro e w15 ⟨rfl, hs15⟩
  have hb15 := stillB hs15
  have a_15 := Hid.mk (Rd.below a_14.out hb15)
  have b_15 := Hid.mk (Rd.below b_14.out hb15)
  have c_15 := Hid.mk (Rd.below c_14.out hb15)
  have B15 := Hid.mk (belowT B14.out hb15)
  clear hb15 hs15
  go_wp2_with fail
  go_at_call 27
  refine (bitsSelect _ [1, 4, 7, 8] 4 _ a_15.out goodA (by omega)).mono ?_
  rw [show selB [1, 4, 7, 8] 4 = -1 from by decide]
  rintro e w16 ⟨rfl, hs16⟩
  have hb16 := stillB hs16
  have a_16 := Hid.mk (Rd.below a_15.out hb16)
  have b_16 := Hid.mk (Rd.below b_15.out hb16)
  have c_16 := Hid.mk (Rd.below c_15.out hb16)
  have B16 := Hid.mk (belowT B15.out hb16)
  clear hb16 hs16
  go_wp2_with fail
  go_at_call 18
  refine (bitsHas _ [1, 4, 7, 8] 3 _ a_16.out validA).mono ?_
  rw [show hasL [1, 4, 7, 8] 3 = true from by decide]
  rintro e w17 ⟨rfl, rfl⟩
  go_wp2_with fail
  go_at_call 18
  refine (bitsHas _ [1, 4, 7, 8] 4 _ a_16.out validA).mono ?_
  rw [show hasL [1, 4, 7, 8] 4 = false from by decide]
  rintro e w18 ⟨rfl, rfl⟩
  go_wp2_with fail
  go_at_call 23
  refine (bitsSlots _ [1, 4, 7, 8] _ a_16.out goodA).mono ?_
  rw [show slotsL [1, 4, 7, 8] = [1, 2, 3, 7] from by decide]
  rintro e w19 ⟨v19, rfl, ho19, hb19⟩
  have a_19 := Hid.mk (Rd.below a_16.out hb19)
  have b_19 := Hid.mk (Rd.below b_16.out hb19)
  have c_19 := Hid.mk (Rd.below c_16.out hb19)
  have B19 := Hid.mk (belowT B16.out hb19)
  obtain ⟨a19, c19, rfl⟩ := ho19.formInts
  have l_19 := Hid.mk ho19.rd
  clear hb19 ho19
  go_wp2_with fail
  go_at_call 16
  refine (refSame _ _ [1, 4, 7, 8] [1, 4, 7, 8] _ c_19.out a_19.out (by simp) (by simp)).mono ?_
  rw [show ([1, 4, 7, 8] == ([1, 4, 7, 8] : List Int)) = true from by decide]
  rintro e w20 ⟨rfl, hs20⟩
  have hb20 := stillB hs20
  have a_20 := Hid.mk (Rd.below a_19.out hb20)
  have b_20 := Hid.mk (Rd.below b_19.out hb20)
  have c_20 := Hid.mk (Rd.below c_19.out hb20)
  have B20 := Hid.mk (belowT B19.out hb20)
  clear hb20 hs20
  go_wp2_with fail
  go_at_call 13
  refine (bitsRun (-5) 2 _).mono ?_
  rw [show runL (-5) 2 = [0, 2] from by decide]
  rintro e w21 ⟨v21, rfl, ho21, hb21⟩
  have a_21 := Hid.mk (Rd.below a_20.out hb21)
  have b_21 := Hid.mk (Rd.below b_20.out hb21)
  have c_21 := Hid.mk (Rd.below c_20.out hb21)
  have B21 := Hid.mk (belowT B20.out hb21)
  have r_21 := Hid.mk ho21.rd
  clear hb21 ho21
  go_wp2_with fail
  go_at_call 16
  refine (refSame _ _ [0, 2] [0, 2] _ (allocI r_21.out) (litI _ [0, 2] (by simp [maxLen])) (by simp) (by simp)).mono ?_
  rw [show ([0, 2] == ([0, 2] : List Int)) = true from by decide]
  rintro e w22 ⟨rfl, hs22⟩
  have hb22 := stillB hs22
  have a_22 := Hid.mk (Rd.below (allocI a_21.out) hb22)
  have b_22 := Hid.mk (Rd.below (allocI b_21.out) hb22)
  have c_22 := Hid.mk (Rd.below (allocI c_21.out) hb22)
  have r_22 := Hid.mk (Rd.below (allocI r_21.out) hb22)
  have B22 := Hid.mk (belowT (allocB B21.out) hb22)
  clear hb22 hs22
  go_wp2_with fail
  go_at_call 13
  refine (bitsRun (4090) 5000 _).mono ?_
  rw [show runL (4090) 5000 = [4090, 4096] from by decide]
  rintro e w23 ⟨v23, rfl, ho23, hb23⟩
  have a_23 := Hid.mk (Rd.below a_22.out hb23)
  have b_23 := Hid.mk (Rd.below b_22.out hb23)
  have c_23 := Hid.mk (Rd.below c_22.out hb23)
  have B23 := Hid.mk (belowT B22.out hb23)
  have r_23 := Hid.mk ho23.rd
  clear hb23 ho23
  go_wp2_with fail
  go_at_call 16
  refine (refSame _ _ [4090, 4096] [4090, 4096] _ (allocI r_23.out) (litI _ [4090, 4096] (by simp [maxLen])) (by simp) (by simp)).mono ?_
  rw [show ([4090, 4096] == ([4090, 4096] : List Int)) = true from by decide]
  rintro e w24 ⟨rfl, hs24⟩
  have hb24 := stillB hs24
  have a_24 := Hid.mk (Rd.below (allocI a_23.out) hb24)
  have b_24 := Hid.mk (Rd.below (allocI b_23.out) hb24)
  have c_24 := Hid.mk (Rd.below (allocI c_23.out) hb24)
  have r_24 := Hid.mk (Rd.below (allocI r_23.out) hb24)
  have B24 := Hid.mk (belowT (allocB B23.out) hb24)
  clear hb24 hs24
  go_wp2_with fail
  go_at_call 13
  refine (bitsRun 7 7 _).mono ?_
  rw [show runL 7 7 = [] from by decide]
  rintro e w25 ⟨v25, rfl, ho25, hb25⟩
  have a_25 := Hid.mk (Rd.below a_24.out hb25)
  have b_25 := Hid.mk (Rd.below b_24.out hb25)
  have c_25 := Hid.mk (Rd.below c_24.out hb25)
  have B25 := Hid.mk (belowT B24.out hb25)
  obtain ⟨a25, c25, rfl⟩ := ho25.formInts
  have r_25 := Hid.mk ho25.rd
  clear hb25 ho25
  go_wp2_with fail
  go_at_call 14
  refine (bitsValid _ [1, 4, 7, 8] _ a_25.out (by simp)).mono ?_
  rw [show validB [1, 4, 7, 8] = true from by decide]
  rintro e w26 ⟨rfl, hs26⟩
  have hb26 := stillB hs26
  have a_26 := Hid.mk (Rd.below a_25.out hb26)
  have b_26 := Hid.mk (Rd.below b_25.out hb26)
  have c_26 := Hid.mk (Rd.below c_25.out hb26)
  have B26 := Hid.mk (belowT B25.out hb26)
  clear hb26 hs26
  go_wp2_with fail
  go_at_call 14
  refine (bitsValid _ [1] _ (litI _ [1] (by simp [maxLen])) (by simp)).mono ?_
  rw [show validB [1] = false from by decide]
  rintro e w27 ⟨rfl, hs27⟩
  have hb27 := stillB hs27
  have a_27 := Hid.mk (Rd.below (allocI a_26.out) hb27)
  have b_27 := Hid.mk (Rd.below (allocI b_26.out) hb27)
  have c_27 := Hid.mk (Rd.below (allocI c_26.out) hb27)
  have B27 := Hid.mk (belowT (allocB B26.out) hb27)
  clear hb27 hs27
  go_wp2
  go_ret
  exact ⟨rfl, B27.out⟩

end Go.Proofs.Ytomjfmebbpfkeaa
