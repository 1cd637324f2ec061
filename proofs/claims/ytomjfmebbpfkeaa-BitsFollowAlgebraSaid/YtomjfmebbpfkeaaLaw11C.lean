/- The walks of the laws BitsCountAsSpecified and BitsFollowAlgebra. -/
import Derived.Test.YtomjfmebbpfkeaaBitsD
import Derived.Test.YtomjfmebbpfkeaaBitsG
import Derived.Test.YtomjfmebbpfkeaaBitsI
import Derived.Test.YtomjfmebbpfkeaaBitsJ
import Derived.Test.YtomjfmebbpfkeaaPlainR
import Derived.Test.YtomjfmebbpfkeaaPlainZ
import Derived.Test.YtomjfmebbpfkeaaLaw11A
namespace Go.Proofs.Ytomjfmebbpfkeaa
set_option linter.unusedSimpArgs false
set_option linter.unusedVariables false
set_option linter.unnecessarySimpa false
open Go.RowKit

set_option maxRecDepth 100000 in
set_option maxHeartbeats 4000000 in
theorem lawAlgebra (u v t : Value) (xs ys zs : List Int) (w : World) (hu : Ints w u xs) (hv : Ints w v ys) (ht : Ints w t zs) (lu : xs.length ≤ 17592186044416) (lv : ys.length ≤ 17592186044416) (lt : zs.length ≤ 17592186044416) :
    Calls Try.prog 8 #[u, v, t] w fun e w' => e = .returned (.bool true) ∧ Below w.heap.size w w' := by
  cases h : (validB xs && validB ys)
  · go_enter Try.func8, Try.ntmps8
    have B0 := Hid.mk (Below.refl w.heap.size w)
    have u_0 := Hid.mk hu
    have v_0 := Hid.mk hv
    go_wp2_with fail
    go_at_call 29
    refine (lawValid _ _ xs ys _ u_0.out v_0.out lu lv).mono ?_
    rw [h]
    rintro e w1 ⟨rfl, hs1⟩
    have hb1 := stillB hs1
    have u_1 := Hid.mk (Rd.below u_0.out hb1)
    have v_1 := Hid.mk (Rd.below v_0.out hb1)
    have B1 := Hid.mk (belowT B0.out hb1)
    clear hb1 hs1
    go_wp2_with fail
    go_at_call 10
    refine (sanity _).mono ?_
    rintro e w2 ⟨rfl, hb2⟩
    have u_2 := Hid.mk (Rd.below u_1.out hb2)
    have v_2 := Hid.mk (Rd.below v_1.out hb2)
    have B2 := Hid.mk (belowT B1.out hb2)
    clear hb2
    go_wp2
    go_ret
    exact ⟨rfl, B2.out⟩
  · cases h3 : validB zs
    · go_enter Try.func8, Try.ntmps8
      have B0 := Hid.mk (Below.refl w.heap.size w)
      have u_0 := Hid.mk hu
      have v_0 := Hid.mk hv
      have t_0 := Hid.mk ht
      go_wp2_with fail
      go_at_call 29
      refine (lawValid _ _ xs ys _ u_0.out v_0.out lu lv).mono ?_
      rw [h]
      rintro e w1 ⟨rfl, hs1⟩
      have hb1 := stillB hs1
      have u_1 := Hid.mk (Rd.below u_0.out hb1)
      have v_1 := Hid.mk (Rd.below v_0.out hb1)
      have t_1 := Hid.mk (Rd.below t_0.out hb1)
      have B1 := Hid.mk (belowT B0.out hb1)
      clear hb1 hs1
      go_wp2_with fail
      go_at_call 15
      refine (refValid _ zs _ t_1.out lt).mono ?_
      rw [h3]
      rintro e w2 ⟨rfl, hs2⟩
      have hb2 := stillB hs2
      have u_2 := Hid.mk (Rd.below u_1.out hb2)
      have v_2 := Hid.mk (Rd.below v_1.out hb2)
      have t_2 := Hid.mk (Rd.below t_1.out hb2)
      have B2 := Hid.mk (belowT B1.out hb2)
      clear hb2 hs2
      go_wp2_with fail
      go_at_call 10
      refine (sanity _).mono ?_
      rintro e w3 ⟨rfl, hb3⟩
      have u_3 := Hid.mk (Rd.below u_2.out hb3)
      have v_3 := Hid.mk (Rd.below v_2.out hb3)
      have t_3 := Hid.mk (Rd.below t_2.out hb3)
      have B3 := Hid.mk (belowT B2.out hb3)
      clear hb3
      go_wp2
      go_ret
      exact ⟨rfl, B3.out⟩
    · have h0 := Hid.mk h
      rw [Bool.and_eq_true] at h
      obtain ⟨h1, h2⟩ := h
      have vX := h1
      have vY := h2
      have vZ := h3
      have gX := good_of_valid vX
      have gY := good_of_valid vY
      have gZ := good_of_valid vZ
      obtain ⟨vAB, mAB⟩ := mergeL_spec (fun x y => x && y) rfl vX vY
      have gAB := good_of_valid vAB
      obtain ⟨vO, mO⟩ := mergeL_spec (fun x y => x || y) rfl vX vY
      have gO := good_of_valid vO
      obtain ⟨vMI, mMI⟩ := mergeL_spec (fun x y => x && !y) rfl vX vY
      have gMI := good_of_valid vMI
      obtain ⟨vBA, mBA⟩ := mergeL_spec (fun x y => x && y) rfl vY vX
      have gBA := good_of_valid vBA
      obtain ⟨vOB, mOB⟩ := mergeL_spec (fun x y => x || y) rfl vY vX
      have gOB := good_of_valid vOB
      obtain ⟨vABC, mABC⟩ := mergeL_spec (fun x y => x && y) rfl vAB vZ
      have gABC := good_of_valid vABC
      obtain ⟨vBC, mBC⟩ := mergeL_spec (fun x y => x && y) rfl vY vZ
      have gBC := good_of_valid vBC
      obtain ⟨vABC2, mABC2⟩ := mergeL_spec (fun x y => x && y) rfl vX vBC
      have gABC2 := good_of_valid vABC2
      obtain ⟨vOC, mOC⟩ := mergeL_spec (fun x y => x || y) rfl vO vZ
      have gOC := good_of_valid vOC
      obtain ⟨vOBC, mOBC⟩ := mergeL_spec (fun x y => x || y) rfl vY vZ
      have gOBC := good_of_valid vOBC
      obtain ⟨vOC2, mOC2⟩ := mergeL_spec (fun x y => x || y) rfl vX vOBC
      have gOC2 := good_of_valid vOC2
      obtain ⟨vOaC, mOaC⟩ := mergeL_spec (fun x y => x && y) rfl vO vZ
      have gOaC := good_of_valid vOaC
      obtain ⟨vAC, mAC⟩ := mergeL_spec (fun x y => x && y) rfl vX vZ
      have gAC := good_of_valid vAC
      obtain ⟨vRD, mRD⟩ := mergeL_spec (fun x y => x || y) rfl vAC vBC
      have gRD := good_of_valid vRD
      obtain ⟨vABoC, mABoC⟩ := mergeL_spec (fun x y => x || y) rfl vAB vZ
      have gABoC := good_of_valid vABoC
      obtain ⟨vOAC, mOAC⟩ := mergeL_spec (fun x y => x || y) rfl vX vZ
      have gOAC := good_of_valid vOAC
      obtain ⟨vRE, mRE⟩ := mergeL_spec (fun x y => x && y) rfl vOAC vOBC
      have gRE := good_of_valid vRE
      obtain ⟨vMM, mMM⟩ := mergeL_spec (fun x y => x && !y) rfl vX vMI
      have gMM := good_of_valid vMM
      have E1 := Hid.mk (valid_ext vAB vBA (fun x => by simp only [mAB, mO, mMI, mBA, mOB, mABC, mBC, mABC2, mOC, mOBC, mOC2, mOaC, mAC, mRD, mABoC, mOAC, mRE, mMM]; cases hasL xs x <;> cases hasL ys x <;> cases hasL zs x <;> rfl))
      have E2 := Hid.mk (valid_ext vO vOB (fun x => by simp only [mAB, mO, mMI, mBA, mOB, mABC, mBC, mABC2, mOC, mOBC, mOC2, mOaC, mAC, mRD, mABoC, mOAC, mRE, mMM]; cases hasL xs x <;> cases hasL ys x <;> cases hasL zs x <;> rfl))
      have E3 := Hid.mk (valid_ext vABC vABC2 (fun x => by simp only [mAB, mO, mMI, mBA, mOB, mABC, mBC, mABC2, mOC, mOBC, mOC2, mOaC, mAC, mRD, mABoC, mOAC, mRE, mMM]; cases hasL xs x <;> cases hasL ys x <;> cases hasL zs x <;> rfl))
      have E4 := Hid.mk (valid_ext vOC vOC2 (fun x => by simp only [mAB, mO, mMI, mBA, mOB, mABC, mBC, mABC2, mOC, mOBC, mOC2, mOaC, mAC, mRD, mABoC, mOAC, mRE, mMM]; cases hasL xs x <;> cases hasL ys x <;> cases hasL zs x <;> rfl))
      have E5 := Hid.mk (valid_ext vOaC vRD (fun x => by simp only [mAB, mO, mMI, mBA, mOB, mABC, mBC, mABC2, mOC, mOBC, mOC2, mOaC, mAC, mRD, mABoC, mOAC, mRE, mMM]; cases hasL xs x <;> cases hasL ys x <;> cases hasL zs x <;> rfl))
      have E6 := Hid.mk (valid_ext vABoC vRE (fun x => by simp only [mAB, mO, mMI, mBA, mOB, mABC, mBC, mABC2, mOC, mOBC, mOC2, mOaC, mAC, mRD, mABoC, mOAC, mRE, mMM]; cases hasL xs x <;> cases hasL ys x <;> cases hasL zs x <;> rfl))
      have E7 := Hid.mk (valid_ext vMM vAB (fun x => by simp only [mAB, mO, mMI, mBA, mOB, mABC, mBC, mABC2, mOC, mOBC, mOC2, mOaC, mAC, mRD, mABoC, mOAC, mRE, mMM]; cases hasL xs x <;> cases hasL ys x <;> cases hasL zs x <;> rfl))
      clear mAB mO mMI mBA mOB mABC mBC mABC2 mOC mOBC mOC2 mOaC mAC mRD mABoC mOAC mRE mMM
      have lX := gX.len
      have lY := gY.len
      have lZ := gZ.len
      have lAB := gAB.len
      have lO := gO.len
      have lMI := gMI.len
      have lBA := gBA.len
      have lOB := gOB.len
      have lABC := gABC.len
      have lBC := gBC.len
      have lABC2 := gABC2.len
      have lOC := gOC.len
      have lOBC := gOBC.len
      have lOC2 := gOC2.len
      have lOaC := gOaC.len
      have lAC := gAC.len
      have lRD := gRD.len
      have lABoC := gABoC.len
      have lOAC := gOAC.len
      have lRE := gRE.len
      have lMM := gMM.len
      go_enter Try.func8, Try.ntmps8
      have B0 := Hid.mk (Below.refl w.heap.size w)
      have u_0 := Hid.mk hu
      have v_0 := Hid.mk hv
      have t_0 := Hid.mk ht
      go_wp2_with fail
      go_at_call 29
      refine (lawValid _ _ xs ys _ u_0.out v_0.out lu lv).mono ?_
      rw [h1, h2]
      rintro e w1 ⟨rfl, hs1⟩
      have hb1 := stillB hs1
      have u_1 := Hid.mk (Rd.below u_0.out hb1)
      have v_1 := Hid.mk (Rd.below v_0.out hb1)
      have t_1 := Hid.mk (Rd.below t_0.out hb1)
      have B1 := Hid.mk (belowT B0.out hb1)
      clear hb1 hs1
      go_wp2_with fail
      go_at_call 15
      refine (refValid _ zs _ t_1.out lt).mono ?_
      rw [h3]
      rintro e w2 ⟨rfl, hs2⟩
      have hb2 := stillB hs2
      have u_2 := Hid.mk (Rd.below u_1.out hb2)
      have v_2 := Hid.mk (Rd.below v_1.out hb2)
      have t_2 := Hid.mk (Rd.below t_1.out hb2)
      have B2 := Hid.mk (belowT B1.out hb2)
      clear hb2 hs2
      go_wp2_with fail
      go_at_call 30
      refine (bitsAnd _ _ _ _ _ u_2.out v_2.out gX gY).mono ?_
      rintro e w3 ⟨v3, rfl, ho3, hb3⟩
      have u_3 := Hid.mk (Rd.below u_2.out hb3)
      have v_3 := Hid.mk (Rd.below v_2.out hb3)
      have t_3 := Hid.mk (Rd.below t_2.out hb3)
      have B3 := Hid.mk (belowT B2.out hb3)
      have sAB_3 := Hid.mk ho3.rd
      clear hb3 ho3
      go_wp2_with fail
      go_at_call 32
      refine (bitsOr _ _ _ _ _ u_3.out v_3.out gX gY).mono ?_
      rintro e w4 ⟨v4, rfl, ho4, hb4⟩
      have u_4 := Hid.mk (Rd.below u_3.out hb4)
      have v_4 := Hid.mk (Rd.below v_3.out hb4)
      have t_4 := Hid.mk (Rd.below t_3.out hb4)
      have sAB_4 := Hid.mk (Rd.below sAB_3.out hb4)
      have B4 := Hid.mk (belowT B3.out hb4)
      have sO_4 := Hid.mk ho4.rd
      clear hb4 ho4
      go_wp2_with fail
      go_at_call 14
      refine (bitsValid _ _ _ sAB_4.out (by omega)).mono ?_
      rw [vAB]
      rintro e w5 ⟨rfl, hs5⟩
      have hb5 := stillB hs5
      have u_5 := Hid.mk (Rd.below u_4.out hb5)
      have v_5 := Hid.mk (Rd.below v_4.out hb5)
      have t_5 := Hid.mk (Rd.below t_4.out hb5)
      have sAB_5 := Hid.mk (Rd.below sAB_4.out hb5)
      have sO_5 := Hid.mk (Rd.below sO_4.out hb5)
      have B5 := Hid.mk (belowT B4.out hb5)
      clear hb5 hs5
      go_wp2_with fail
      go_at_call 14
      refine (bitsValid _ _ _ sO_5.out (by omega)).mono ?_
      rw [vO]
      rintro e w6 ⟨rfl, hs6⟩
      have hb6 := stillB hs6
      have u_6 := Hid.mk (Rd.below u_5.out hb6)
      have v_6 := Hid.mk (Rd.below v_5.out hb6)
      have t_6 := Hid.mk (Rd.below t_5.out hb6)
      have sAB_6 := Hid.mk (Rd.below sAB_5.out hb6)
      have sO_6 := Hid.mk (Rd.below sO_5.out hb6)
      have B6 := Hid.mk (belowT B5.out hb6)
      clear hb6 hs6
      go_wp2_with fail
      go_at_call 34
      refine (bitsMinus _ _ _ _ _ u_6.out v_6.out gX gY).mono ?_
      rintro e w7 ⟨v7, rfl, ho7, hb7⟩
      have u_7 := Hid.mk (Rd.below u_6.out hb7)
      have v_7 := Hid.mk (Rd.below v_6.out hb7)
      have t_7 := Hid.mk (Rd.below t_6.out hb7)
      have sAB_7 := Hid.mk (Rd.below sAB_6.out hb7)
      have sO_7 := Hid.mk (Rd.below sO_6.out hb7)
      have B7 := Hid.mk (belowT B6.out hb7)
      have sMI_7 := Hid.mk ho7.rd
      clear hb7 ho7
      go_wp2_with fail
      go_at_call 14
      refine (bitsValid _ _ _ sMI_7.out (by omega)).mono ?_
      rw [vMI]
      rintro e w8 ⟨rfl, hs8⟩
      have hb8 := stillB hs8
      have u_8 := Hid.mk (Rd.below u_7.out hb8)
      have v_8 := Hid.mk (Rd.below v_7.out hb8)
      have t_8 := Hid.mk (Rd.below t_7.out hb8)
      have sAB_8 := Hid.mk (Rd.below sAB_7.out hb8)
      have sO_8 := Hid.mk (Rd.below sO_7.out hb8)
      have sMI_8 := Hid.mk (Rd.below sMI_7.out hb8)
      have B8 := Hid.mk (belowT B7.out hb8)
      clear hb8 hs8
      go_wp2_with fail
      go_at_call 30
      refine (bitsAnd _ _ _ _ _ v_8.out u_8.out gY gX).mono ?_
      rintro e w9 ⟨v9, rfl, ho9, hb9⟩
      have u_9 := Hid.mk (Rd.below u_8.out hb9)
      have v_9 := Hid.mk (Rd.below v_8.out hb9)
      have t_9 := Hid.mk (Rd.below t_8.out hb9)
      have sAB_9 := Hid.mk (Rd.below sAB_8.out hb9)
      have sO_9 := Hid.mk (Rd.below sO_8.out hb9)
      have B9 := Hid.mk (belowT B8.out hb9)
      have sBA_9 := Hid.mk ho9.rd
      clear hb9 ho9
      go_wp2_with fail
      go_at_call 16
      refine (refSame _ _ _ _ _ sAB_9.out sBA_9.out (by omega) (by omega)).mono ?_
      rw [E1.out, beq_self_eq_true]
      rintro e w10 ⟨rfl, hs10⟩
      have hb10 := stillB hs10
      have u_10 := Hid.mk (Rd.below u_9.out hb10)
      have v_10 := Hid.mk (Rd.below v_9.out hb10)
      have t_10 := Hid.mk (Rd.below t_9.out hb10)
      have sAB_10 := Hid.mk (Rd.below sAB_9.out hb10)
      have sO_10 := Hid.mk (Rd.below sO_9.out hb10)
      have sBA_10 := Hid.mk (Rd.below sBA_9.out hb10)
      have B10 := Hid.mk (belowT B9.out hb10)
      clear hb10 hs10
      go_wp2_with fail
      go_at_call 32
      refine (bitsOr _ _ _ _ _ v_10.out u_10.out gY gX).mono ?_
      rintro e w11 ⟨v11, rfl, ho11, hb11⟩
      have u_11 := Hid.mk (Rd.below u_10.out hb11)
      have v_11 := Hid.mk (Rd.below v_10.out hb11)
      have t_11 := Hid.mk (Rd.below t_10.out hb11)
      have sAB_11 := Hid.mk (Rd.below sAB_10.out hb11)
      have sO_11 := Hid.mk (Rd.below sO_10.out hb11)
      have B11 := Hid.mk (belowT B10.out hb11)
      have sOB_11 := Hid.mk ho11.rd
      clear hb11 ho11
      go_wp2_with fail
      go_at_call 16
      refine (refSame _ _ _ _ _ sO_11.out sOB_11.out (by omega) (by omega)).mono ?_
      rw [E2.out, beq_self_eq_true]
      rintro e w12 ⟨rfl, hs12⟩
      have hb12 := stillB hs12
      have u_12 := Hid.mk (Rd.below u_11.out hb12)
      have v_12 := Hid.mk (Rd.below v_11.out hb12)
      have t_12 := Hid.mk (Rd.below t_11.out hb12)
      have sAB_12 := Hid.mk (Rd.below sAB_11.out hb12)
      have sO_12 := Hid.mk (Rd.below sO_11.out hb12)
      have sOB_12 := Hid.mk (Rd.below sOB_11.out hb12)
      have B12 := Hid.mk (belowT B11.out hb12)
      clear hb12 hs12
      go_wp2_with fail
      go_at_call 30
      refine (bitsAnd _ _ _ _ _ sAB_12.out t_12.out gAB gZ).mono ?_
      rintro e w13 ⟨v13, rfl, ho13, hb13⟩
      have u_13 := Hid.mk (Rd.below u_12.out hb13)
      have v_13 := Hid.mk (Rd.below v_12.out hb13)
      have t_13 := Hid.mk (Rd.below t_12.out hb13)
      have sAB_13 := Hid.mk (Rd.below sAB_12.out hb13)
      have sO_13 := Hid.mk (Rd.below sO_12.out hb13)
      have B13 := Hid.mk (belowT B12.out hb13)
      have sABC_13 := Hid.mk ho13.rd
      clear hb13 ho13
      go_wp2_with fail
      go_at_call 30
      refine (bitsAnd _ _ _ _ _ v_13.out t_13.out gY gZ).mono ?_
      rintro e w14 ⟨v14, rfl, ho14, hb14⟩
      have u_14 := Hid.mk (Rd.below u_13.out hb14)
      have v_14 := Hid.mk (Rd.below v_13.out hb14)
      have t_14 := Hid.mk (Rd.below t_13.out hb14)
      have sAB_14 := Hid.mk (Rd.below sAB_13.out hb14)
      have sO_14 := Hid.mk (Rd.below sO_13.out hb14)
      have sABC_14 := Hid.mk (Rd.below sABC_13.out hb14)
      have B14 := Hid.mk (belowT B13.out hb14)
      have sBC_14 := Hid.mk ho14.rd
      clear hb14 ho14
      go_wp2_with fail
      go_at_call 30
      refine (bitsAnd _ _ _ _ _ u_14.out sBC_14.out gX gBC).mono ?_
      rintro e w15 ⟨v15, rfl, ho15, hb15⟩
      have u_15 := Hid.mk (Rd.below u_14.out hb15)
      have v_15 := Hid.mk (Rd.below v_14.out hb15)
      have t_15 := Hid.mk (Rd.below t_14.out hb15)
      have sAB_15 := Hid.mk (Rd.below sAB_14.out hb15)
      have sO_15 := Hid.mk (Rd.below sO_14.out hb15)
      have sABC_15 := Hid.mk (Rd.below sABC_14.out hb15)
      have sBC_15 := Hid.mk (Rd.below sBC_14.out hb15)
      have B15 := Hid.mk (belowT B14.out hb15)
      have sABC2_15 := Hid.mk ho15.rd
      clear hb15 ho15
      go_wp2_with fail
      go_at_call 16
      refine (refSame _ _ _ _ _ sABC_15.out sABC2_15.out (by omega) (by omega)).mono ?_
      rw [E3.out, beq_self_eq_true]
      rintro e w16 ⟨rfl, hs16⟩
      have hb16 := stillB hs16
      have u_16 := Hid.mk (Rd.below u_15.out hb16)
      have v_16 := Hid.mk (Rd.below v_15.out hb16)
      have t_16 := Hid.mk (Rd.below t_15.out hb16)
      have sAB_16 := Hid.mk (Rd.below sAB_15.out hb16)
      have sO_16 := Hid.mk (Rd.below sO_15.out hb16)
      have sABC_16 := Hid.mk (Rd.below sABC_15.out hb16)
      have sBC_16 := Hid.mk (Rd.below sBC_15.out hb16)
      have sABC2_16 := Hid.mk (Rd.below sABC2_15.out hb16)
      have B16 := Hid.mk (belowT B15.out hb16)
      clear hb16 hs16
      go_wp2_with fail
      go_at_call 32
      refine (bitsOr _ _ _ _ _ sO_16.out t_16.out gO gZ).mono ?_
      rintro e w17 ⟨v17, rfl, ho17, hb17⟩
      have u_17 := Hid.mk (Rd.below u_16.out hb17)
      have v_17 := Hid.mk (Rd.below v_16.out hb17)
      have t_17 := Hid.mk (Rd.below t_16.out hb17)
      have sAB_17 := Hid.mk (Rd.below sAB_16.out hb17)
      have sO_17 := Hid.mk (Rd.below sO_16.out hb17)
      have B17 := Hid.mk (belowT B16.out hb17)
      have sOC_17 := Hid.mk ho17.rd
      clear hb17 ho17
      go_wp2_with fail
      go_at_call 32
      refine (bitsOr _ _ _ _ _ v_17.out t_17.out gY gZ).mono ?_
      rintro e w18 ⟨v18, rfl, ho18, hb18⟩
      have u_18 := Hid.mk (Rd.below u_17.out hb18)
      have v_18 := Hid.mk (Rd.below v_17.out hb18)
      have t_18 := Hid.mk (Rd.below t_17.out hb18)
      have sAB_18 := Hid.mk (Rd.below sAB_17.out hb18)
      have sO_18 := Hid.mk (Rd.below sO_17.out hb18)
      have sOC_18 := Hid.mk (Rd.below sOC_17.out hb18)
      have B18 := Hid.mk (belowT B17.out hb18)
      have sOBC_18 := Hid.mk ho18.rd
      clear hb18 ho18
      go_wp2_with fail
      go_at_call 32
      refine (bitsOr _ _ _ _ _ u_18.out sOBC_18.out gX gOBC).mono ?_
      rintro e w19 ⟨v19, rfl, ho19, hb19⟩
      have u_19 := Hid.mk (Rd.below u_18.out hb19)
      have v_19 := Hid.mk (Rd.below v_18.out hb19)
      have t_19 := Hid.mk (Rd.below t_18.out hb19)
      have sAB_19 := Hid.mk (Rd.below sAB_18.out hb19)
      have sO_19 := Hid.mk (Rd.below sO_18.out hb19)
      have sOC_19 := Hid.mk (Rd.below sOC_18.out hb19)
      have sOBC_19 := Hid.mk (Rd.below sOBC_18.out hb19)
      have B19 := Hid.mk (belowT B18.out hb19)
      have sOC2_19 := Hid.mk ho19.rd
      clear hb19 ho19
      go_wp2_with fail
      go_at_call 16
      refine (refSame _ _ _ _ _ sOC_19.out sOC2_19.out (by omega) (by omega)).mono ?_
      rw [E4.out, beq_self_eq_true]
      rintro e w20 ⟨rfl, hs20⟩
      have hb20 := stillB hs20
      have u_20 := Hid.mk (Rd.below u_19.out hb20)
      have v_20 := Hid.mk (Rd.below v_19.out hb20)
      have t_20 := Hid.mk (Rd.below t_19.out hb20)
      have sAB_20 := Hid.mk (Rd.below sAB_19.out hb20)
      have sO_20 := Hid.mk (Rd.below sO_19.out hb20)
      have sOC_20 := Hid.mk (Rd.below sOC_19.out hb20)
      have sOBC_20 := Hid.mk (Rd.below sOBC_19.out hb20)
      have sOC2_20 := Hid.mk (Rd.below sOC2_19.out hb20)
      have B20 := Hid.mk (belowT B19.out hb20)
      clear hb20 hs20
      go_wp2_with fail
      go_at_call 30
      refine (bitsAnd _ _ _ _ _ sO_20.out t_20.out gO gZ).mono ?_
      rintro e w21 ⟨v21, rfl, ho21, hb21⟩
      have u_21 := Hid.mk (Rd.below u_20.out hb21)
      have v_21 := Hid.mk (Rd.below v_20.out hb21)
      have t_21 := Hid.mk (Rd.below t_20.out hb21)
      have sAB_21 := Hid.mk (Rd.below sAB_20.out hb21)
      have sO_21 := Hid.mk (Rd.below sO_20.out hb21)
      have B21 := Hid.mk (belowT B20.out hb21)
      have sOaC_21 := Hid.mk ho21.rd
      clear hb21 ho21
      go_wp2_with fail
      go_at_call 30
      refine (bitsAnd _ _ _ _ _ u_21.out t_21.out gX gZ).mono ?_
      rintro e w22 ⟨v22, rfl, ho22, hb22⟩
      have u_22 := Hid.mk (Rd.below u_21.out hb22)
      have v_22 := Hid.mk (Rd.below v_21.out hb22)
      have t_22 := Hid.mk (Rd.below t_21.out hb22)
      have sAB_22 := Hid.mk (Rd.below sAB_21.out hb22)
      have sO_22 := Hid.mk (Rd.below sO_21.out hb22)
      have sOaC_22 := Hid.mk (Rd.below sOaC_21.out hb22)
      have B22 := Hid.mk (belowT B21.out hb22)
      have sAC_22 := Hid.mk ho22.rd
      clear hb22 ho22
      go_wp2_with fail
      go_at_call 30
      refine (bitsAnd _ _ _ _ _ v_22.out t_22.out gY gZ).mono ?_
      rintro e w23 ⟨v23, rfl, ho23, hb23⟩
      have u_23 := Hid.mk (Rd.below u_22.out hb23)
      have v_23 := Hid.mk (Rd.below v_22.out hb23)
      have t_23 := Hid.mk (Rd.below t_22.out hb23)
      have sAB_23 := Hid.mk (Rd.below sAB_22.out hb23)
      have sO_23 := Hid.mk (Rd.below sO_22.out hb23)
      have sOaC_23 := Hid.mk (Rd.below sOaC_22.out hb23)
      have sAC_23 := Hid.mk (Rd.below sAC_22.out hb23)
      have B23 := Hid.mk (belowT B22.out hb23)
      have sBC_23 := Hid.mk ho23.rd
      clear hb23 ho23
      go_wp2_with fail
      go_at_call 32
      refine (bitsOr _ _ _ _ _ sAC_23.out sBC_23.out gAC gBC).mono ?_
      rintro e w24 ⟨v24, rfl, ho24, hb24⟩
      have u_24 := Hid.mk (Rd.below u_23.out hb24)
      have v_24 := Hid.mk (Rd.below v_23.out hb24)
      have t_24 := Hid.mk (Rd.below t_23.out hb24)
      have sAB_24 := Hid.mk (Rd.below sAB_23.out hb24)
      have sO_24 := Hid.mk (Rd.below sO_23.out hb24)
      have sOaC_24 := Hid.mk (Rd.below sOaC_23.out hb24)
      have sAC_24 := Hid.mk (Rd.below sAC_23.out hb24)
      have sBC_24 := Hid.mk (Rd.below sBC_23.out hb24)
      have B24 := Hid.mk (belowT B23.out hb24)
      have sRD_24 := Hid.mk ho24.rd
      clear hb24 ho24
      go_wp2_with fail
      go_at_call 16
      refine (refSame _ _ _ _ _ sOaC_24.out sRD_24.out (by omega) (by omega)).mono ?_
      rw [E5.out, beq_self_eq_true]
      rintro e w25 ⟨rfl, hs25⟩
      have hb25 := stillB hs25
      have u_25 := Hid.mk (Rd.below u_24.out hb25)
      have v_25 := Hid.mk (Rd.below v_24.out hb25)
      have t_25 := Hid.mk (Rd.below t_24.out hb25)
      have sAB_25 := Hid.mk (Rd.below sAB_24.out hb25)
      have sO_25 := Hid.mk (Rd.below sO_24.out hb25)
      have sOaC_25 := Hid.mk (Rd.below sOaC_24.out hb25)
      have sAC_25 := Hid.mk (Rd.below sAC_24.out hb25)
      have sBC_25 := Hid.mk (Rd.below sBC_24.out hb25)
      have sRD_25 := Hid.mk (Rd.below sRD_24.out hb25)
      have B25 := Hid.mk (belowT B24.out hb25)
      clear hb25 hs25
      go_wp2_with fail
      go_at_call 32
      refine (bitsOr _ _ _ _ _ sAB_25.out t_25.out gAB gZ).mono ?_
      rintro e w26 ⟨v26, rfl, ho26, hb26⟩
      have u_26 := Hid.mk (Rd.below u_25.out hb26)
      have v_26 := Hid.mk (Rd.below v_25.out hb26)
      have t_26 := Hid.mk (Rd.below t_25.out hb26)
      have sAB_26 := Hid.mk (Rd.below sAB_25.out hb26)
      have sO_26 := Hid.mk (Rd.below sO_25.out hb26)
      have B26 := Hid.mk (belowT B25.out hb26)
      have sABoC_26 := Hid.mk ho26.rd
      clear hb26 ho26
      go_wp2_with fail
      go_at_call 32
      refine (bitsOr _ _ _ _ _ u_26.out t_26.out gX gZ).mono ?_
      rintro e w27 ⟨v27, rfl, ho27, hb27⟩
      have u_27 := Hid.mk (Rd.below u_26.out hb27)
      have v_27 := Hid.mk (Rd.below v_26.out hb27)
      have t_27 := Hid.mk (Rd.below t_26.out hb27)
      have sAB_27 := Hid.mk (Rd.below sAB_26.out hb27)
      have sO_27 := Hid.mk (Rd.below sO_26.out hb27)
      have sABoC_27 := Hid.mk (Rd.below sABoC_26.out hb27)
      have B27 := Hid.mk (belowT B26.out hb27)
      have sOAC_27 := Hid.mk ho27.rd
      clear hb27 ho27
      go_wp2_with fail
      go_at_call 32
      refine (bitsOr _ _ _ _ _ v_27.out t_27.out gY gZ).mono ?_
      rintro e w28 ⟨v28, rfl, ho28, hb28⟩
      have u_28 := Hid.mk (Rd.below u_27.out hb28)
      have v_28 := Hid.mk (Rd.below v_27.out hb28)
      have t_28 := Hid.mk (Rd.below t_27.out hb28)
      have sAB_28 := Hid.mk (Rd.below sAB_27.out hb28)
      have sO_28 := Hid.mk (Rd.below sO_27.out hb28)
      have sABoC_28 := Hid.mk (Rd.below sABoC_27.out hb28)
      have sOAC_28 := Hid.mk (Rd.below sOAC_27.out hb28)
      have B28 := Hid.mk (belowT B27.out hb28)
      have sOBC_28 := Hid.mk ho28.rd
      clear hb28 ho28
      go_wp2_with fail
      go_at_call 30
      refine (bitsAnd _ _ _ _ _ sOAC_28.out sOBC_28.out gOAC gOBC).mono ?_
      rintro e w29 ⟨v29, rfl, ho29, hb29⟩
      have u_29 := Hid.mk (Rd.below u_28.out hb29)
      have v_29 := Hid.mk (Rd.below v_28.out hb29)
      have t_29 := Hid.mk (Rd.below t_28.out hb29)
      have sAB_29 := Hid.mk (Rd.below sAB_28.out hb29)
      have sO_29 := Hid.mk (Rd.below sO_28.out hb29)
      have sABoC_29 := Hid.mk (Rd.below sABoC_28.out hb29)
      have sOAC_29 := Hid.mk (Rd.below sOAC_28.out hb29)
      have sOBC_29 := Hid.mk (Rd.below sOBC_28.out hb29)
      have B29 := Hid.mk (belowT B28.out hb29)
      have sRE_29 := Hid.mk ho29.rd
      clear hb29 ho29
      go_wp2_with fail
      go_at_call 16
      refine (refSame _ _ _ _ _ sABoC_29.out sRE_29.out (by omega) (by omega)).mono ?_
      rw [E6.out, beq_self_eq_true]
      rintro e w30 ⟨rfl, hs30⟩
      have hb30 := stillB hs30
      have u_30 := Hid.mk (Rd.below u_29.out hb30)
      have v_30 := Hid.mk (Rd.below v_29.out hb30)
      have t_30 := Hid.mk (Rd.below t_29.out hb30)
      have sAB_30 := Hid.mk (Rd.below sAB_29.out hb30)
      have sO_30 := Hid.mk (Rd.below sO_29.out hb30)
      have sABoC_30 := Hid.mk (Rd.below sABoC_29.out hb30)
      have sOAC_30 := Hid.mk (Rd.below sOAC_29.out hb30)
      have sOBC_30 := Hid.mk (Rd.below sOBC_29.out hb30)
      have sRE_30 := Hid.mk (Rd.below sRE_29.out hb30)
      have B30 := Hid.mk (belowT B29.out hb30)
      clear hb30 hs30
      go_wp2_with fail
      go_at_call 10
      refine (sanity _).mono ?_
      rintro e w31 ⟨rfl, hb31⟩
      have u_31 := Hid.mk (Rd.below u_30.out hb31)
      have v_31 := Hid.mk (Rd.below v_30.out hb31)
      have t_31 := Hid.mk (Rd.below t_30.out hb31)
      have sAB_31 := Hid.mk (Rd.below sAB_30.out hb31)
      have sO_31 := Hid.mk (Rd.below sO_30.out hb31)
      have B31 := Hid.mk (belowT B30.out hb31)
      clear hb31
      go_wp2_with fail
      go_at_call 34
      refine (bitsMinus _ _ _ _ _ u_31.out v_31.out gX gY).mono ?_
      rintro e w32 ⟨v32, rfl, ho32, hb32⟩
      have u_32 := Hid.mk (Rd.below u_31.out hb32)
      have v_32 := Hid.mk (Rd.below v_31.out hb32)
      have t_32 := Hid.mk (Rd.below t_31.out hb32)
      have sAB_32 := Hid.mk (Rd.below sAB_31.out hb32)
      have sO_32 := Hid.mk (Rd.below sO_31.out hb32)
      have B32 := Hid.mk (belowT B31.out hb32)
      have sMI_32 := Hid.mk ho32.rd
      clear hb32 ho32
      go_wp2_with fail
      go_at_call 34
      refine (bitsMinus _ _ _ _ _ u_32.out sMI_32.out gX gMI).mono ?_
      rintro e w33 ⟨v33, rfl, ho33, hb33⟩
      have u_33 := Hid.mk (Rd.below u_32.out hb33)
      have v_33 := Hid.mk (Rd.below v_32.out hb33)
      have t_33 := Hid.mk (Rd.below t_32.out hb33)
      have sAB_33 := Hid.mk (Rd.below sAB_32.out hb33)
      have sO_33 := Hid.mk (Rd.below sO_32.out hb33)
      have sMI_33 := Hid.mk (Rd.below sMI_32.out hb33)
      have B33 := Hid.mk (belowT B32.out hb33)
      have sMM_33 := Hid.mk ho33.rd
      clear hb33 ho33
      go_wp2_with fail
      go_at_call 16
      refine (refSame _ _ _ _ _ sMM_33.out sAB_33.out (by omega) (by omega)).mono ?_
      rw [E7.out, beq_self_eq_true]
      rintro e w34 ⟨rfl, hs34⟩
      have hb34 := stillB hs34
      have u_34 := Hid.mk (Rd.below u_33.out hb34)
      have v_34 := Hid.mk (Rd.below v_33.out hb34)
      have t_34 := Hid.mk (Rd.below t_33.out hb34)
      have sAB_34 := Hid.mk (Rd.below sAB_33.out hb34)
      have sO_34 := Hid.mk (Rd.below sO_33.out hb34)
      have sMI_34 := Hid.mk (Rd.below sMI_33.out hb34)
      have sMM_34 := Hid.mk (Rd.below sMM_33.out hb34)
      have B34 := Hid.mk (belowT B33.out hb34)
      clear hb34 hs34
      go_wp2
      go_ret
      exact ⟨rfl, B34.out⟩

end Go.Proofs.Ytomjfmebbpfkeaa
