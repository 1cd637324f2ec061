/- Merged: Do, Dp, BitOps, PlainW, Wire, Row, PwQ0, Opens, Row22. -/
import Derived.WalkKit
import Derived.ProofKit
import Derived.OpenShut
import Derived.SizedLaws
import Derived.Deep.Slices
import Derived.Lib.LaidU8
import Derived.LaidMore
import Derived.LaidLaws
import Derived.Stop.Joined
import Derived.MakeChecks
import Derived.Test.YtilcpcpmkklobaaC4
/- law22: the examples. -/
namespace Go.Proofs.Ytilcpcpmkklobaa
set_option linter.unusedSimpArgs false
set_option linter.unusedVariables false
set_option linter.unnecessarySimpa false
open Go.RowKit

section
variable {P : Program} {T : Tab} {σ : PS} {o : Oper} {i base : Nat} {ops : Array Oper} {ok : Nat → Nat → Bool} {rest : List (Nat × Oper)} {K : PS → Prop}
theorem splF_mid {X Y zr cs : List PV} {n k : Nat} (hX : X.length = n) (hz : zr.length = k) (hc : cs.length = k) : splF (X ++ (zr ++ Y)) n cs = X ++ (cs ++ Y) := by
  rw [splF_eq _ _ _ (by rw [List.length_append, List.length_append]; omega)]
  unfold splice
  rw [← hX, List.take_left, ← List.drop_drop, List.drop_left, hc, ← hz, List.drop_left, List.append_assoc]
/-- A slice of five sectors. -/
theorem PWops.lit5 {d e by_ : Nat} {s0 s1 s2 s3 s4 : Sec} {zr : List PV} {x0 x1 x2 x3 x4 : Operand} {t : TypeId} {ti : TyI} (hg : pguard ops σ o = some true) (hd : o.dst = some d) (hop : o.op = .buildSlice t 5 #[(0, x0), (1, x1), (2, x2), (3, x3), (4, x4)]) (h0 : pev σ x0 = .agg (secL s0)) (h1 : pev σ x1 = .agg (secL s1)) (h2 : pev σ x2 = .agg (secL s2)) (h3 : pev σ x3 = .agg (secL s3)) (h4 : pev σ x4 = .agg (secL s4)) (ht : T.at t = some ti) (hk : ti.kind = .slice e 64 by_ zr) (hb : σ.freeB (base + i) = true) (hz : zr.length = 64) (he : Nat.blt e 1000000 = true) (kn : PWops P T ops base ok rest K (σ.put d (.sl 5 64 ([s0, s1, s2, s3, s4].flatMap secL) (some e)))) : PWops P T ops base ok ((i, o) :: rest) K σ := by
  refine PWops.step hg (E := ⟨.sl 5 64 ([s0, s1, s2, s3, s4].flatMap secL) (some e), [], none, []⟩) ?_ hb (by rw [hd]; exact kn)
  have he' : e < 1000000 := by simpa [Nat.blt_eq] using he
  have e1 : (List.replicate 5 zr).flatten = [] ++ (zr ++ (zr ++ (zr ++ (zr ++ (zr ++ []))))) := by simp [List.replicate_succ]
  have f0 : splF ([] ++ (zr ++ (zr ++ (zr ++ (zr ++ (zr ++ [])))))) 0 (secL s0) = secL s0 ++ (zr ++ (zr ++ (zr ++ (zr ++ [])))) := splF_mid rfl hz (secL_len _)
  have f1 : splF (secL s0 ++ (zr ++ (zr ++ (zr ++ (zr ++ []))))) 64 (secL s1) = secL s0 ++ (secL s1 ++ (zr ++ (zr ++ (zr ++ [])))) := splF_mid (secL_len _) hz (secL_len _)
  have f2 : splF (secL s0 ++ (secL s1 ++ (zr ++ (zr ++ (zr ++ []))))) 128 (secL s2) = (secL s0 ++ secL s1) ++ (secL s2 ++ (zr ++ (zr ++ []))) := by
    rw [← List.append_assoc]; exact splF_mid (by simp [secL_len]) hz (secL_len _)
  have f3 : splF ((secL s0 ++ secL s1) ++ (secL s2 ++ (zr ++ (zr ++ [])))) 192 (secL s3) = (secL s0 ++ secL s1 ++ secL s2) ++ (secL s3 ++ (zr ++ [])) := by
    rw [← List.append_assoc]; exact splF_mid (by simp [secL_len]) hz (secL_len _)
  have f4 : splF ((secL s0 ++ secL s1 ++ secL s2) ++ (secL s3 ++ (zr ++ []))) 256 (secL s4) = (secL s0 ++ secL s1 ++ secL s2 ++ secL s3) ++ (secL s4 ++ []) := by
    rw [← List.append_assoc]; exact splF_mid (by simp [secL_len]) hz (secL_len _)
  have e2 : [s0, s1, s2, s3, s4].flatMap secL = (secL s0 ++ secL s1 ++ secL s2 ++ secL s3) ++ (secL s4 ++ []) := by simp
  have len : ∀ s : Sec, (secL s).length = 64 := secL_len
  have c0 : 0 + 64 ≤ ([] ++ (zr ++ (zr ++ (zr ++ (zr ++ (zr ++ [])))))).length := by simp; omega
  have c1 : 64 + 64 ≤ (secL s0 ++ (zr ++ (zr ++ (zr ++ (zr ++ []))))).length := by simp [len]; omega
  have c2 : 128 + 64 ≤ (secL s0 ++ (secL s1 ++ (zr ++ (zr ++ (zr ++ []))))).length := by simp [len]; omega
  have c3 : 192 + 64 ≤ ((secL s0 ++ secL s1) ++ (secL s2 ++ (zr ++ (zr ++ [])))).length := by simp [len]; omega
  have c4 : 256 + 64 ≤ ((secL s0 ++ secL s1 ++ secL s2) ++ (secL s3 ++ (zr ++ []))).length := by simp [len]; omega
  rw [e2]
  simp only [hop, presE, ht, hk, e1, List.map_cons, List.map_nil, pev_only, h0, h1, h2, h3, h4]
  rw [if_pos ⟨by decide, he'⟩]
  rw [pfill, pcells_sec]
  simp only [len, Nat.zero_mul]
  rw [if_pos ⟨trivial, c0⟩, f0, pfill, pcells_sec]
  simp only [len, Nat.one_mul]
  rw [if_pos ⟨trivial, c1⟩, f1, pfill, pcells_sec]
  simp only [len]
  rw [if_pos ⟨trivial, c2⟩, f2, pfill, pcells_sec]
  simp only [len]
  rw [if_pos ⟨trivial, c3⟩, f3, pfill, pcells_sec]
  simp only [len]
  rw [if_pos ⟨trivial, c4⟩, f4, pfill]
  rfl
end

def exA : Sec := fillB 1
def exB : Sec := fillB 2
def exT : Sec := mixS exB exA
def exB2 : Sec := ⟨exB.1.set 1 0, by decide⟩
def ex0 : DM := newD 4
def ex1 : DM := ⟨List.replicate 4 ⟨zeroSec, false⟩, [(0, 2, [exA])], 1, 1, -1, false⟩
def ex2 : DM := ⟨List.replicate 4 ⟨zeroSec, false⟩, [(0, 2, [exA, exB])], 1, 2, -1, false⟩
def ex3 : DM := ⟨(List.replicate 4 ⟨zeroSec, false⟩).set 2 ⟨exB, false⟩, [], 1, 3, -1, false⟩
def ex4 : DM := ⟨(List.replicate 4 ⟨zeroSec, false⟩).set 2 ⟨exB2, false⟩, [], 1, 3, -1, false⟩
def ex5 : DM := ⟨(List.replicate 4 ⟨zeroSec, false⟩).set 2 ⟨zeroSec, true⟩, [], 1, 3, -1, false⟩
def ex6 : DM := ⟨(List.replicate 4 ⟨zeroSec, false⟩).set 2 ⟨zeroSec, true⟩, [(1, 2, [exA])], 2, 4, -1, false⟩
def ex7 : DM := { ex6 with after := 0 }
def ex8 : DM := { ex7 with dead := true }
def exW : List Sec := [zeroSec, exA, exB, zeroSec, exT]
theorem ex_w1 : ex0.write 2 exA = (0, ex1) := by kernel_rfl
theorem ex_r1 : ex1.read 2 = (exA, 0) := by kernel_rfl
theorem ex_o1 : ex1.openL = [2] := by kernel_rfl
theorem ex_w2 : ex1.write 2 exB = (0, ex2) := by kernel_rfl
theorem ex_s3 : ex2.sync = (0, ex3) := by kernel_rfl
theorem ex_f4 : ex3.flip 2 9 = (0, ex4) := by kernel_rfl
theorem ex_r4 : ex4.read 2 = (exB2, 0) := by kernel_rfl
theorem ex_t5 : ex4.rot 2 = ex5 := by kernel_rfl
theorem ex_r5 : ex5.read 2 = (zeroSec, 221) := by kernel_rfl
theorem ex_w6 : ex5.write 2 exA = (0, ex6) := by kernel_rfl
theorem ex_r6 : ex6.read 2 = (exA, 0) := by kernel_rfl
theorem ex_w8 : ex7.write 0 exA = (220, ex8) := by kernel_rfl
theorem ex_r8 : ex8.read 0 = (zeroSec, 220) := by kernel_rfl
theorem ex_c (r : Nat) (h : r < 5) : (ex2.crash [(r : Int)]).read 2 = (exW.getD r default, if r = 3 then 221 else 0) ∧ (ex2.crash [(r : Int)]).cells.length = 4 := by
  match r, h with
  | 0, _ => exact ⟨by kernel_rfl, by kernel_rfl⟩
  | 1, _ => exact ⟨by kernel_rfl, by kernel_rfl⟩
  | 2, _ => exact ⟨by kernel_rfl, by kernel_rfl⟩
  | 3, _ => exact ⟨by kernel_rfl, by kernel_rfl⟩
  | 4, _ => exact ⟨by kernel_rfl, by kernel_rfl⟩
theorem ex_torn : splice (secL exB) 32 (((secL exA).take 32).take 32) = secL exT := by kernel_rfl
theorem ex_b2 : (secL exB).set 1 (.val (.int .u8 0)) = secL exB2 := by kernel_rfl
theorem openL_nil {D : DM} (h : D.op = []) : D.openL = [] := by
  have : D.keys = [] := List.eq_nil_of_length_eq_zero (by rw [keys_len, h]; rfl)
  rw [DM.openL, this]; rfl
theorem peqs_self (s : Sec) : peqs (List.replicate 64 .int) (secL s) (secL s) = some true := by
  have q := peqs_ints (k := .u8) s.1 s.1 rfl
  rw [s.2.1, beq_iff_eq.2 rfl] at q
  exact q

theorem copy_low {m : Nat → Option (List PV)} {id : Nat} (b : Sec) (h : m id = some (secL b)) : copySrc m 1 (.msl id 0 32 1) = some (32, (secL b).take 32) := by
  have h1 : 0 + 32 * 1 ≤ (secL b).length := by rw [secL_len]; decide
  show (if (1 : Nat) = 1 then _ else none) = _
  rw [if_pos rfl, h]
  show (if 0 + 32 * 1 ≤ (secL b).length then some (32, (((secL b).drop 0).take (32 * 1)).map PV.bare) else none) = _
  rw [if_pos h1, List.drop_zero, List.map_take, secL_bare]
end Go.Proofs.Ytilcpcpmkklobaa

/- law22: the examples, as a walk. -/
namespace Go.Proofs.Ytilcpcpmkklobaa
set_option linter.unusedSimpArgs false
set_option linter.unusedVariables false
set_option linter.unnecessarySimpa false
open Go.RowKit

set_option maxRecDepth 10000 in
set_option maxHeartbeats 4000000 in
theorem pw_sanity22 : PCalls Try.prog 8 [] (· = pbool true) := by
  refine pcalls_of_pw typeTab_ok Try.func8 rfl (by kernel_rfl) (by simp) (by simp) (Nat.le_of_ble_eq_true rfl) ?_
  have f1 : PCalls Try.prog 23 [pint 1] (· = psec exA) := pw_filled 1
  have f2 : PCalls Try.prog 23 [pint 2] (· = psec exB) := pw_filled 2
  have hnew : HCalls Try.prog 7 [pint 4] [] [] (.ptr 900001 0) (dG 900001 900002 900003 ex0) (dMs 900003 ex0) := dc_New 4 (by decide) 900001 900002 900003 (by decide)
  have hw1 := fun _ : Unit => dc_Write ex0 2 exA (by decide) (by decide) (by simp [ex0, newD]) 900001 900002 900003 (by decide)
  have hr1 := fun _ : Unit => dc_Read ex1 2 (by decide) (by simp [ex1]) 900001 900002 900003 (by decide)
  have ho1 := fun _ : Unit => dc_Open ex1 (by simp [opOK, ex1]) (by simp [ex1]) (by rw [ex_o1]; decide) 900001 900002 900003 (by decide)
  have hs1 : PCalls Try.prog 26 [pints [2], pints [2]] (· = pbool true) := pw_same [2] [2] (by simp) (by simp)
  have hw2 := fun _ : Unit => dc_Write ex1 2 exB (by decide) (by decide) (by simp [ex1]) 900001 900002 900003 (by decide)
  have hcr := fun (r : Nat) (_ : r < 5) => dc_Crash ex2 [(r : Int)] (by simp [ex2]) (by simp [opOK, ex2]) (by simp [ex2]) (by simp) (by simp; omega) 900001 900002 900003 900005 900006 900007 (by decide)
  have hrd := fun (r : Nat) (h : r < 5) => dc_Read (ex2.crash [(r : Int)]) 2 (by rw [(ex_c r h).2]; decide) (by simp [DM.crash]) 900005 900006 900007 (by decide)
  have hsz := fun (r : Nat) (_ : r < 5) => dc_Size (ex2.crash [(r : Int)]) 900005 900006 900007 (by decide)
  have hon := fun (r : Nat) (_ : r < 5) => dc_Open (ex2.crash [(r : Int)]) (by simp [opOK, DM.crash]) (by simp [DM.crash]) (by rw [openL_nil rfl]; decide) 900005 900006 900007 (by decide)
  have hsy := fun _ : Unit => dc_Sync ex2 (by decide) (by decide) (by decide) (by simp [opOK, ex2]) 900001 900002 900003 (by decide)
  have hst := fun _ : Unit => dc_Steps ex3 900001 900002 900003 (by decide)
  have hfl := fun _ : Unit => dc_Flip ex3 2 9 (by decide) 900001 900002 900003 (by decide)
  have hr4 := fun _ : Unit => dc_Read ex4 2 (by decide) (by simp [ex4]) 900001 900002 900003 (by decide)
  have hrt := fun _ : Unit => dc_Rot ex4 2 900001 900002 900003 (by decide)
  have hr5 := fun _ : Unit => dc_Read ex5 2 (by decide) (by simp [ex5]) 900001 900002 900003 (by decide)
  have hw6 := fun _ : Unit => dc_Write ex5 2 exA (by decide) (by decide) (by simp [ex5]) 900001 900002 900003 (by decide)
  have hr6 := fun _ : Unit => dc_Read ex6 2 (by decide) (by simp [ex6]) 900001 900002 900003 (by decide)
  have har : Unit → HCalls Try.prog 20 [.ptr 900001 0, pint 0] (dG 900001 900002 900003 ex6) (dMs 900003 ex6) (.tup []) (dG 900001 900002 900003 ex7) (dMs 900003 ex7) := fun _ : Unit => dc_Arm ex6 0 900001 900002 900003 (by decide)
  have hw8 := fun _ : Unit => dc_Write ex7 0 exA (by decide) (by decide) (by simp [ex7, ex6]) 900001 900002 900003 (by decide)
  have hdn := fun _ : Unit => dc_Down ex8 900001 900002 900003 (by decide)
  have hr8 := fun _ : Unit => dc_Read ex8 0 (by decide) (by simp [ex8, ex7, ex6]) 900001 900002 900003 (by decide)
  have hck : ex4.check 2 = 0 := by kernel_rfl
  have hd8 : ex8.dead = true := rfl
  have hs3 : ex3.steps = 3 := rfl
  have hec := ex_c
  have tor := ex_torn
  have hb2 := ex_b2
  have hW : [zeroSec, exA, exB, zeroSec, exT] = exW := rfl
  have hWl : exW.length = 5 := rfl
  have hcop : ∀ r : Nat, r < 5 → (ex2.crash [(r : Int)]).openL = [] := fun r _ => openL_nil rfl
  rw [ex_w1] at hw1
  rw [ex_r1] at hr1
  rw [ex_o1] at ho1
  rw [ex_w2] at hw2
  rw [ex_s3] at hsy
  rw [ex_f4] at hfl
  rw [ex_r4] at hr4
  rw [ex_t5, hck] at hrt
  rw [ex_r5] at hr5
  rw [ex_w6] at hw6
  rw [ex_r6] at hr6
  rw [ex_w8] at hw8
  rw [hd8] at hdn
  rw [ex_r8] at hr8
  rw [hs3] at hst
  have qA := peqs_self exA
  have qB := peqs_self exB2
  clear hck hd8 hs3
  generalize exA = A at *
  generalize exB = B at *
  generalize exT = T' at *
  generalize exB2 = B2 at *
  generalize exW = W at *
  generalize ex0 = E0 at *
  generalize ex1 = E1 at *
  generalize ex2 = E2 at *
  generalize ex3 = E3 at *
  generalize ex4 = E4 at *
  generalize ex5 = E5 at *
  generalize ex6 = E6 at *
  generalize ex7 = E7 at *
  generalize ex8 = E8 at *
  refine wk ?_
  have k1 := hw1 ()
  refine wk ?_
  clear hw1 k1
  have k1 := hr1 ()
  have k2 := ho1 ()
  have k3 := hw2 ()
  refine wk ?_
  refine PWops.eqA rfl rfl rfl rfl rfl rfl rfl rfl qA (.inr rfl) ?_
  refine wk ?_
  refine PWops.copy (n2 := 32) (cs := (secL A).take 32) (out := secL T') rfl rfl rfl rfl rfl ?_ rfl rfl rfl ?_ ?_ ?_ ?_
  · exact copy_low A rfl
  · show 32 + min 32 32 * 1 ≤ (secL B).length
    rw [secL_len]; decide
  · rw [List.length_take, secL_len]; decide
  · exact tor
  clear hw2 k1 k2 k3 hr1 ho1 tor
  refine wk ?_
  refine PWops.lit5 (s0 := zeroSec) (s1 := A) (s2 := B) (s3 := zeroSec) (s4 := T') rfl rfl rfl rfl rfl rfl rfl rfl rfl rfl rfl rfl rfl ?_
  rw [hW]
  refine wk ?_
  refine PW.loop (fun r : Nat => ((((((((((((((((bot.setb 900001 (dB 900002 900003 E2)).setb 900002 (dC E2)).setm 900003 (dM E2)).setb 1002 (secL A)).setb 1003 (secL B)).setb 5005 (secL A)).put 0 (pbool false)).put 1 (.ptr 1002 0)).put 2 (.ptr 1003 0)).put 3 (.ptr 900001 0)).put 4 (.ptr 5005 0)).put 5 (pint 0)).put 62 (.sl 5 64 (W.flatMap secL) none)).put 63 (pint 5)).put 64 (pint r)))) (fun r => r ≤ 5) (fun r => 5 - r) 0 (Nat.zero_le _) ?_ ?_
  · have z1 := secL_low A
    have z2 := secL_low B
    have z3 := dC_low E2
    have z4 := dM_low E2
    have z5 : Low (.sl 5 64 (W.flatMap secL) none) := .sl _ _ _ _ (flat_low secL_low _)
    exact sb
  · intro r hr
    by_cases hlt : r < 5
    · have k1 := hcr r hlt
      have k2 := hrd r hlt
      have k3 := hsz r hlt
      have k4 := hon r hlt
      have hc := hec r hlt
      rw [hc.1] at k2
      rw [hc.2] at k3
      rw [hcop r hlt] at k4
      have qW := peqs_self (W.getD r default)
      generalize E2.crash [(r : Int)] = C at *
      clear hcr hrd hsz hon hec hcop hw6 hr6 har hw8 hdn hr8 hsy hst hfl hr4 hrt hr5 f1 f2 hnew hs1 hb2 hc
      have z1 := secL_low A
      have z2 := secL_low B
      have z3 := dC_low E2
      have z4 := dM_low E2
      have z5 : Low (.sl 5 64 (W.flatMap secL) none) := .sl _ _ _ _ (flat_low secL_low _)
      by_cases h3 : r = 3
      · rw [if_pos h3] at k2
        refine wk ?_
        refine PWops.eqA rfl rfl rfl rfl rfl rfl rfl rfl qW (.inr rfl) ?_
        refine wk ?_
        refine loopP (r + 1) (by omega) (by omega) ?_
        exact sb
      · rw [if_neg h3] at k2
        refine wk ?_
        refine PWops.eqA rfl rfl rfl rfl rfl rfl rfl rfl qW (.inr rfl) ?_
        refine wk ?_
        refine loopP (r + 1) (by omega) (by omega) ?_
        exact sb
    · obtain rfl : r = 5 := by omega
      clear hcr hrd hsz hon hec hcop
      have k1 := hsy ()
      have k2 := hst ()
      have k3 := hfl ()
      refine wk ?_
      refine PWops.stB (new := [.val (.int .u8 0)]) rfl rfl rfl rfl rfl rfl rfl rfl rfl ⟨rfl, by rw [secL_len]; decide⟩ ((splice_one (by rw [secL_len]; decide)).trans hb2) ?_
      clear k1 k2 k3 hsy hst hfl hb2 f1 f2 hnew hs1
      have k1 := hr4 ()
      have k2 := hrt ()
      refine wk ?_
      refine PWops.eqA rfl rfl rfl rfl rfl rfl rfl rfl qB (.inl rfl) ?_
      refine wk ?_
      clear k1 k2 hr4 hrt
      have k1 := hr5 ()
      have k2 := hw6 ()
      refine wk ?_
      clear k1 k2 hr5 hw6
      have k1 := hr6 ()
      have k2 := har ()
      have k3 := hw8 ()
      have k4 := hdn ()
      have k5 := hr8 ()
      refine wk ?_
      refine PWops.eqA rfl rfl rfl rfl rfl rfl rfl rfl qA (.inl rfl) ?_
      refine wk ?_
      exact retP rfl (by exact lw) rfl
end Go.Proofs.Ytilcpcpmkklobaa

/- What the operators on bits give, where wire uses them. -/
namespace Go.Proofs.Ytilcpcpmkklobaa
set_option linter.unusedSimpArgs false
set_option linter.unusedVariables false
set_option linter.unnecessarySimpa false

theorem wraps_u64 (n : Int) (h₀ : 0 ≤ n) (h₁ : n < 2 ^ 64) : IntKind.u64.wrap n = n := by rw [IntKind.wrap_u64]; omega

theorem xor_u64_0 (x : Int) (h0 : 0 ≤ x) (h1 : x < 18446744073709551616) : bits .xor .u64 x 0 = x := by
  obtain ⟨a, rfl⟩ : ∃ a : Nat, x = a := ⟨x.toNat, by omega⟩
  have := bits_xor_u64_nat a 0 (by omega) (by omega)
  simpa using this

theorem xor_u64_ones (x : Int) (h0 : 0 ≤ x) (h1 : x < 18446744073709551616) : bits .xor .u64 x 18446744073709551615 = 18446744073709551615 - x := by
  obtain ⟨a, rfl⟩ : ∃ a : Nat, x = a := ⟨x.toNat, by omega⟩
  have e : (BitVec.ofInt IntKind.u64.bits 18446744073709551615 : BitVec IntKind.u64.bits) = BitVec.allOnes 64 := rfl
  have e2 : ((BitVec.ofInt IntKind.u64.bits (a : Int) : BitVec IntKind.u64.bits) ^^^ BitVec.ofInt IntKind.u64.bits 18446744073709551615).toNat = 18446744073709551615 - a := by
    rw [e]
    show ((BitVec.ofInt 64 (a : Int)) ^^^ BitVec.allOnes 64).toNat = _
    rw [BitVec.xor_allOnes, BitVec.toNat_not, BitVec.toNat_ofInt]
    omega
  show IntKind.u64.wrap _ = _
  simp only []
  rw [e2, IntKind.wrap_u64]
  omega

theorem xor_i64_0 (x : Int) (h0 : -9223372036854775808 ≤ x) (h1 : x < 9223372036854775808) : bits .xor .i64 x 0 = x := by
  have e2 : ((BitVec.ofInt IntKind.i64.bits x : BitVec IntKind.i64.bits) ^^^ BitVec.ofInt IntKind.i64.bits 0).toNat = (x % 18446744073709551616).toNat := by
    show ((BitVec.ofInt 64 x) ^^^ BitVec.ofInt 64 0).toNat = _
    rw [show BitVec.ofInt 64 0 = 0#64 from rfl, BitVec.xor_zero, BitVec.toNat_ofInt]
    rfl
  show IntKind.i64.wrap _ = _
  simp only []
  rw [e2, IntKind.wrap_i64]
  omega

theorem xor_i64_ones (x : Int) (h0 : -9223372036854775808 ≤ x) (h1 : x < 9223372036854775808) : bits .xor .i64 x (-1) = -1 - x := by
  have e2 : ((BitVec.ofInt IntKind.i64.bits x : BitVec IntKind.i64.bits) ^^^ BitVec.ofInt IntKind.i64.bits (-1)).toNat = 18446744073709551615 - (x % 18446744073709551616).toNat := by
    show ((BitVec.ofInt 64 x) ^^^ BitVec.ofInt 64 (-1)).toNat = _
    rw [show BitVec.ofInt 64 (-1) = BitVec.allOnes 64 from rfl, BitVec.xor_allOnes, BitVec.toNat_not, BitVec.toNat_ofInt]
    rfl
  show IntKind.i64.wrap _ = _
  simp only []
  rw [e2, IntKind.wrap_i64]
  omega

theorem u8_and127 (x : Int) (h₀ : 0 ≤ x) (h₁ : x < 256) : bits .and .u8 x 127 = x % 128 := bits_mask .u8 8 (by decide) wraps_u8 7 (by decide) x h₀ h₁
theorem u64_and1 (x : Int) (h₀ : 0 ≤ x) (h₁ : x < 18446744073709551616) : bits .and .u64 x 1 = x % 2 := bits_mask .u64 64 (by decide) wraps_u64 1 (by decide) x h₀ h₁

theorem bits_or_comm (k : IntKind) (x y : Int) : bits .or k x y = bits .or k y x := by
  simp only [bits, BitVec.or_comm]

theorem u8_or128' (q : Int) (h0 : 0 ≤ q) : bits .or .u8 (q % 256) 128 = q % 128 + 128 := by
  obtain ⟨a, rfl⟩ : ∃ a : Nat, q = a := ⟨q.toNat, by omega⟩
  have h := (bits_nat .u8 8 (by decide) wraps_u8 (a % 256) 128 (by omega) (by omega)).2
  have e : (a % 256 ||| 128 : Nat) = a % 128 + 128 := by
    have key : ∀ x : Fin 256, (x.val ||| 128 : Nat) = x.val % 128 + 128 := by decide +kernel
    have := key ⟨a % 256, by omega⟩
    simp only at this
    rw [this]; omega
  rw [e] at h
  have c1 : ((a % 256 : Nat) : Int) = (a : Int) % 256 := by omega
  have c2 : ((128 : Nat) : Int) = 128 := rfl
  rw [c1, c2] at h
  rw [h]; omega

/-- z |= d << (7k), where z has only lower bits. -/
theorem u64_or_shift (z d : Int) (k : Nat) (hk : k ≤ 9) (hz0 : 0 ≤ z) (hz : z < 2 ^ (7 * k)) (hd0 : 0 ≤ d) (hd9 : d * 2 ^ (7 * k) < 18446744073709551616) :
    bits .or .u64 z (d * 2 ^ (7 * k)) = z + d * 2 ^ (7 * k) := by
  have hp : (0 : Int) < 2 ^ (7 * k) := Int.pow_pos (by decide)
  have hle : (2 : Int) ^ (7 * k) ≤ 9223372036854775808 := by
    have : (2 : Int) ^ (7 * k) ≤ 2 ^ 63 := by
      have h := Nat.pow_le_pow_right (n := 2) (by decide) (show 7 * k ≤ 63 by omega)
      exact_mod_cast h
    simpa using this
  rw [bits_or_comm, bits_join .u64 64 (by decide) wraps_u64 (7 * k) _ _ (Int.mul_nonneg hd0 (by omega)) (by simp) (by simpa using hd9) hz0 hz (by
    have : (2 : Int) ^ 64 = 18446744073709551616 := by decide
    omega)]
  omega

end Go.Proofs.Ytilcpcpmkklobaa

/- Plain: the encoding of integers, as wire and antiquaryref01 have it. -/
namespace Go.Proofs.Ytilcpcpmkklobaa
set_option linter.unusedSimpArgs false
set_option linter.unusedVariables false
set_option linter.unnecessarySimpa false

def zig (n : Int) : Nat := if 0 ≤ n then (2 * n).toNat else (-2 * n - 1).toNat
def unzig (z : Int) : Int := if z % 2 = 0 then z / 2 else -1 - z / 2

theorem zig_lt (n : Int) (h1 : -9223372036854775808 ≤ n) (h2 : n ≤ 9223372036854775807) : zig n < 18446744073709551616 := by unfold zig; split <;> omega
theorem unzig_zig (n : Int) : unzig (zig n) = n := by unfold unzig zig; split <;> split <;> omega

def leb (z : Nat) : List Int := if z < 128 then [(z : Int)] else ((z % 128 + 128 : Nat) : Int) :: leb (z / 128)
decreasing_by omega

theorem leb_small (z : Nat) (h : z < 128) : leb z = [(z : Int)] := by rw [leb, if_pos h]
theorem leb_big (z : Nat) (h : 128 ≤ z) : leb z = ((z % 128 + 128 : Nat) : Int) :: leb (z / 128) := by rw [leb, if_neg (by omega)]

theorem leb_pos (z : Nat) : 1 ≤ (leb z).length := by rw [leb]; split <;> simp

theorem leb_len (k : Nat) : ∀ z, z < 128 ^ (k + 1) → (leb z).length ≤ k + 1 := by
  induction k with
  | zero => intro z h; rw [leb_small z (by simpa using h)]; simp
  | succ k ih =>
    intro z h
    by_cases g : z < 128
    · rw [leb_small z g]; simp
    · rw [leb_big z (by omega)]
      have := ih (z / 128) (by rw [Nat.pow_succ] at h; exact Nat.div_lt_of_lt_mul (by omega))
      simp; omega

def intB (n : Int) : List Int := leb (zig n)

theorem leb64 (z : Nat) (h : z < 18446744073709551616) : (leb z).length ≤ 10 := leb_len 9 z (by have : 128 ^ (9 + 1) = 1180591620717411303424 := rfl; omega)

/-- What GetInt does from the k-th byte on: the number, how many bytes it has, the error. -/
def getGo : List Int → Nat → Int → Int × Int × Int
  | [], _, _ => (0, 0, 10)
  | c :: r, k, z =>
    if (k = 9 ∧ 1 < c) ∨ (0 < k ∧ c = 0) then (0, 0, 11)
    else if c < 128 then (unzig (z + c % 128 * 2 ^ (7 * k)), (k : Int) + 1, 0)
    else getGo r (k + 1) (z + c % 128 * 2 ^ (7 * k))
def getI (bs : List Int) : Int × Int × Int := getGo bs 0 0

theorem getGo_drop (bs : List Int) (k : Nat) (c z : Int) (h : bs[k]? = some c) : getGo (bs.drop k) k z =
    if (k = 9 ∧ 1 < c) ∨ (0 < k ∧ c = 0) then (0, 0, 11) else if c < 128 then (unzig (z + c % 128 * 2 ^ (7 * k)), (k : Int) + 1, 0) else getGo (bs.drop (k+1)) (k + 1) (z + c % 128 * 2 ^ (7 * k)) := by
  obtain ⟨hk, rfl⟩ := List.getElem?_eq_some_iff.1 h
  rw [List.drop_eq_getElem_cons (by omega), getGo]

theorem getGo_end (bs : List Int) (k : Nat) (z : Int) (h : bs.length ≤ k) : getGo (bs.drop k) k z = (0, 0, 10) := by
  rw [List.drop_eq_nil_of_le h, getGo]

end Go.Proofs.Ytilcpcpmkklobaa

/- The walks of wire and antiquaryref01: Int and GetInt. -/
namespace Go.Proofs.Ytilcpcpmkklobaa
set_option linter.unusedSimpArgs false
set_option linter.unusedVariables false
set_option linter.unnecessarySimpa false
open Go.RowKit
theorem elemByte : Elem1 Try.prog 5 (.int .u8 0) 1 := ⟨by kernel_rfl, rfl⟩

/-- The call returns a new slice of bytes. -/
def MadeBytes (w : World) (bs : List Int) (e : Ending) (w' : World) : Prop :=
  ∃ v, e = .returned v ∧ Own w.heap.size 5 w' v (bs.map (Value.int .u8)) ∧ Below w.heap.size w w'

/-- A slice of bytes. -/
def Bytes (w : World) (v : Value) (bs : List Int) : Prop := Rd w v (bs.map (Value.int .u8))

theorem Bytes.open {w : World} {v : Value} {zs : List Int} (h : Bytes w v zs) : ∃ a cap b off, v = .slice a zs.length cap ∧ zs.length ≤ cap ∧ cap ≤ maxLen ∧
    (0 < zs.length → a = some ⟨b, off, none⟩) ∧ Hid (∀ (j : Nat) (x : Int), zs[j]? = some x → w.cell? ⟨b, off + j, none⟩ = some (.int .u8 x)) := by
  obtain ⟨a, cap, b, off, h1, h2, h3, h4, h5⟩ := h
  simp only [List.length_map] at h1 h2 h4
  exact ⟨a, cap, b, off, h1, h2, h3, h4, fun j x hx => h5 j _ (by simp [hx])⟩

def Byte (bs : List Int) : Prop := ∀ (k : Nat) (c : Int), bs[k]? = some c → 0 ≤ c ∧ c < 256

theorem zig_walk (n : Int) (h1 : -9223372036854775808 ≤ n) (h2 : n ≤ 9223372036854775807) :
    bits BinOp.xor IntKind.u64 (IntKind.u64.wrap (IntKind.u64.wrap n * 2)) (IntKind.u64.wrap (n / 9223372036854775808)) = zig n := by
  simp only [IntKind.wrap_u64]
  by_cases h : 0 ≤ n
  · have e : n / 9223372036854775808 % 18446744073709551616 = 0 := by omega
    rw [e, xor_u64_0 _ (by omega) (by omega)]; unfold zig; rw [if_pos h]; omega
  · have e : n / 9223372036854775808 % 18446744073709551616 = 18446744073709551615 := by omega
    rw [e, xor_u64_ones _ (by omega) (by omega)]; unfold zig; rw [if_neg h]; omega

end Go.Proofs.Ytilcpcpmkklobaa

/- What every law's row asks behind the walk: it returns true, and nothing that was there has changed; and how its arguments are opened. -/
namespace Go.Proofs.Ytilcpcpmkklobaa
set_option linter.unusedSimpArgs false
set_option linter.unusedVariables false
set_option linter.unnecessarySimpa false
open Go.ChangeShapes Go.WideShapes Go.ChangeAt Go.RowKit

theorem own : ownKnob Try.prog.godebug = none := by kernel_rfl
theorem laidOut : laidOutB Try.prog = true := by kernel_rfl

theorem trodAll_below {H : Type} {enc : TypeId × Value → H} {P : Program} (hl : laidOutB P = true) {W W' : World} (hb : Below W.heap.size W W') :
    ∀ (ts : List TypeId) (vs : List Value) (ds : List (DataW H)) (ps : List MemPlace), ts.all (fun t => P.readableRec t && decide (t < P.types.size)) = true → DataW.TrodAll enc P W 0 (fun _ => true) true ts vs ds ps →
      (∀ x ∈ ps, x.block < W.heap.size) → DataW.TrodAll enc P W' 0 (fun b => decide (b < W.heap.size)) true ts vs ds ps
  | [], [], [], ps, _, h, _ => h
  | t :: ts, v :: vs, d :: ds, ps, hr, h, hlt => by
    obtain ⟨p, q, h1, h2, rfl⟩ := h
    simp only [List.all_cons, Bool.and_eq_true, decide_eq_true_eq] at hr
    exact ⟨p, q, Below.trod hl hr.1.1 hr.1.2 h1 hb (fun x hx => hlt x (List.mem_append_left _ hx)), trodAll_below hl hb ts vs ds q hr.2 h2 (fun x hx => hlt x (List.mem_append_right _ hx)), rfl⟩
  | [], [], _ :: _, _, _, h, _ => by simp [DataW.TrodAll] at h
  | [], _ :: _, _, _, _, h, _ => by simp [DataW.TrodAll] at h
  | _ :: _, [], _, _, _, h, _ => by simp [DataW.TrodAll] at h
  | _ :: _, _ :: _, [], _, _, h, _ => by simp [DataW.TrodAll] at h

/-- The post of a law. -/
theorem post_law {H : Type} {enc : TypeId × Value → H} {P : Program} (hl : laidOutB P = true) {f : Func} {s : ChangeSpec} {W W' : World} {args : Array Value} {ds : List (DataW H)} {before : List MemPlace} {tb : TypeId}
    (htb : P.underlying tb = some .bool) (hres : f.resultTypes = #[tb]) (hvars : s.vars = []) (hread : f.params.toList.all (fun t => P.readableRec t && decide (t < P.types.size)) = true)
    (hW : DataW.Whole enc P f.params.toList s.vars false W args.toList ds [] before)
    (hr : (s.fn H (ds ++ [])).results = [.lit (.bool true)]) (ha : (s.fn H (ds ++ [])).args = ds) (hv : (s.fn H (ds ++ [])).vars = [])
    (hb : Below W.heap.size W W') : s.post enc P f false true false false W args (.bool true) W' := by
  have hW' := hW
  obtain ⟨p, q, hA, hV, rfl, _, _⟩ := hW
  rw [hvars] at hV
  obtain ⟨_, rfl⟩ := trodVars_none hV
  refine ⟨ds, [], p ++ [], [], p, [], hW', ?_, ?_, ?_, hb.frame _, fun h => by cases h⟩
  · rw [hr, hres]
    exact trodAll_cons_mk (shut_bool htb true) trodAll_mk0
  · rw [ha]
    exact trodAll_below hl hb _ _ _ _ hread hA (fun x hx => by simpa using hW'.lt x (by simp [hx]))
  · rw [hv, hvars]; rfl

/-- A slice of 64-bit integers among the arguments. -/
theorem open_Ints {H : Type} {enc : TypeId × Value → H} {P : Program} {W : World} {t e : TypeId} {v : Value} {d : DataW H} {p : List MemPlace} {base : Nat} (ht : P.underlying t = some (.slice e)) (he : P.underlying e = some (.int .i64)) (hc : P.cellsOf e = 1)
    (hval : Value.okWide P W .any base t v) (h : DataW.Trod enc P W 0 (fun _ => true) true t v d p) :
    ∃ zs : List Int, Ints W v zs ∧ (∀ z ∈ zs, -9223372036854775808 ≤ z ∧ z ≤ 9223372036854775807) ∧ ((zs = [] ∧ d = .nil) ∨ ∃ sp, d = .slice (lits .i64 zs) sp) := by
  obtain ⟨a0, len, cap, rfl⟩ := okWide_slice ht hval
  obtain ⟨fuel, hf⟩ := h
  rcases open_ints ht he hc hf with ⟨hcs, hx⟩ | ⟨a, len', cap', zs, hcs, _, hl, hm, hz, hx, hcell, hwz⟩
  · simp [Value.cells] at hcs
    obtain ⟨rfl, rfl, rfl⟩ := hcs
    simp only [Prod.mk.injEq] at hx
    exact ⟨[], ⟨none, 0, 0, 0, rfl, by simp, by simp [maxLen], fun h => by simp at h, fun j u hu => by simp at hu⟩, by simp, .inl ⟨rfl, hx.1⟩⟩
  · simp [Value.cells] at hcs
    obtain ⟨rfl, rfl, rfl⟩ := hcs
    simp only [Prod.mk.injEq] at hx
    simp only [if_true] at hz
    have hlen : (zs.take len).length = len := by rw [List.length_take]; omega
    refine ⟨zs.take len, ⟨some a, cap, a.block, a.off, by rw [List.length_map, hlen], by rw [List.length_map, hlen]; exact hl, hm, fun h => ?_, fun j u hu => ?_⟩, fun z hz' => ?_, .inr ⟨_, hx.1⟩⟩
    · rw [List.length_map, hlen] at h
      have hs := World.cell?_spot (hcell 0 (by omega))
      obtain ⟨b, off, spot⟩ := a
      have : spot = none := by simpa [Addr.add] using hs
      rw [this]
    · rw [List.getElem?_map] at hu
      obtain ⟨x, hx2, rfl⟩ := Option.map_eq_some_iff.1 hu
      have hj : j < len := by have := (List.getElem?_eq_some_iff.1 hx2).1; omega
      have hs := World.cell?_spot (hcell 0 (by omega))
      obtain ⟨b, off, spot⟩ := a
      have : spot = none := by simpa [Addr.add] using hs
      subst this
      have := hcell j (by omega)
      rw [add_plain] at this
      rw [this]
      rw [List.getElem?_take, if_pos hj] at hx2
      simp [List.getD, hx2]
    · have := hwz z (List.mem_of_mem_take hz')
      simpa [Lit.wf, IntKind.min, IntKind.max, IntKind.signed, IntKind.bits] using this

/-- The reach of the j-th argument. -/
theorem reach_Ints {H : Type} {P : Program} {ts : List TypeId} {ds : List (DataW H)} (hsz : (DataW.weightsEach P ts ds).all (· ≤ reachBytes) = true) (j : Nat) {t e : TypeId} {d : DataW H} {zs : List Int} (k : IntKind) (n : Nat) (ht : ts[j]? = some t) (hd : ds[j]? = some d) (hu : P.underlying t = some (.slice e)) (hb : P.bytesOf e = n)
    (h : (zs = [] ∧ d = .nil) ∨ ∃ sp, d = .slice (lits k zs) sp) : zs.length * n ≤ 140737488351232 := by
  rcases h with ⟨rfl, _⟩ | ⟨sp, rfl⟩
  · simp
  · have := sized_slice hsz ht hd hu
    rw [hb] at this
    simp only [lits, List.length_map, reachBytes] at this
    have h2 : zs.length * n ≤ (zs.length + sp.length) * n := Nat.mul_le_mul_right _ (by omega)
    omega

theorem cellsInt : Try.prog.cellsOf 3 = 1 := by kernel_rfl
theorem bytesInt : Try.prog.bytesOf 3 = 8 := by kernel_rfl

end Go.Proofs.Ytilcpcpmkklobaa

/- Pure states: a new slice as a pure value, contracts of one argument. -/
namespace Go.Proofs.Ytilcpcpmkklobaa
set_option linter.unusedSimpArgs false
set_option linter.unusedVariables false
set_option linter.unnecessarySimpa false
open Go.RowKit

/-- A new slice of bytes: what it reads as. -/
def pbytesO (zs : List Int) : PV := .sl zs.length 1 (zs.map pbyte) (some 5)

section
variable {Φ : Imm} {μ : Nat → Option Nat} {w : World} (himm : ∀ b o u, Φ b o = some u → w.cell? ⟨b, o, none⟩ = some u)
include himm

theorem post_flat {w' : World} {post : PV → Prop} {r : PV} {v : Value} (hr : Rep Φ mu0 r v) (hf : r.ownB = false) (hp : post r) (hb : Below w.heap.size w w') : CallPost Φ w post (.returned v) w' := by
  refine ⟨r, v, Φ, rfl, hp, hr, fun b o u e => below_cell hb (himm b o u e), fun _ _ _ => rfl, hb, fun n k cs E e => ?_⟩
  rw [e] at hf; simp [PV.ownB] at hf

/-- A new slice as a pure value. -/
theorem own_rep {w' : World} {E : TypeId} {v : Value} {α : Type} {f : α → Value} {l : List α} (hplain : ∀ x, plainV (f x) = true) (ho : Own w.heap.size E w' v (l.map f)) (hb : Below w.heap.size w w') (hE : E < 1000000 := by decide) :
    ∃ Φ' : Imm, (∀ b o u, Φ' b o = some u → w'.cell? ⟨b, o, none⟩ = some u) ∧ (∀ b o, b < w.heap.size → Φ' b o = Φ b o) ∧ Rep Φ' mu0 (.sl l.length 1 (l.map fun x => .val (f x)) (some E)) v ∧ OwnAt (fun g => w.heap.size ≤ g) Φ' (fun _ => some (.tmp 0)) w' (.tmp 0) l.length 1 E v := by
  have himm' : ∀ b o u, Φ b o = some u → w'.cell? ⟨b, o, none⟩ = some u := fun b o u e => below_cell hb (himm b o u e)
  have hfr : ∀ b o u, Φ b o = some u → b < w.heap.size := fun b o u e => World.block_lt_of_cell? _ _ (himm b o u e)
  rcases ho.2 with ⟨rfl, hn⟩ | ⟨g, cap, cur, rfl, hBg, hgg, hc, hm, hs, ht⟩
  · have hl : l = [] := List.eq_nil_of_length_eq_zero (by simpa using hn)
    subst hl
    exact ⟨Φ, himm', fun _ _ _ => rfl, .sl0 _ _ _ _ (by unfold maxLen; omega), .inl ⟨rfl, rfl⟩⟩
  · simp only [List.length_map, Nat.mul_one] at hc ht hs
    refine ⟨fun b o => if b = g then (l.map f)[o]? else Φ b o, ?_, ?_, ?_, ?_⟩
    · intro b o u e
      by_cases hbg : b = g
      · subst hbg
        simp only [if_true] at e
        rw [← ht, List.getElem?_take] at e
        split at e
        · simp only [World.cell?, hgg]; simpa using e
        · cases e
      · simp only [if_neg hbg] at e; exact himm' b o u e
    · intro b o hbo; simp only; rw [if_neg (by omega)]
    · have hlen : (Value.slice (some ⟨g, 0, none⟩) (l.map f).length cap) = .slice (some ⟨g, 0, none⟩) l.length cap := by simp
      rw [hlen]
      refine .sl _ _ _ _ g 0 cap (fun j => ((l.map f)[j]?).getD undef) (by simp) hc hm (fun j hj => ?_) (fun j c hcj => ?_)
      · have hj' : j < l.length := by simpa using hj
        simp [hj']
      · rw [List.getElem?_map] at hcj
        obtain ⟨x, hx, rfl⟩ := Option.map_eq_some_iff.1 hcj
        simp only [List.getElem?_map, hx, Option.map_some, Option.getD_some]
        exact .val _ (hplain x)
    · refine .inr (.inl ⟨g, cap, cur, by simp, hBg, hgg, hc, hm, by simpa using hs, rfl, hE, fun j hj => ?_⟩)
      simp only [if_true]
      rw [List.getElem?_eq_none (by simp; omega)]

theorem post_own {w' : World} {E : TypeId} {v : Value} {α : Type} {f : α → Value} {l : List α} (hplain : ∀ x, plainV (f x) = true) (ho : Own w.heap.size E w' v (l.map f)) (hb : Below w.heap.size w w') (hE : E < 1000000 := by decide) : CallPost Φ w (· = .sl l.length 1 (l.map fun x => .val (f x)) (some E)) (.returned v) w' := by
  obtain ⟨Φ', h1, h2, h3, h4⟩ := own_rep himm hplain ho hb hE
  refine ⟨_, v, Φ', rfl, rfl, h3, h1, h2, hb, fun n k cs E' e => ?_⟩
  cases e
  exact h4

end

/-- A contract over memory as one over pure values: one argument. -/
theorem pcalls1 {P : Program} {f : FuncId} {p : PV} {post : PV → Prop} (hc : callB P f = true) (h : ∀ (Φ : Imm) (μ : Nat → Option Nat) (w : World) (v : Value), (∀ b o u, Φ b o = some u → w.cell? ⟨b, o, none⟩ = some u) → Rep Φ μ p v → Calls P f #[v] w (CallPost Φ w post)) : PCalls P f [p] post := by
  refine ⟨hc, fun Φ μ w vs himm hgl hr => ?_⟩
  match vs, hr with
  | [v], hr => exact h Φ μ w v himm (hr.2 0 _ _ rfl rfl)
  | [], hr => exact absurd hr.1 (by simp)
  | _ :: _ :: _, hr => exact absurd hr.1 (by simp)
end Go.Proofs.Ytilcpcpmkklobaa

/- How a law's arguments are opened, whatever their types; a law's row out of its contract over pure values. -/
namespace Go.Proofs.Ytilcpcpmkklobaa
set_option linter.unusedSimpArgs false
set_option linter.unusedVariables false
set_option linter.unnecessarySimpa false
open Go.ChangeShapes Go.WideShapes Go.ChangeAt Go.RowKit

def immW (W : World) : Imm := fun b o => W.cell? ⟨b, o, none⟩

theorem RepL.append {Φ : Imm} {μ : Nat → Option Nat} {cs ds : List PV} {us vs : List Value} (h : RepL Φ μ cs us) (k : RepL Φ μ ds vs) : RepL Φ μ (cs ++ ds) (us ++ vs) := by
  refine ⟨by simp [h.1, k.1], fun j c u h1 h2 => ?_⟩
  by_cases hj : j < cs.length
  · rw [List.getElem?_append_left hj] at h1
    rw [List.getElem?_append_left (by rw [h.1]; exact hj)] at h2
    exact h.2 j c u h1 h2
  · rw [List.getElem?_append_right (by omega)] at h1
    rw [List.getElem?_append_right (by rw [h.1]; omega), h.1] at h2
    exact k.2 _ c u h1 h2

/-- Cells of the type t read as a value of α, whose cells are encoded by en. -/
def Opens (P : Program) (t : TypeId) {α : Type} (en : α → List PV) (ok : α → Prop) : Prop :=
  ∀ (H : Type) (enc : TypeId × Value → H) (W : World) (fuel : Nat) (cs : List Value) (d : DataW H) (pl : List MemPlace),
    DataW.trod enc P W 0 (fun _ => true) true fuel t cs = some (d, pl) → (∀ n ∈ d.weights P t, n ≤ reachBytes) → ∃ y : α, ok y ∧ RepL (immW W) mu0 (en y) cs

section
variable {P : Program} {t e : TypeId}
theorem Opens.map {α β : Type} {en : α → List PV} {ok : α → Prop} (h : Opens P t en ok) (g : α → β) {en' : β → List PV} {ok' : β → Prop} (hen : ∀ a, ok a → en' (g a) = en a) (hok : ∀ a, ok a → ok' (g a)) : Opens P t en' ok' := by
  intro H enc W fuel cs d pl h1 h2
  obtain ⟨y, k1, k2⟩ := h H enc W fuel cs d pl h1 h2
  exact ⟨g y, hok y k1, by rw [hen y k1]; exact k2⟩
theorem opens_int {k : IntKind} (ht : P.underlying t = some (.int k)) : Opens P t (fun z : Int => [.val (.int k z)]) (fun z => (Lit.int k z).wf = true) := by
  intro H enc W fuel cs d pl h hw
  obtain ⟨n, rfl, hx, hwf⟩ := DataW.trod_int ht h
  exact ⟨n, hwf, RepL.cons (.val _ rfl) RepL.nil⟩
theorem opens_bool (ht : P.underlying t = some .bool) : Opens P t (fun b : Bool => [.val (.bool b)]) (fun _ => True) := by
  intro H enc W fuel cs d pl h hw
  obtain ⟨n, rfl, hx⟩ := DataW.trod_bool ht h
  exact ⟨n, trivial, RepL.cons (.val _ rfl) RepL.nil⟩
theorem opens_str (ht : P.underlying t = some .string) : Opens P t (fun b : ByteArray => [.val (.string b)]) (fun b => b.size ≤ reachBytes) := by
  intro H enc W fuel cs d pl h hw
  obtain ⟨s, rfl, hx, hs⟩ := DataW.trod_string ht h
  refine ⟨s, ?_, RepL.cons (.val _ rfl) RepL.nil⟩
  cases hx
  have := hw s.data.toList.length (by simp [DataW.weights])
  simpa using this

theorem weights_mem {H : Type} {e : TypeId} : ∀ {l : List (DataW H)} {d : DataW H}, d ∈ l → ∀ n ∈ d.weights P e, n ∈ DataW.weightsAll P e l
  | x :: l, d, h, n, hn => by
    rw [DataW.weightsAll, List.mem_append]
    rcases List.mem_cons.1 h with rfl | h
    · exact .inl hn
    · exact .inr (weights_mem h n hn)

theorem opens_slice {α : Type} {en : α → List PV} {ok : α → Prop} {k b : Nat} (ht : P.underlying t = some (.slice e)) (hc : P.cellsOf e = k) (hk : 0 < k) (hb : P.bytesOf e = b) (he : Opens P e en ok) (hlen : ∀ x, ok x → (en x).length = k) :
    Opens P t (fun xs : List α => [.sl xs.length k (xs.flatMap en) none]) (fun xs => (∀ x ∈ xs, ok x) ∧ xs.length * b ≤ reachBytes) := by
  intro H enc W fuel cs d pl h hw
  rcases Deep.open_slice ht h with ⟨rfl, hx⟩ | ⟨a, len, cap, m, n, D, Pl, rfl, -, hl, hm, hmm, hx, hel⟩
  · exact ⟨[], ⟨by simp, by simp⟩, RepL.cons (.sl0 _ _ _ _ (by unfold maxLen; omega)) RepL.nil⟩
  · simp only [if_true] at hmm
    subst hmm
    cases hx
    have hall : ∀ i, i < len → ∃ y : α, ok y ∧ ∃ us, W.cells? 0 (a.add (i * P.cellsOf e)) (P.cellsOf e) = some us ∧ RepL (immW W) mu0 (en y) us := by
      intro i hi
      obtain ⟨us, h1, h2⟩ := hel i (by omega)
      obtain ⟨y, k1, k2⟩ := he H enc W n us (D i) (Pl i) h2 (fun x hx => by
        refine hw x ?_
        simp only [DataW.weights, ht, List.mem_cons, List.mem_append]
        exact .inr (.inl (weights_mem (List.mem_map.2 ⟨i, by simpa using hi, rfl⟩) x hx)))
      exact ⟨y, k1, us, h1, k2⟩
    have : ∃ xs : List α, xs.length = len ∧ ∀ i x, xs[i]? = some x → ok x ∧ ∃ us, W.cells? 0 (a.add (i * P.cellsOf e)) (P.cellsOf e) = some us ∧ RepL (immW W) mu0 (en x) us := by
      have key : ∀ j, j ≤ len → ∃ xs : List α, xs.length = j ∧ ∀ i x, xs[i]? = some x → ok x ∧ ∃ us, W.cells? 0 (a.add (i * P.cellsOf e)) (P.cellsOf e) = some us ∧ RepL (immW W) mu0 (en x) us := by
        intro j
        induction j with
        | zero => exact fun _ => ⟨[], rfl, fun i x hx => by simp at hx⟩
        | succ j ih =>
          intro hj
          obtain ⟨xs, h1, h2⟩ := ih (by omega)
          obtain ⟨y, k1, k2⟩ := hall j (by omega)
          refine ⟨xs ++ [y], by simp [h1], fun i x hx => ?_⟩
          by_cases hi : i < j
          · rw [List.getElem?_append_left (by omega)] at hx; exact h2 i x hx
          · rw [List.getElem?_append_right (by omega)] at hx
            have h0 : i - xs.length = 0 := by
              have := (List.getElem?_eq_some_iff.1 hx).1
              simp at this; omega
            rw [h0] at hx; simp at hx; subst hx
            obtain rfl : i = j := by omega
            exact ⟨k1, k2⟩
      exact key len (Nat.le_refl _)
    obtain ⟨xs, hxl, hxs⟩ := this
    refine ⟨xs, ⟨fun x hx => ?_, ?_⟩, RepL.cons ?_ RepL.nil⟩
    · obtain ⟨i, hi⟩ := List.getElem?_of_mem hx
      exact (hxs i x hi).1
    · have hw1 := hw (((List.range len).map D).length * P.bytesOf e + ((List.range (m - len)).map fun j => D (len + j)).length * P.bytesOf e) (by
        simp only [DataW.weights, ht, List.mem_cons, List.mem_append, Nat.add_mul]
        exact .inl trivial)
      simp only [List.length_map, List.length_range, hb] at hw1
      rw [hxl]; omega
    · by_cases h0 : len = 0
      · subst h0
        obtain rfl : xs = [] := List.eq_nil_of_length_eq_zero hxl
        exact .sl0 _ _ _ _ hm
      · obtain ⟨bl, off, spot⟩ := a
        have hfl : (xs.flatMap en).length = len * k := by
          rw [← hxl]
          have : ∀ (l : List α), (∀ x ∈ l, (en x).length = k) → (l.flatMap en).length = l.length * k := by
            intro l
            induction l with
            | nil => simp
            | cons x l ih => intro h; rw [List.flatMap_cons, List.length_append, h x (by simp), ih (fun y hy => h y (by simp [hy])), List.length_cons, Nat.succ_mul]; omega
          exact this xs (fun x hx => by
            obtain ⟨i, hi⟩ := List.getElem?_of_mem hx
            exact hlen x (hxs i x hi).1)
        have hcell : ∀ i r, i < len → r < k → ∃ x u, xs[i]? = some x ∧ W.cell? (Addr.add (Addr.add ⟨bl, off, spot⟩ (i * k)) r) = some u ∧ ∀ c, (en x)[r]? = some c → Rep (immW W) mu0 c u := by
          intro i r hi hr
          have hix : i < xs.length := by omega
          obtain ⟨k1, us, k2, k3⟩ := hxs i xs[i] (by simp [hix])
          obtain ⟨-, q2, q3⟩ := World.cells?_some k2
          rw [hc] at q2 q3
          have hru : r < us.length := by omega
          refine ⟨xs[i], us[r], by simp [hix], by rw [q3 r hr]; simp [hru], fun c hcc => k3.2 r c _ hcc (by simp [hru])⟩
        have hspot : spot = none := by
          obtain ⟨x, u, -, h2, -⟩ := hcell 0 0 (by omega) hk
          have := World.cell?_spot h2
          simpa [Addr.add] using this
        subst hspot
        rw [← hxl]
        refine .sl xs.length k _ none bl off m (fun j => (W.cell? ⟨bl, off + j, none⟩).getD undef) (by rw [hfl, hxl]) (by omega) hm (fun j hj => ?_) (fun j c hj => ?_)
        · rw [hfl] at hj
          have hq : j / k < len := by rw [Nat.div_lt_iff_lt_mul hk]; exact hj
          obtain ⟨x, u, -, h2, -⟩ := hcell (j / k) (j % k) hq (Nat.mod_lt _ hk)
          rw [Addr.add_lit, Addr.add_lit, Nat.add_assoc, Nat.mul_comm, Nat.div_add_mod] at h2
          simp only [immW, h2, Option.getD_some]
        · have hjl := (List.getElem?_eq_some_iff.1 hj).1
          rw [hfl] at hjl
          have hq : j / k < len := by rw [Nat.div_lt_iff_lt_mul hk]; exact hjl
          obtain ⟨x, u, h1, h2, h3⟩ := hcell (j / k) (j % k) hq (Nat.mod_lt _ hk)
          rw [Addr.add_lit, Addr.add_lit, Nat.add_assoc, Nat.mul_comm, Nat.div_add_mod] at h2
          rw [h2, Option.getD_some]
          refine h3 c ?_
          have hxk : ∀ x ∈ xs, (en x).length = k := fun x hx => by
            obtain ⟨i, hi⟩ := List.getElem?_of_mem hx
            exact hlen x (hxs i x hi).1
          have gen : ∀ (l : List α) (i r : Nat) (x : α), (∀ x ∈ l, (en x).length = k) → l[i]? = some x → r < k → (l.flatMap en)[i * k + r]? = (en x)[r]? := by
            intro l
            induction l with
            | nil => intro i r x _ h; simp at h
            | cons y l ih =>
              intro i r x hl h hr
              rw [List.flatMap_cons]
              cases i with
              | zero =>
                simp at h; subst h
                rw [Nat.zero_mul, Nat.zero_add, List.getElem?_append_left (by rw [hl y (by simp)]; exact hr)]
              | succ i =>
                simp at h
                have := ih i r x (fun z hz => hl z (by simp [hz])) h hr
                rw [List.getElem?_append_right (by rw [hl y (by simp), Nat.succ_mul]; omega), hl y (by simp), ← this]
                congr 1
                rw [Nat.succ_mul]; omega
          rw [← gen xs (j / k) (j % k) x hxk h1 (Nat.mod_lt _ hk), Nat.mul_comm, Nat.div_add_mod]
          exact hj

/-- Fields, from the cell o on, m cells in all. -/
def OpensFs (P : Program) (fs : List Field) (o m : Nat) {α : Type} (en : α → List PV) (ok : α → Prop) : Prop :=
  ∀ (H : Type) (enc : TypeId × Value → H) (W : World) (n : Nat) (cs : List Value) (xs : List (DataW H × List MemPlace)), xs.length = fs.length → (∀ (i : Nat) (f : Field), fs[i]? = some f → DataW.trod enc P W 0 (fun _ => true) true n f.type ((cs.drop f.offset).take (P.cellsOf f.type)) = xs[i]?) →
    (∀ k ∈ DataW.weightsEach P (fs.map (·.type)) (xs.map (·.1)), k ≤ reachBytes) → ∃ y : α, ok y ∧ RepL (immW W) mu0 (en y) ((cs.drop o).take m)

theorem opensFs_nil {o : Nat} : OpensFs P [] o 0 (fun _ : Unit => []) (fun _ => True) := by
  intro H enc W n cs xs _ _ _
  exact ⟨(), trivial, by simpa using RepL.nil⟩
theorem opensFs_cons {f : Field} {fs : List Field} {o k m : Nat} {α β : Type} {en1 : α → List PV} {ok1 : α → Prop} {en2 : β → List PV} {ok2 : β → Prop} (ho : f.offset = o) (hk : P.cellsOf f.type = k) (h1 : Opens P f.type en1 ok1) (h2 : OpensFs P fs (o + k) m en2 ok2) :
    OpensFs P (f :: fs) o (k + m) (fun p : α × β => en1 p.1 ++ en2 p.2) (fun p => ok1 p.1 ∧ ok2 p.2) := by
  intro H enc W n cs xs hl hx hw
  cases xs with
  | nil => simp at hl
  | cons x xs =>
    have e0 := hx 0 f rfl
    rw [ho, hk] at e0
    obtain ⟨y, k1, k2⟩ := h1 H enc W n _ x.1 x.2 e0 (fun z hz => hw z (by simp only [List.map_cons, DataW.weightsEach, List.mem_append]; exact .inl hz))
    obtain ⟨z, k3, k4⟩ := h2 H enc W n cs xs (by simpa using hl) (fun i g hg => by have := hx (i + 1) g (by simpa using hg); simpa using this) (fun z hz => hw z (by simp only [List.map_cons, DataW.weightsEach, List.mem_append]; exact .inr hz))
    refine ⟨(y, z), ⟨k1, k3⟩, ?_⟩
    rw [List.take_add, List.drop_drop]
    exact k2.append k4
theorem opensFs_1 {f : Field} {fs : List Field} {o m : Nat} {α β : Type} {en1 : α → List PV} {ok1 : α → Prop} {en2 : β → List PV} {ok2 : β → Prop} (ho : f.offset = o) (h1 : Opens P f.type en1 ok1) (hk : P.cellsOf f.type = 1) (h2 : OpensFs P fs (o + 1) m en2 ok2) :
    OpensFs P (f :: fs) o (m + 1) (fun p : α × β => en1 p.1 ++ en2 p.2) (fun p => ok1 p.1 ∧ ok2 p.2) := by
  rw [Nat.add_comm m 1]; exact opensFs_cons ho hk h1 h2
theorem opens_struct {fs : Array Field} {m : Nat} {α : Type} {en : α → List PV} {ok : α → Prop} (ht : P.underlying t = some (.struct fs)) (hf : OpensFs P fs.toList 0 m en ok) (hc : P.cellsOf t = m) : Opens P t en ok := by
  intro H enc W fuel cs d pl h hw
  obtain ⟨xs, n, rfl, hx, h3, h4, h5⟩ := DataW.trod_struct ht h
  cases hx
  obtain ⟨y, k1, k2⟩ := hf H enc W n cs xs (by simpa using h4) (fun i f hf => h5 i f (by simpa using hf)) (fun z hz => hw z (by simpa only [DataW.weights, ht] using hz))
  refine ⟨y, k1, ?_⟩
  rwa [List.drop_zero, List.take_of_length_le (by omega)] at k2

/-- An argument. -/
def ArgOpens (P : Program) (t : TypeId) {α : Type} (pe : α → PV) (ok : α → Prop) : Prop :=
  ∀ (H : Type) (enc : TypeId × Value → H) (W : World) (base : Nat) (v : Value) (d : DataW H) (pl : List MemPlace), Value.okWide P W .any base t v → DataW.Trod enc P W 0 (fun _ => true) true t v d pl → (∀ n ∈ d.weights P t, n ≤ reachBytes) → ∃ y : α, ok y ∧ Rep (immW W) mu0 (pe y) v
theorem repL_one1 {Φ : Imm} {μ : Nat → Option Nat} {p : PV} {v : Value} (h : RepL Φ μ [p] [v]) : Rep Φ μ p v := h.2 0 p v rfl rfl
theorem arg_int {k : IntKind} (ht : P.underlying t = some (.int k)) : ArgOpens P t (fun z : Int => .val (.int k z)) (fun z => (Lit.int k z).wf = true) := by
  intro H enc W base v d pl hv ⟨fuel, h⟩ hw
  obtain ⟨z, rfl⟩ := okWide_int ht hv
  obtain ⟨y, k1, k2⟩ := opens_int ht H enc W fuel _ d pl h hw
  exact ⟨y, k1, repL_one1 k2⟩
theorem arg_str (ht : P.underlying t = some .string) : ArgOpens P t (fun z : ByteArray => .val (.string z)) (fun z => z.size ≤ reachBytes) := by
  intro H enc W base v d pl hv ⟨fuel, h⟩ hw
  obtain ⟨z, rfl⟩ := okWide_string ht hv
  obtain ⟨y, k1, k2⟩ := opens_str ht H enc W fuel _ d pl h hw
  exact ⟨y, k1, repL_one1 k2⟩
theorem arg_slice {α : Type} {pe : α → PV} {ok : α → Prop} (ht : P.underlying t = some (.slice e)) (h0 : Opens P t (fun x => [pe x]) ok) : ArgOpens P t pe ok := by
  intro H enc W base v d pl hv ⟨fuel, h⟩ hw
  obtain ⟨a, l, c, rfl⟩ := okWide_slice ht hv
  obtain ⟨y, k1, k2⟩ := h0 H enc W fuel _ d pl h hw
  exact ⟨y, k1, repL_one1 k2⟩
theorem arg_struct {fs : Array Field} {α : Type} {en : α → List PV} {ok : α → Prop} (ht : P.underlying t = some (.struct fs)) (h0 : Opens P t en ok) : ArgOpens P t (fun x => .agg (en x)) ok := by
  intro H enc W base v d pl hv ⟨fuel, h⟩ hw
  obtain ⟨cs, rfl, -⟩ := okWide_struct ht hv
  obtain ⟨y, k1, k2⟩ := h0 H enc W fuel _ d pl h hw
  refine ⟨y, k1, ?_⟩
  have := k2.agg
  simpa [Value.cells] using this
theorem ArgOpens.map {α β : Type} {pe : α → PV} {ok : α → Prop} (h : ArgOpens P t pe ok) (g : α → β) {pe' : β → PV} {ok' : β → Prop} (hen : ∀ a, ok a → pe' (g a) = pe a) (hok : ∀ a, ok a → ok' (g a)) : ArgOpens P t pe' ok' := by
  intro H enc W base v d pl h0 h1 h2
  obtain ⟨y, k1, k2⟩ := h H enc W base v d pl h0 h1 h2
  exact ⟨g y, hok y k1, by rw [hen y k1]; exact k2⟩

/-- All arguments. -/
def ArgsOpen (P : Program) (ts : List TypeId) {α : Type} (en : α → List PV) (ok : α → Prop) : Prop :=
  ∀ (H : Type) (enc : TypeId × Value → H) (W : World) (base : Nat) (vs : List Value) (ds : List (DataW H)) (pl : List MemPlace), (∀ (j : Nat) t v, ts[j]? = some t → vs[j]? = some v → Value.okWide P W .any base t v) → DataW.TrodAll enc P W 0 (fun _ => true) true ts vs ds pl →
    (∀ n ∈ DataW.weightsEach P ts ds, n ≤ reachBytes) → ds.length = ts.length ∧ ∃ y : α, ok y ∧ RepL (immW W) mu0 (en y) vs
theorem argsOpen_nil : ArgsOpen P [] (fun _ : Unit => []) (fun _ => True) := by
  intro H enc W base vs ds pl _ h _
  obtain ⟨rfl, rfl, rfl⟩ := trodAll_nil h
  exact ⟨rfl, (), trivial, RepL.nil⟩
theorem argsOpen_cons {ts : List TypeId} {α β : Type} {pe : α → PV} {ok1 : α → Prop} {en : β → List PV} {ok2 : β → Prop} (h1 : ArgOpens P t pe ok1) (h2 : ArgsOpen P ts en ok2) : ArgsOpen P (t :: ts) (fun p : α × β => pe p.1 :: en p.2) (fun p => ok1 p.1 ∧ ok2 p.2) := by
  intro H enc W base vs ds pl hv h hw
  match vs, ds, h with
  | v :: vs, d :: ds, h =>
    obtain ⟨p, q, g1, g2, -⟩ := h
    obtain ⟨y, k1, k2⟩ := h1 H enc W base v d p (hv 0 t v rfl rfl) g1 (fun z hz => hw z (by simp only [DataW.weightsEach, List.mem_append]; exact .inl hz))
    obtain ⟨hl, z, k3, k4⟩ := h2 H enc W base vs ds q (fun j t v e1 e2 => hv (j + 1) t v (by simpa using e1) (by simpa using e2)) g2 (fun z hz => hw z (by simp only [DataW.weightsEach, List.mem_append]; exact .inr hz))
    exact ⟨by simp [hl], (y, z), ⟨k1, k3⟩, RepL.cons k2 k4⟩
  | [], [], h => simp [DataW.TrodAll] at h
  | [], _ :: _, h => simp [DataW.TrodAll] at h
  | _ :: _, [], h => simp [DataW.TrodAll] at h
end

set_option maxRecDepth 100000 in
/-- A law's row: its contract over pure values is all that is wanted. -/
theorem law_lifted {f : FuncId} {fn : Func} {s : ChangeSpec} {conds : List PathCond} {tb : TypeId} {α : Type} {en : α → List PV} {ok : α → Prop} (os : Os) (started : os.Started) (H : Type) (enc : TypeId × Value → H) (hfn : Try.checked.prog.funcs[f]? = some fn) (noInit : Try.checked.prog.inits.idxOf? f = none)
    (witness : ∃ (w : World) (tape : Tape) (i : Input), w.os = os ∧ (w.forCall tape i).Shaped Try.checked.prog ∧ i.vars = [] ∧ Input.okWide Try.checked.prog (w.forCall tape i) .any w.heap.size f i ∧
      s.pre6 enc Try.checked.prog fn conds false (w.forCall tape i).memory i.args ∧ ({} : Assume).holds Try.checked.prog (lone (Frame.enter Try.checked.prog f i.args .normal) [] (w.forCall tape i)))
    (htb : Try.prog.underlying tb = some .bool) (hres : fn.resultTypes = #[tb]) (hvars : s.vars = []) (hread : fn.params.toList.all (fun t => Try.prog.readableRec t && decide (t < Try.prog.types.size)) = true)
    (hspec : ∀ ds : List (DataW H), ds.length = fn.params.size → (s.fn H (ds ++ [])).results = [.lit (.bool true)] ∧ (s.fn H (ds ++ [])).args = ds ∧ (s.fn H (ds ++ [])).vars = [])
    (hargs : ArgsOpen Try.prog fn.params.toList en ok) (hc : ∀ y, ok y → PCalls Try.prog f (en y) (· = pbool true)) (hgt : globTab = [] := by rfl) :
    ReturnsInHanded {} Try.checked os f .any (s.pre6 enc Try.prog fn conds false) (s.post enc Try.prog fn false true false false) := by
  refine returnsInHanded_of_change_sized (C := Try.checked) own started noInit hfn witness ?_
  intro W base args ds gs before hval0 hW _ hsz _
  have hval : ∀ (j : Nat) t v, fn.params[j]? = some t → args[j]? = some v → Value.okWide Try.prog W .any base t v := hval0
  have hW' := hW
  obtain ⟨p, q, hA, hV, rfl, _, _⟩ := hW
  rw [hvars] at hV
  obtain ⟨rfl, rfl⟩ := trodVars_none hV
  have hvt : s.plain.varTypes Try.prog = [] := by simp [ChangeSpec.plain, DataSpec.varTypes, hvars]
  rw [show s.plain.varTypes Try.checked.prog = [] from hvt, List.append_nil, List.append_nil, List.all_eq_true] at hsz
  obtain ⟨hl, y, hy, hr⟩ := hargs H enc W base args.toList ds p (fun j t v h1 h2 => hval j t v (by simpa using h1) (by simpa using h2)) hA (fun n hn => of_decide_eq_true (hsz n hn))
  obtain ⟨s1, s2, s3⟩ := hspec ds (by simpa using hl)
  have hcall := (hc y hy).2 (immW W) mu0 W args.toList (fun b o u h => h) (fun x hx => by rw [hgt] at hx; cases hx) hr
  rw [Array.toArray_toList] at hcall
  refine hcall.mono ?_
  rintro e W' ⟨r, v, Φ', rfl, rfl, hrep, -, -, hb, -⟩
  obtain ⟨rfl, -⟩ := hrep.val_inv
  exact ⟨_, rfl, post_law laidOut htb hres hvars hread hW' s1 s2 s3 hb⟩

set_option maxRecDepth 100000 in
/-- The same where the row lists tables. -/
theorem law_liftedL {f : FuncId} {fn : Func} {s : ChangeSpec} {conds : List PathCond} {tb : TypeId} {α : Type} {en : α → List PV} {ok : α → Prop} {laid : List (String × DataW Unit)} (os : Os) (started : os.Started) (H : Type) (enc : TypeId × Value → H) (hfn : Try.checked.prog.funcs[f]? = some fn) (noInit : Try.checked.prog.inits.idxOf? f = none)
    (witness : ∃ (w : World) (tape : Tape) (i : Input), w.os = os ∧ (w.forCall tape i).Shaped Try.checked.prog ∧ i.vars = [] ∧ Input.okWide Try.checked.prog (w.forCall tape i) .any w.heap.size f i ∧
      ((s.pre enc Try.checked.prog fn conds false (w.forCall tape i).memory i.args ∧ laidMetH Try.prog laid (w.forCall tape i).memory) ∧ sizedMet enc Try.checked.prog fn (OpenSpec.ofChange s) false (w.forCall tape i).memory i.args) ∧ ({} : Assume).holds Try.checked.prog (lone (Frame.enter Try.checked.prog f i.args .normal) [] (w.forCall tape i)))
    (htb : Try.prog.underlying tb = some .bool) (hres : fn.resultTypes = #[tb]) (hvars : s.vars = []) (hread : fn.params.toList.all (fun t => Try.prog.readableRec t && decide (t < Try.prog.types.size)) = true)
    (hspec : ∀ ds : List (DataW H), ds.length = fn.params.size → (s.fn H (ds ++ [])).results = [.lit (.bool true)] ∧ (s.fn H (ds ++ [])).args = ds ∧ (s.fn H (ds ++ [])).vars = [])
    (hargs : ArgsOpen Try.prog fn.params.toList en ok) (hc : ∀ y, ok y → PCalls Try.prog f (en y) (· = pbool true))
    (hglob : ∀ W, laidMetH Try.prog laid W → ∀ x ∈ globTab, ∀ j z, x.2.2[j]? = some z → W.cell? ⟨x.1, j, none⟩ = some (.int x.2.1 z)) :
    ReturnsInHanded {} Try.checked os f .any (fun w args => (s.pre enc Try.prog fn conds false w args ∧ laidMetH Try.prog laid w) ∧ sizedMet enc Try.prog fn (OpenSpec.ofChange s) false w args) (s.post enc Try.prog fn false true false false) := by
  refine returnsInHanded_of_change_and (C := Try.checked) (X := fun w _ => laidMetH Try.prog laid w) (fun _ _ _ hh h => h.of_heap hh) own started noInit hfn witness ?_
  intro W base args ds gs before hval0 hW _ hsz hL _
  have hval : ∀ (j : Nat) t v, fn.params[j]? = some t → args[j]? = some v → Value.okWide Try.prog W .any base t v := hval0
  have hW' := hW
  obtain ⟨p, q, hA, hV, rfl, _, _⟩ := hW
  rw [hvars] at hV
  obtain ⟨rfl, rfl⟩ := trodVars_none hV
  have hvt : s.plain.varTypes Try.prog = [] := by simp [ChangeSpec.plain, DataSpec.varTypes, hvars]
  rw [show s.plain.varTypes Try.checked.prog = [] from hvt, List.append_nil, List.append_nil, List.all_eq_true] at hsz
  obtain ⟨hl, y, hy, hr⟩ := hargs H enc W base args.toList ds p (fun j t v h1 h2 => hval j t v (by simpa using h1) (by simpa using h2)) hA (fun n hn => of_decide_eq_true (hsz n hn))
  obtain ⟨s1, s2, s3⟩ := hspec ds (by simpa using hl)
  have hcall := (hc y hy).2 (immW W) mu0 W args.toList (fun b o u h => h) (hglob W hL) hr
  rw [Array.toArray_toList] at hcall
  refine hcall.mono ?_
  rintro e W' ⟨r, v, Φ', rfl, rfl, hrep, -, -, hb, -⟩
  obtain ⟨rfl, -⟩ := hrep.val_inv
  exact ⟨_, rfl, post_law laidOut htb hres hvars hread hW' s1 s2 s3 hb⟩

/-- A listed table of integers: its cells. -/
theorem glob_of_reads {P : Program} {W : World} {n : String} {k : IntKind} {zs : List Int} {g : Nat} {t e : TypeId} {m : Nat} (hg : P.globalNamed n = some g) (hty : (P.globals[g]?).map (·.type) = some t) (ht : P.underlying t = some (.array m e)) (he : P.underlying e = some (.int k)) (hce : P.cellsOf e = 1) (hct : P.cellsOf t = m) (h : Lib.VarReads P W n (Lib.tabData k zs)) : ∀ j z, zs[j]? = some z → W.cell? ⟨g, j, none⟩ = some (.int k z) := by
  obtain ⟨g', t', cs, fuel, p, h1, h2, h3, h4⟩ := h
  obtain rfl := Option.some.inj (hg.symm.trans h1)
  obtain rfl := Option.some.inj (hty.symm.trans h2)
  have hc := Lib.cells_of_tab ht he hce hct h4
  intro j z hz
  have := World.var?_cell hg h3 j
  rw [this]
  have hcs : cs[j]? = cs.toList[j]? := by simp
  rw [hcs, hc]
  simp [hz]
end Go.Proofs.Ytilcpcpmkklobaa

/- The arguments of the laws of the disk, opened. -/
namespace Go.Proofs.Ytilcpcpmkklobaa
set_option linter.unusedSimpArgs false
set_option linter.unusedVariables false
set_option linter.unnecessarySimpa false
open Go.ChangeShapes Go.WideShapes Go.ChangeAt Go.RowKit

def FitI (z : Int) : Prop := -9223372036854775808 ≤ z ∧ z ≤ 9223372036854775807
theorem wfI {z : Int} (h : (Lit.int .i64 z).wf = true) : FitI z := by
  simp [Lit.wf, IntKind.min, IntKind.max, IntKind.signed, IntKind.bits] at h
  exact ⟨by omega, by omega⟩
theorem wfB {z : Int} (h : (Lit.int .u8 z).wf = true) : 0 ≤ z ∧ z < 256 := by
  simp [Lit.wf, IntKind.min, IntKind.max, IntKind.signed, IntKind.bits] at h
  exact ⟨by omega, by omega⟩
theorem wfW {z : Int} (h : (Lit.int .u16 z).wf = true) : 0 ≤ z ∧ z < 65536 := by
  simp [Lit.wf, IntKind.min, IntKind.max, IntKind.signed, IntKind.bits] at h
  exact ⟨by omega, by omega⟩
theorem flatMap_1 {α : Type} (f : α → PV) (l : List α) : l.flatMap (fun x => [f x]) = l.map f := by
  induction l with
  | nil => rfl
  | cons x l ih => simp [ih]
theorem opensI : Opens Try.prog 3 (fun z => [pint z]) FitI := (opens_int Try.underlying3).map id (fun _ _ => rfl) (fun _ h => wfI h)
theorem argI : ArgOpens Try.prog 3 pint FitI := (arg_int Try.underlying3).map id (fun _ _ => rfl) (fun _ h => wfI h)
theorem argB : ArgOpens Try.prog 5 pbyte (fun z => 0 ≤ z ∧ z < 256) := (arg_int Try.underlying5).map id (fun _ _ => rfl) (fun _ h => wfB h)
theorem argW : ArgOpens Try.prog 58 (fun z => .val (.int .u16 z)) (fun z => 0 ≤ z ∧ z < 65536) := (arg_int Try.underlying58).map id (fun _ _ => rfl) (fun _ h => wfW h)
theorem opensKeep : Opens Try.prog 41 (fun l => [pints l]) (fun l => (∀ z ∈ l, FitI z) ∧ l.length * 8 ≤ reachBytes) :=
  (opens_slice Try.underlying41 (by kernel_rfl) (by decide) (by kernel_rfl) opensI (fun _ _ => rfl)).map id (fun a _ => by show [pints a] = _; rw [flatMap_1]; rfl) (fun _ h => h)
theorem argKeep : ArgOpens Try.prog 41 pints (fun l => (∀ z ∈ l, FitI z) ∧ l.length * 8 ≤ reachBytes) := arg_slice Try.underlying41 opensKeep
theorem opensOp : Opens Try.prog 29 ropL (fun x => FitI x.kind ∧ FitI x.a ∧ FitI x.b) :=
  (opens_struct Try.underlying29 (opensFs_1 rfl opensI (by kernel_rfl) (opensFs_1 rfl opensI (by kernel_rfl) (opensFs_1 rfl opensI (by kernel_rfl) opensFs_nil))) (by kernel_rfl)).map
    (fun p => (⟨p.1, p.2.1, p.2.2.1⟩ : ROp)) (fun _ _ => rfl) (fun _ h => ⟨h.1, h.2.1, h.2.2.1⟩)
theorem opensOps : Opens Try.prog 22 (fun l => [props l]) (fun l => (∀ x ∈ l, FitI x.kind ∧ FitI x.a ∧ FitI x.b) ∧ l.length * 24 ≤ reachBytes) :=
  (opens_slice Try.underlying22 (by kernel_rfl) (by decide) (by kernel_rfl) opensOp (fun _ _ => rfl)).map id (fun a _ => rfl) (fun _ h => h)
theorem argOps : ArgOpens Try.prog 22 props (fun l => (∀ x ∈ l, FitI x.kind ∧ FitI x.a ∧ FitI x.b) ∧ l.length * 24 ≤ reachBytes) := arg_slice Try.underlying22 opensOps
theorem reachE : reachBytes = 140737488351232 := rfl
end Go.Proofs.Ytilcpcpmkklobaa
