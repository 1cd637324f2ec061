/- Merged: Kd, Lf, Lc, Ld, Ke, Lg, Lb, Lh, Le, Li, PwCut, Lj, Lk, Lm, Row, Opens, Opens2, Row24, Row24b. -/
import Derived.ProofKit
import Derived.OpenShut
import Derived.SizedLaws
import Derived.Deep.Slices
import Derived.Lib.LaidU8
import Derived.LaidMore
import Derived.LaidLaws
import Derived.Stop.Joined
import Derived.MakeChecks
import Derived.Test.YtilcpcpmkklobaaDoorB5
/- The journal's laws, without a program. -/
namespace Go.Proofs.YtilcpcpmkklobaaDoor
set_option linter.unusedSimpArgs false
set_option linter.unusedVariables false
set_option linter.unnecessarySimpa false
open Go.RowKit

theorem lastP_mem {q : Int} : ∀ {l : List PPut} {s : Sec}, lastP q l = some s → ∃ p ∈ l, p.sec = q
  | [], s, h => by cases h
  | p :: l, s, h => by
    rw [lastP] at h
    cases hl : lastP q l with
    | some t => obtain ⟨x, hx, e⟩ := lastP_mem hl; exact ⟨x, List.mem_cons_of_mem _ hx, e⟩
    | none =>
      rw [hl] at h
      simp only at h
      split at h
      · rename_i e; exact ⟨p, List.mem_cons_self .., e⟩
      · cases h
theorem doM_get : ∀ (l : List PPut) (d : List Sec), InD d.length l → ∀ q : Nat, q < d.length → (doM d l).getD q default = match lastP q l with | some s => s | none => d.getD q default
  | [], d, _, q, _ => rfl
  | p :: l, d, h, q, hq => by
    obtain ⟨p0, p1⟩ := h p (List.mem_cons_self ..)
    rw [doM, doM_get l (d.set p.sec.toNat p.dat) (fun x hx => by rw [List.length_set]; exact h x (List.mem_cons_of_mem _ hx)) q (by rw [List.length_set]; exact hq), lastP]
    cases lastP q l with
    | some s => rfl
    | none =>
      simp only
      by_cases e : p.sec = q
      · rw [if_pos e]
        simp only
        rw [List.getD_eq_getElem?_getD, List.getElem?_set, if_pos (by omega), if_pos (by omega)]; rfl
      · rw [if_neg e]
        simp only
        rw [List.getD_eq_getElem?_getD, List.getElem?_set, if_neg (by omega), ← List.getD_eq_getElem?_getD]

theorem jApE_zero {N at_ most : Int} {l : List PPut} (h : jApE N at_ most l = 0) : (l.length : Int) ≤ most ∧ (∀ p ∈ l, 0 ≤ p.sec ∧ p.sec < N ∧ (p.sec < at_ ∨ at_ + roomI most ≤ p.sec)) := by
  unfold jApE at h
  split at h
  · cases h
  · rename_i h1
    split at h
    · cases h
    · rename_i h2
      refine ⟨by omega, fun p hp => ?_⟩
      have h3 : badP N at_ most p = false := by
        cases hb : badP N at_ most p with
        | false => rfl
        | true => exact absurd (List.any_eq_true.2 ⟨p, hp, hb⟩) h2
      simp only [badP, decide_eq_false_iff_not, not_or] at h3
      omega

/-- An Apply without an error of some elements. -/
theorem OkD.applied {N k : Nat} {D : DM} (h : OkD N k D) {at_ most : Int} (h0 : 0 ≤ at_) (m0 : 1 ≤ most) (m1 : most ≤ 1024) (hN : at_ + roomI most ≤ N) (hk : k + 10000 ≤ 100000000) {l : List PPut} (he : jApE N at_ most l = 0) : OkD N (k + 5000) (D.applied at_ most l) ∧ (D.applied at_ most l).steps = D.steps + 2 * l.length + numbersI l.length + 6 ∧ (D.applied at_ most l).op = [] ∧ (D.applied at_ most l).read at_ = (emptyHead, 0) ∧
    ∀ q : Int, 0 ≤ q → q < N → (q < at_ ∨ at_ + roomI most ≤ q) → (D.applied at_ most l).read q = match lastP q l with | some s => (s, 0) | none => D.read q := by
  obtain ⟨e1, e2⟩ := jApE_zero he
  have hrn : roomI most = 1 + numbersI most + most := by unfold roomI; rw [if_neg (by omega)]
  have hnb : numbersI l.length ≤ 64 ∧ 0 ≤ numbersI l.length ∧ 0 ≤ numbersI most := by unfold numbersI; omega
  obtain ⟨al, ai⟩ := area_in l h0 m0 m1 hN e1
  have hai : InD N (areaJ at_ most l) := fun p hp => by have := ai p hp; omega
  have hin : InD N l := fun p hp => by have := e2 p hp; omega
  have hat : at_ < N := by omega
  obtain ⟨f1, f2, f3, f4⟩ := h.four h0 hat (areaJ at_ most l) hai (by omega) (fullHead l)
  obtain ⟨g1, g2, g3, g4⟩ := f1.four h0 hat l hin (by omega) emptyHead
  refine ⟨g1.mono (by omega), ?_, g3, ?_, fun q q0 q1 qo => ?_⟩
  · rw [DM.applied, g2, f2]; omega
  · rw [DM.applied, g4 at_ h0 hat, if_pos rfl]
  · rw [DM.applied, g4 q q0 q1, if_neg (by omega)]
    cases lastP q l with
    | some s => rfl
    | none =>
      simp only
      rw [f4 q q0 q1, if_neg (by omega)]
      have : lastP q (areaJ at_ most l) = none := lastP_none fun p hp e => by have := ai p hp; omega
      rw [this]

/-- A disk with a journal at rest: outside of its area it has what the model has. -/
structure JInv (N k : Nat) (at_ most : Int) (D : DM) (M : List Sec) : Prop where
  ok : OkD N k D
  op : D.op = []
  len : M.length = N
  head : HeadOK D at_
  out : ∀ q : Nat, q < N → ((q : Int) < at_ ∨ at_ + roomI most ≤ q) → D.read q = (M.getD q default, 0)
theorem JInv.mono {N k k' : Nat} {at_ most : Int} {D : DM} {M : List Sec} (h : JInv N k at_ most D M) (hk : k ≤ k') : JInv N k' at_ most D M := ⟨h.ok.mono hk, h.op, h.len, h.head, h.out⟩
theorem emptyHead_ok : emptyHead.1.getD 0 0 = 0 ∧ emptyHead.1.getD 1 0 = 0 := ⟨rfl, rfl⟩
theorem JInv.apply {N k : Nat} {at_ most : Int} {D : DM} {M : List Sec} (h : JInv N k at_ most D M) (hb : liesB N at_ most = true) (hk : k + 10000 ≤ 100000000) (l : List PPut) : JInv N (k + 5000) at_ most (D.apply N at_ most l) (if jApE N at_ most l = 0 then doM M l else M) := by
  simp only [liesB, decide_eq_true_eq] at hb
  obtain ⟨m0, m1, h0, hN⟩ := hb
  by_cases he : jApE N at_ most l = 0
  · rw [if_pos he]
    by_cases hl : 0 < l.length
    · rw [DM.apply, if_pos ⟨he, hl⟩]
      obtain ⟨a1, a2, a3, a4, a5⟩ := h.ok.applied h0 m0 m1 hN hk he
      obtain ⟨e1, e2⟩ := jApE_zero he
      refine ⟨a1, a3, by rw [doM_len, h.len], .inr ⟨by rw [a4], by rw [a4]; exact emptyHead_ok.1, by rw [a4]; exact emptyHead_ok.2⟩, fun q hq ho => ?_⟩
      rw [a5 q (by omega) (by omega) ho, doM_get l M (fun p hp => by have := e2 p hp; rw [h.len]; omega) q (by rw [h.len]; exact hq)]
      cases lastP q l with
      | some s => rfl
      | none => exact h.out q hq ho
    · have : l = [] := List.eq_nil_of_length_eq_zero (by omega)
      subst this
      rw [DM.apply, if_neg (fun h => by simp at h)]
      exact h.mono (by omega)
  · rw [if_neg he, DM.apply, if_neg (fun h => he h.1)]
    exact h.mono (by omega)
theorem JInv.new (N : Nat) (at_ most : Int) (hb : liesB N at_ most = true) : JInv N 0 at_ most (newD N) (List.replicate N zeroSec) := by
  simp only [liesB, decide_eq_true_eq] at hb
  obtain ⟨m0, m1, h0, hN⟩ := hb
  have hrr : 0 < roomI most := by unfold roomI numbersI; rw [if_neg (by omega)]; omega
  have hr : ∀ q : Int, 0 ≤ q → q < N → (newD N).read q = (zeroSec, 0) := by
    intro q q0 q1
    rw [(newD_ok N).read q0 q1]
    have e1 : (newD N).get q = [] := rfl
    have e2 : (newD N).cell q = ⟨zeroSec, false⟩ := by
      unfold DM.cell newD
      rw [List.getD_eq_getElem?_getD, List.getElem?_replicate, if_pos (by omega)]; rfl
    rw [e1, e2]; rfl
  refine ⟨newD_ok N, rfl, List.length_replicate .., .inr ?_, fun q hq ho => ?_⟩
  · rw [hr at_ h0 (by omega)]; exact ⟨rfl, rfl, rfl⟩
  · rw [hr q (by omega) (by omega), List.getD_eq_getElem?_getD, List.getElem?_replicate, if_pos hq]; rfl
theorem JInv.rot {N k : Nat} {at_ most : Int} {D : DM} {M : List Sec} (h : JInv N k at_ most D M) (h0 : 0 ≤ at_) (hN : at_ + roomI most ≤ N) {r : Int} (r0 : 0 ≤ r) (r1 : r < roomI most) : JInv N k at_ most (D.rot (at_ + r)) M := by
  obtain ⟨c1, c2, c3⟩ := h.ok.rot (at_ + r)
  have hrd : ∀ q : Int, 0 ≤ q → q < N → (D.rot (at_ + r)).read q = if q = at_ + r then (zeroSec, 221) else D.read q := fun q q0 q1 => h.ok.read_rot h.op (by omega) (by omega) q0 q1
  refine ⟨c1, c2.trans h.op, h.len, ?_, fun q hq ho => ?_⟩
  · unfold HeadOK
    rw [hrd at_ h0 (by omega)]
    split
    · exact .inl rfl
    · exact h.head
  · rw [hrd q (by omega) (by omega), if_neg (by omega)]; exact h.out q hq ho
theorem JInv.opened {N k : Nat} {at_ most : Int} {D : DM} {M : List Sec} (h : JInv N k at_ most D M) (hb : liesB N at_ most = true) (hk : k + 10000 ≤ 100000000) : JInv N (k + 3) at_ most (D.opened at_) M := by
  simp only [liesB, decide_eq_true_eq] at hb
  obtain ⟨m0, m1, h0, hN⟩ := hb
  have hrr : 0 < roomI most := by unfold roomI numbersI; rw [if_neg (by omega)]; omega
  unfold DM.opened
  split
  · obtain ⟨a1, a2, a3⟩ := h.ok.two h0 (by omega) (by omega) emptyHead
    refine ⟨a1, a2, h.len, .inr ?_, fun q hq ho => ?_⟩
    · rw [a3 at_ h0 (by omega), if_pos rfl]; exact ⟨rfl, emptyHead_ok.1, emptyHead_ok.2⟩
    · rw [a3 q (by omega) (by omega), if_neg (by omega)]; exact h.out q hq ho
  · exact h.mono (by omega)
theorem JInv.has {N k : Nat} {at_ most : Int} {D : DM} {M : List Sec} (h : JInv N k at_ most D M) : hasB D at_ most M = true := by
  refine hasB_true fun i hi => ?_
  unfold hasAt
  by_cases ho : (i : Int) < at_ ∨ at_ + roomI most ≤ i
  · rw [h.out i (by rw [← h.len]; exact hi) ho]
    simp
  · rw [decide_eq_true]; rfl
    omega
end Go.Proofs.YtilcpcpmkklobaaDoor

/- The journal whose disk fails: the change that the area has is read. -/
namespace Go.Proofs.YtilcpcpmkklobaaDoor
set_option linter.unusedSimpArgs false
set_option linter.unusedVariables false
set_option linter.unnecessarySimpa false
open Go.RowKit

/-- A number's lower bytes. -/
def accB (z : Int) (e : Nat) : Int := ((z.toNat % 2 ^ (8 * e) : Nat) : Int)
def byteB (z : Int) (e : Nat) : Int := IntKind.u8.wrap (z.fdiv (2 ^ min (8 * e) 64))
theorem byteB_eq (z : Int) (h0 : 0 ≤ z) (e : Nat) (he : e < 4) : byteB z e = ((z.toNat / 2 ^ (8 * e) % 256 : Nat) : Int) := by
  obtain ⟨n, rfl⟩ : ∃ n : Nat, z = n := ⟨z.toNat, by omega⟩
  unfold byteB
  rw [IntKind.wrap_u8, Nat.min_eq_left (by omega), Int.fdiv_eq_ediv_of_nonneg _ (by exact Int.le_of_lt (Int.pow_pos (by decide))), Int.toNat_natCast]
  have : ((2 : Int) ^ (8 * e)) = ((2 ^ (8 * e) : Nat) : Int) := by simp
  rw [this]
  omega
theorem accB_succ (z : Int) (h0 : 0 ≤ z) (e : Nat) (he : e < 4) : accB z (e + 1) = accB z e + byteB z e * ((2 ^ (8 * e) : Nat) : Int) := by
  rw [byteB_eq z h0 e he]
  unfold accB
  have h1 : 2 ^ (8 * (e + 1)) = 2 ^ (8 * e) * 256 := by rw [Nat.mul_add, Nat.pow_add]
  rw [h1, Nat.mod_mul]
  generalize 2 ^ (8 * e) = P
  rw [Int.natCast_add, Int.natCast_mul, Int.mul_comm]
theorem accB_4 (z : Int) (h0 : 0 ≤ z) (h1 : z < 4294967296) : accB z 4 = z := by
  unfold accB
  rw [Nat.mod_eq_of_lt]
  · omega
  · show z.toNat < 2 ^ 32
    omega
theorem or_byte (a b e : Nat) (he : e < 4) (ha : a < 2 ^ (8 * e)) (hb : b < 256) : IntKind.i64.wrap (((BitVec.ofInt 64 (a : Int) ||| BitVec.ofInt 64 ((b * 2 ^ (8 * e) : Nat) : Int)).toNat : Nat) : Int) = ((a + b * 2 ^ (8 * e) : Nat) : Int) := by
  have hP : 2 ^ (8 * e) ≤ 2 ^ 24 := Nat.pow_le_pow_right (by decide) (by omega)
  have hbP : b * 2 ^ (8 * e) ≤ 255 * 2 ^ 24 := Nat.mul_le_mul (by omega) hP
  have e1 : (BitVec.ofInt 64 (a : Int) ||| BitVec.ofInt 64 ((b * 2 ^ (8 * e) : Nat) : Int)).toNat = a ||| b * 2 ^ (8 * e) := by
    rw [BitVec.toNat_or, BitVec.ofInt_natCast, BitVec.ofInt_natCast, BitVec.toNat_ofNat, BitVec.toNat_ofNat, Nat.mod_eq_of_lt (by omega), Nat.mod_eq_of_lt (by omega)]
  have e2 : a ||| b * 2 ^ (8 * e) = a + b * 2 ^ (8 * e) := by
    have := Nat.shiftLeft_add_eq_or_of_lt ha b
    rw [Nat.shiftLeft_eq] at this
    rw [Nat.or_comm, ← this, Nat.add_comm]
  rw [e1, e2]
  exact wrap64_id (by omega) (by omega)
theorem accB_or (z : Int) (h0 : 0 ≤ z) (e : Nat) (he : e < 4) : IntKind.i64.wrap (((BitVec.ofInt 64 (accB z e) ||| BitVec.ofInt 64 (byteB z e * ((2 ^ (8 * e) : Nat) : Int))).toNat : Nat) : Int) = accB z (e + 1) := by
  rw [accB_succ z h0 e he, byteB_eq z h0 e he]
  unfold accB
  have h1 := Nat.mod_lt z.toNat (Nat.pow_pos (n := 8 * e) (show 0 < 2 by decide))
  have h2 := Nat.mod_lt (z.toNat / 2 ^ (8 * e)) (show 0 < 256 by decide)
  have h3 := or_byte (z.toNat % 2 ^ (8 * e)) (z.toNat / 2 ^ (8 * e) % 256) e he h1 h2
  rw [← Int.natCast_mul, h3, Int.natCast_add]
theorem byteB_shl (z : Int) (h0 : 0 ≤ z) (e : Nat) (he : e < 4) : IntKind.i64.wrap (byteB z e * 2 ^ min (8 * (e : Int)).toNat (IntKind.bits .i64)) = byteB z e * ((2 ^ (8 * e) : Nat) : Int) := by
  have hb := byteB_eq z h0 e he
  have h2 := Nat.mod_lt (z.toNat / 2 ^ (8 * e)) (show 0 < 256 by decide)
  have hP : 2 ^ (8 * e) ≤ 2 ^ 24 := Nat.pow_le_pow_right (by decide) (by omega)
  have e1 : min (8 * (e : Int)).toNat (IntKind.bits .i64) = 8 * e := by
    show min (8 * (e : Int)).toNat 64 = 8 * e
    omega
  have e2 : ((2 : Int) ^ (8 * e)) = ((2 ^ (8 * e) : Nat) : Int) := by simp
  rw [e1, e2, hb, ← Int.natCast_mul]
  generalize z.toNat / 2 ^ (8 * e) % 256 = b at *
  have hbP : b * 2 ^ (8 * e) ≤ 255 * 2 ^ 24 := Nat.mul_le_mul (by omega) hP
  exact wrap64_id (by omega) (by omega)

/-- What the rows of numbers have in the end. -/
theorem rowsT_byte (l : List PPut) (R : Nat) : ∀ (T : Nat), T ≤ 64 * R → ∀ t, t < T → ((rowsT l R T).getD (t / 64) default).1.getD (t % 64) 0 = byteB (l.getD (t / 4) default).sec (t % 4)
  | 0, _, t, h => absurd h (by omega)
  | T + 1, hT, t, h => by
    have hR : T / 64 < R := by omega
    rw [rowsT, gset (by rw [rowsT_len]; exact hR)]
    by_cases e : t = T
    · subst e
      rw [if_pos rfl]
      unfold setB
      rw [gset (by rw [(_ : Sec).2.1]; omega), if_pos rfl]
      rfl
    · have ih := rowsT_byte l R T (by omega) t (by omega)
      by_cases c : t / 64 = T / 64
      · rw [if_pos c]
        unfold setB
        rw [gset (by rw [(_ : Sec).2.1]; omega), if_neg (by omega), ← c]
        exact ih
      · rw [if_neg c]; exact ih
theorem area_data {D : DM} {at_ most : Int} {l : List PPut} (h : ∀ p ∈ areaJ at_ most l, D.read p.sec = (p.dat, 0)) {i : Nat} (hi : i < l.length) : D.read (at_ + 1 + numbersI most + i) = ((l.getD i default).dat, 0) := by
  have h1 := h ⟨at_ + 1 + numbersI most + i, (l.getD i default).dat⟩ (by
    rw [areaJ]
    exact List.mem_append.2 (.inl (List.mem_map.2 ⟨i, List.mem_range.2 hi, rfl⟩)))
  exact h1
theorem area_rows {D : DM} {at_ most : Int} {l : List PPut} (h : ∀ p ∈ areaJ at_ most l, D.read p.sec = (p.dat, 0)) {i : Nat} (hi : i < l.length) : ∃ s : Sec, D.read (at_ + 1 + (i : Int) / 16) = (s, 0) ∧ ∀ e, e < 4 → s.1.getD (i % 16 * 4 + e) 0 = byteB (l.getD i default).sec e := by
  have hR : (numbersI l.length).toNat = (l.length + 15) / 16 := by unfold numbersI; omega
  have h1 := h ⟨at_ + 1 + ((i / 16 : Nat) : Int), (rowsT l (numbersI l.length).toNat (4 * l.length)).getD (i / 16) default⟩ (by
    rw [areaJ]
    refine List.mem_append.2 (.inr (List.mem_map.2 ⟨i / 16, List.mem_range.2 ?_, rfl⟩))
    rw [rowsT_len, hR]; omega)
  refine ⟨_, h1, fun e he => ?_⟩
  have h2 := rowsT_byte l (numbersI l.length).toNat (4 * l.length) (by rw [hR]; omega) (4 * i + e) (by omega)
  rw [show (4 * i + e) / 64 = i / 16 by omega, show (4 * i + e) % 64 = i % 16 * 4 + e by omega, show (4 * i + e) / 4 = i by omega, show (4 * i + e) % 4 = e by omega] at h2
  exact h2
end Go.Proofs.YtilcpcpmkklobaaDoor

/- The journal whose disk fails: put, head. -/
namespace Go.Proofs.YtilcpcpmkklobaaDoor
set_option linter.unusedSimpArgs false
set_option linter.unusedVariables false
set_option linter.unnecessarySimpa false
open Go.RowKit

theorem run_err {D : DM} {a : List DOp} (b : List DOp) (h : (D.run a).1 ≠ 0) : D.run (a ++ b) = D.run a := by rw [run_append, if_neg h]
theorem run_ok {D : DM} {a : List DOp} (b : List DOp) (h : (D.run a).1 = 0) : D.run (a ++ b) = (D.run a).2.run b := by rw [run_append, if_pos h]
theorem wops_take (l : List PPut) (i : Nat) (h : i < l.length) : wops (l.take (i + 1)) = wops (l.take i) ++ [.w (l.getD i default).sec (l.getD i default).dat] := by
  rw [take_getD default h, wops, List.map_append]; rfl
theorem wops_cut (l : List PPut) (i : Nat) : wops l = wops (l.take i) ++ wops (l.drop i) := by
  rw [wops, wops, wops, ← List.map_append, List.take_append_drop]
theorem GoD.fit {N k : Nat} {D : DM} (h : GoD N k D) (hk : k ≤ 1000000000) : (0 ≤ D.steps ∧ D.steps ≤ 1000000000 ∧ -1 ≤ D.after) ∧ D.after ≤ 9223372036854775807 ∧ ∀ e ∈ D.op, e.2.2.length ≤ 1000000000 := by
  have h1 := h.steps
  have h2 := h.after
  exact ⟨by omega, by omega, fun e he => by have := h.room e he; omega⟩

set_option maxRecDepth 10000 in
set_option maxHeartbeats 2000000 in
theorem jd_putS1 (at_ most : Int) {n k : Nat} {D : DM} (h : GoD n k D) (l : List PPut) (hi : InD n l) (hk : k + l.length ≤ 100000000) : HCalls Tryd.prog 40 [.ptr 1000006 0, .ptr 1000005 0] ((1000005, [.ptr 1000004 0]) :: (1000006, [pputs l]) :: jG 1000001 1000002 1000003 1000004 at_ most D) (dMs 1000003 D) (pint (D.run (wops l)).1) ((1000005, [.ptr 1000004 0]) :: (1000006, [pputs l]) :: jG 1000001 1000002 1000003 1000004 at_ most (D.run (wops l)).2) (dMs 1000003 (D.run (wops l)).2) := by
  refine hcalls_of_pw typeTab_ok Tryd.func40 rfl rfl (by simp [PV.ownB]) (Nat.le_of_ble_eq_true rfl) (by simp [ResIds, jG, dG, dMs]) (by simp [ResIds, jG, dG, dMs]) (by exact hok0) ?_
  have hlow : ∀ i, ∀ c ∈ dC (D.run (wops (l.take i))).2, Low c := fun i => dC_low _
  have hlowm : ∀ i, ∀ e ∈ (D.run (wops (l.take i))).2.op.map dE, Low e.2.1 ∧ Low e.2.2 := fun i => dM_low _
  have h00 : D = (D.run (wops (l.take 0))).2 := rfl
  have hll := low_pputs l
  refine wk ?_
  refine PW.loop (fun i : Nat => ((((((((((bot.setb 1000005 [.ptr 1000004 0]).setb 1000006 [pputs l]).setb 1000004 (jB 1000001 at_ most)).setb 1000001 (dB 1000002 1000003 (D.run (wops (l.take i))).2)).setb 1000002 (dC (D.run (wops (l.take i))).2)).setm 1000003 (dM (D.run (wops (l.take i))).2)).put 0 (.ptr 1000006 0)).put 1 (.ptr 1000005 0)).put 6 (pputs l)).put 7 (pint l.length)).put 8 (pint i)) (fun i => i ≤ l.length ∧ (D.run (wops (l.take i))).1 = 0) (fun i => l.length - i) 0 ⟨by omega, rfl⟩ ?_ ?_
  · have h1 := hlow 0
    have h2 := hlowm 0
    exact sb
  · intro i ⟨hil, hz⟩
    have hti : (l.take i).length = i := by rw [List.length_take]; omega
    obtain ⟨o1, -⟩ := GoD.run (wops (l.take i)) h (wops_in (fun p hp => hi p (List.mem_of_mem_take hp))) (by rw [wops_len]; omega)
    rw [wops_len, hti] at o1
    by_cases hlt : i < l.length
    · have hnx := wops_take l i hlt
      have hpm : l.getD i default ∈ l := by rw [List.getD_eq_getElem?_getD, List.getElem?_eq_getElem hlt]; exact List.getElem_mem hlt
      obtain ⟨f1, f2, f3⟩ := o1.fit (by omega)
      have hw := dc_Write (D.run (wops (l.take i))).2 (l.getD i default).sec (l.getD i default).dat f1 f2 f3 1000001 1000002 1000003 (by decide)
      have hD2 : D.run (wops (l.take (i + 1))) = (D.run (wops (l.take i))).2.write (l.getD i default).sec (l.getD i default).dat := by rw [hnx, run_ok _ hz, run_one]; rfl
      rw [← hD2] at hw
      have h1 := hlow (i + 1)
      have h2 := hlowm (i + 1)
      by_cases hz2 : (D.run (wops (l.take (i + 1)))).1 = 0
      · rw [hz2] at hw
        clear hlow hlowm hD2 o1 f1 f2 f3 hnx
        generalize hE2 : (D.run (wops (l.take (i + 1)))).2 = D2 at *
        generalize (D.run (wops (l.take i))).2 = D1 at *
        refine wk ?_
        generalize l.getD i default = p at *
        refine PWops.ldBA (row := secL p.dat) rfl rfl rfl rfl rfl rfl rfl (by rw [putL_len]; decide) (by show List.map PV.bare (List.take 64 (secL p.dat)) = secL p.dat; rw [List.take_of_length_le (by rw [secL_len]; omega), secL_bare]) ?_
        refine wk ?_
        refine loopP (i + 1) ⟨by omega, hz2⟩ (by show l.length - (i + 1) < l.length - i; omega) ?_
        dsimp only
        rw [hE2]
        exact sb
      · have hfin : D.run (wops l) = D.run (wops (l.take (i + 1))) := by rw [wops_cut l (i + 1), run_err _ hz2]
        rw [hfin]
        clear hlow hlowm hD2 o1 f1 f2 f3 hnx hfin
        generalize D.run (wops (l.take (i + 1))) = R at *
        generalize (D.run (wops (l.take i))).2 = D1 at *
        obtain ⟨e, D2⟩ := R
        simp only at *
        refine wk ?_
        generalize l.getD i default = p at *
        refine PWops.ldBA (row := secL p.dat) rfl rfl rfl rfl rfl rfl rfl (by rw [putL_len]; decide) (by show List.map PV.bare (List.take 64 (secL p.dat)) = secL p.dat; rw [List.take_of_length_le (by rw [secL_len]; omega), secL_bare]) ?_
        refine wk ?_
        exact RetH.mk rfl (Weak.refl _) ⟨⟨_, rfl, WeakL.refl _⟩, ⟨_, rfl, WeakL.refl _⟩, ⟨_, rfl, WeakL.refl _⟩, ⟨_, rfl, WeakL.refl _⟩, ⟨_, rfl, WeakL.refl _⟩, trivial⟩ ⟨⟨rfl, rfl⟩, trivial⟩
    · have e : i = l.length := by omega
      subst e
      rw [List.take_length] at hz ⊢
      rw [hz]
      refine wk ?_
      exact RetH.mk rfl (Weak.refl _) ⟨⟨_, rfl, WeakL.refl _⟩, ⟨_, rfl, WeakL.refl _⟩, ⟨_, rfl, WeakL.refl _⟩, ⟨_, rfl, WeakL.refl _⟩, ⟨_, rfl, WeakL.refl _⟩, trivial⟩ ⟨⟨rfl, rfl⟩, trivial⟩
theorem jd_putS {n k : Nat} {D : DM} (at_ most : Int) (h : GoD n k D) (l : List PPut) (hi : InD n l) (hk : k + l.length ≤ 100000000) (d c m j b0 b1 : Nat) (hd : ([d, c, m, j, b0, b1] : List Nat).Nodup) : HCalls Tryd.prog 40 [.ptr b1 0, .ptr b0 0] ((b0, [.ptr j 0]) :: (b1, [pputs l]) :: jG d c m j at_ most D) (dMs m D) (pint (D.run (wops l)).1) ((b0, [.ptr j 0]) :: (b1, [pputs l]) :: jG d c m j at_ most (D.run (wops l)).2) (dMs m (D.run (wops l)).2) := by
  refine (jd_putS1 at_ most h l hi hk).at (ids4 d c m j ++ [(1000005, b0), (1000006, b1)]) (by simpa [ids4] using hd) (by simp [ResIds, jG, dG, dMs, ids4]) (by simp [jG, dG]) (by simp [dMs]) ?_ ?_ ?_ ?_ ?_ ?_ <;> exact ren0

set_option maxRecDepth 10000 in
set_option maxHeartbeats 2000000 in
theorem jd_headS1 (most : Int) {N k : Nat} {D : DM} (h : GoD N k D) (at_ n : Int) (hk : k < 100000000) (n0 : 0 ≤ n) (n1 : n < 65536) (G : List Int) (hG : G.length = 16) (hr : ∀ x ∈ G, 0 ≤ x ∧ x < 256) : HCalls Tryd.prog 43 [.ptr 1000006 0, .ptr 1000007 0, .ptr 1000005 0] ((1000005, [.ptr 1000004 0]) :: (1000006, [pint n]) :: (1000007, G.map pbyte) :: jG 1000001 1000002 1000003 1000004 at_ most D) (dMs 1000003 D) (pint (D.write at_ (headSec n G hG hr)).1) ((1000005, [.ptr 1000004 0]) :: (1000006, [pint n]) :: (1000007, G.map pbyte) :: jG 1000001 1000002 1000003 1000004 at_ most (D.write at_ (headSec n G hG hr)).2) (dMs 1000003 (D.write at_ (headSec n G hG hr)).2) := by
  have hlG : ∀ c ∈ G.map pbyte, Low c := low_map (fun _ => Low.val _) _
  have hl1 := dC_low D
  have hl2 := dM_low D
  have hl3 := dC_low (D.write at_ (headSec n G hG hr)).2
  have hl4 := dM_low (D.write at_ (headSec n G hG hr)).2
  have hoG := ows_pb G
  refine hcalls_of_pw typeTab_ok Tryd.func43 rfl rfl (by simp [PV.ownB]) (Nat.le_of_ble_eq_true rfl) (by simp [ResIds, jG, dG, dMs]) (by simp [ResIds, jG, dG, dMs]) (by exact hok0) ?_
  obtain ⟨f1, f2, f3⟩ := h.fit (by omega)
  have hw := dc_Write D at_ (headSec n G hG hr) f1 f2 f3 1000001 1000002 1000003 (by decide)
  refine wg ?_
  refine PW.region typeTab_ok (by kernel_rfl) ?_
  refine wg ?_
  refine PW.region typeTab_ok (by kernel_rfl) ?_
  refine wg ?_
  refine PW.drawE typeTab_ok (by kernel_rfl) (by kernel_rfl) (by kernel_rfl) ?_
  refine wk ?_
  refine PWops.copy (n2 := 16) (cs := G.map pbyte) (out := secL (headSec n G hG hr)) rfl rfl rfl rfl rfl ?_ rfl rfl rfl ?_ ?_ ?_ ?_
  · show (if 0 + 0 * 1 + (16 - 0) * 1 ≤ (G.map pbyte).length then some (16 - 0, (((G.map pbyte).drop (0 + 0 * 1)).take ((16 - 0) * 1)).map PV.bare) else none) = _
    rw [if_pos (by simp [hG])]
    show some (16, List.map PV.bare (List.take 16 (G.map pbyte))) = _
    rw [List.take_of_length_le (by simp [hG]), List.map_map]; rfl
  · exact Nat.le_of_ble_eq_true rfl
  · rw [List.length_map, hG]; decide
  · exact splice_head n G hG hr
  generalize headSec n G hG hr = g at *
  refine wk ?_
  exact RetH.mk rfl (Weak.refl _) ⟨⟨_, rfl, WeakL.refl _⟩, ⟨_, rfl, WeakL.refl _⟩, ⟨_, rfl, WeakL.refl _⟩, ⟨_, rfl, WeakL.refl _⟩, ⟨_, rfl, WeakL.refl _⟩, ⟨_, rfl, WeakL.refl _⟩, trivial⟩ ⟨⟨rfl, rfl⟩, trivial⟩
theorem jd_headS {N k : Nat} {D : DM} (h : GoD N k D) (at_ most n : Int) (hk : k < 100000000) (n0 : 0 ≤ n) (n1 : n < 65536) (G : List Int) (hG : G.length = 16) (hr : ∀ x ∈ G, 0 ≤ x ∧ x < 256) (d c m j b0 b1 b2 : Nat) (hd : ([d, c, m, j, b0, b1, b2] : List Nat).Nodup) : HCalls Tryd.prog 43 [.ptr b1 0, .ptr b2 0, .ptr b0 0] ((b0, [.ptr j 0]) :: (b1, [pint n]) :: (b2, G.map pbyte) :: jG d c m j at_ most D) (dMs m D) (pint (D.write at_ (headSec n G hG hr)).1) ((b0, [.ptr j 0]) :: (b1, [pint n]) :: (b2, G.map pbyte) :: jG d c m j at_ most (D.write at_ (headSec n G hG hr)).2) (dMs m (D.write at_ (headSec n G hG hr)).2) := by
  have hl : ∀ c ∈ G.map pbyte, Low c := low_map (fun _ => Low.val _) _
  refine (jd_headS1 most h at_ n hk n0 n1 G hG hr).at (ids4 d c m j ++ [(1000005, b0), (1000006, b1), (1000007, b2)]) (by simpa [ids4] using hd) (by simp [ResIds, jG, dG, dMs, ids4]) (by simp [jG, dG]) (by simp [dMs]) ?_ ?_ ?_ ?_ ?_ ?_
  all_goals exact ren0
end Go.Proofs.YtilcpcpmkklobaaDoor

/- The journal whose disk fails: steps one after the other. -/
namespace Go.Proofs.YtilcpcpmkklobaaDoor
set_option linter.unusedSimpArgs false
set_option linter.unusedVariables false
set_option linter.unnecessarySimpa false
open Go.RowKit

theorem four_run (D : DM) (at_ : Int) (l : List PPut) (g : Sec) {X1 X2 X3 X4 : Int × DM} (h1 : D.run (wops l) = X1) (h2 : X1.2.sync = X2) (h3 : X2.2.write at_ g = X3) (h4 : X3.2.sync = X4) : D.run (fourO at_ l g) = if X1.1 = 0 then (if X2.1 = 0 then (if X3.1 = 0 then X4 else X3) else X2) else X1 := by
  subst h4; subst h3; subst h2; subst h1
  rw [fourO, run_append]
  by_cases c1 : (D.run (wops l)).1 = 0
  · rw [if_pos c1, if_pos c1, DM.run]
    show (if (D.run (wops l)).2.sync.1 = 0 then DM.run (D.run (wops l)).2.sync.2 [.w at_ g, .sync] else (D.run (wops l)).2.sync) = _
    generalize (D.run (wops l)).2.sync = X2
    by_cases c2 : X2.1 = 0
    · rw [if_pos c2, if_pos c2, DM.run]
      show (if (X2.2.write at_ g).1 = 0 then DM.run (X2.2.write at_ g).2 [.sync] else X2.2.write at_ g) = _
      rw [run_one]; rfl
    · rw [if_neg c2, if_neg c2]
  · rw [if_neg c1, if_neg c1]
theorem two_run (D : DM) (at_ : Int) {X3 X4 : Int × DM} (h3 : D.write at_ emptyHead = X3) (h4 : X3.2.sync = X4) : D.run (headO at_) = if X3.1 = 0 then X4 else X3 := by
  subst h4; subst h3
  rw [headO, DM.run]
  show (if (D.write at_ emptyHead).1 = 0 then DM.run (D.write at_ emptyHead).2 [.sync] else D.write at_ emptyHead) = _
  rw [run_one]; rfl
def pick (a b c d e : DM) : Nat → DM
  | 0 => a
  | 1 => b
  | 2 => c
  | 3 => d
  | _ => e
theorem GoD.sync {N k : Nat} {D : DM} (h : GoD N k D) (hN : 0 < N) (hk : k < 100000000) : GoD N (k + 1) D.sync.2 := (h.op1 (o := .sync) hN (by omega)).go
theorem GoD.write {N k : Nat} {D : DM} (h : GoD N k D) {i : Int} (h0 : 0 ≤ i) (h1 : i < N) (hk : k < 100000000) (s : Sec) : GoD N (k + 1) (D.write i s).2 := (h.op1 (o := .w i s) ⟨h0, h1⟩ (by omega)).go
theorem dcg_Sync {N k : Nat} {D : DM} (h : GoD N k D) (hk : k < 100000000) (hN : N ≤ 1000000000) : DCalls 42 [] D (pint D.sync.1) D.sync.2 := by
  obtain ⟨f1, f2, -⟩ := h.fit (by omega)
  exact dc_Sync D f1 f2 (by rw [h.len]; omega) (by rw [h.len]; exact h.op)

set_option maxRecDepth 10000 in
set_option maxHeartbeats 4000000 in
theorem jd_all1 (most : Int) {N k : Nat} {D : DM} (h : GoD N k D) (at_ n : Int) (h0 : 0 ≤ at_) (h1 : at_ < N) (n0 : 0 ≤ n) (n1 : n < 65536) (G : List Int) (hG : G.length = 16) (hr : ∀ x ∈ G, 0 ≤ x ∧ x < 256) (l : List PPut) (hi : InD N l) (hk : k + l.length + 3 ≤ 100000000) (hNN : N ≤ 1000000000) : HCalls Tryd.prog 28 [stepsP 1000005 1000006 1000007 1000008 1000009 1000001]
    ((1000005, [.ptr 1000004 0]) :: (1000006, [pputs l]) :: (1000007, [.ptr 1000004 0]) :: (1000008, [pint n]) :: (1000009, G.map pbyte) :: jG 1000001 1000002 1000003 1000004 at_ most D) (dMs 1000003 D) (pint (D.run (fourO at_ l (headSec n G hG hr))).1)
    ((1000005, [.ptr 1000004 0]) :: (1000006, [pputs l]) :: (1000007, [.ptr 1000004 0]) :: (1000008, [pint n]) :: (1000009, G.map pbyte) :: jG 1000001 1000002 1000003 1000004 at_ most (D.run (fourO at_ l (headSec n G hG hr))).2) (dMs 1000003 (D.run (fourO at_ l (headSec n G hG hr))).2) := by
  have hN : 0 < N := by omega
  obtain ⟨p1, -⟩ := GoD.run (wops l) h (wops_in hi) (by rw [wops_len]; omega)
  rw [wops_len] at p1
  have s2 := p1.sync hN (by omega)
  have w2 := s2.write h0 h1 (by omega) (headSec n G hG hr)
  have hput := jd_putS at_ most h l hi (by omega) 1000001 1000002 1000003 1000004 1000005 1000006 (by decide)
  have hhead := jd_headS s2 at_ most n (by omega) n0 n1 G hG hr 1000001 1000002 1000003 1000004 1000007 1000008 1000009 (by decide)
  have hy1 := dcg_Sync p1 (by omega) hNN 1000001 1000002 1000003 (by decide)
  have hy2 := dcg_Sync w2 (by omega) hNN 1000001 1000002 1000003 (by decide)
  have hlG : ∀ c ∈ G.map pbyte, Low c := low_map (fun _ => Low.val _) _
  have hll := low_pputs l
  have c1 := dC_low D
  have c2 := dM_low D
  have hR := four_run D at_ l (headSec n G hG hr) rfl rfl rfl rfl
  generalize headSec n G hG hr = g at *
  generalize D.run (fourO at_ l g) = R at *
  generalize D.run (wops l) = X1 at *
  generalize X1.2.sync = X2 at *
  generalize X2.2.write at_ g = X3 at *
  generalize X3.2.sync = X4 at *
  clear p1 s2 w2
  have c3 := dC_low R.2
  have c4 := dM_low R.2
  have hoG := ows_pb G
  refine hcalls_of_pw typeTab_ok Tryd.func28 rfl rfl (by simp [PV.ownB, stepsP]) (Nat.le_of_ble_eq_true rfl) (by simp [ResIds, jG, dG, dMs]) (by simp [ResIds, jG, dG, dMs]) (by exact hok0) ?_
  have f1 := fun i => dC_low (pick D X1.2 X2.2 X3.2 X4.2 i)
  have f2 := fun i => dM_low (pick D X1.2 X2.2 X3.2 X4.2 i)
  refine wk ?_
  refine PW.loop (fun i : Nat => (((((((((((bot.setb 1000005 [.ptr 1000004 0]).setb 1000006 [pputs l]).setb 1000007 [.ptr 1000004 0]).setb 1000008 [pint n]).setb 1000009 (G.map pbyte)).setb 1000004 (jB 1000001 at_ most)).setb 1000001 (dB 1000002 1000003 (pick D X1.2 X2.2 X3.2 X4.2 i))).setb 1000002 (dC (pick D X1.2 X2.2 X3.2 X4.2 i))).setm 1000003 (dM (pick D X1.2 X2.2 X3.2 X4.2 i))).put 6 (stepsP 1000005 1000006 1000007 1000008 1000009 1000001)).put 7 (pint 4)).put 8 (pint i)) (fun i => i ≤ 4 ∧ (1 ≤ i → X1.1 = 0) ∧ (2 ≤ i → X2.1 = 0) ∧ (3 ≤ i → X3.1 = 0) ∧ (4 ≤ i → X4.1 = 0)) (fun i => 4 - i) 0 (by omega) ?_ ?_
  · have g1 := f1 0
    have g2 := f2 0
    exact sb4
  · intro i ⟨hi4, q1, q2, q3, q4⟩
    have hq : i = 0 ∨ i = 1 ∨ i = 2 ∨ i = 3 ∨ i = 4 := by omega
    rcases hq with rfl | rfl | rfl | rfl | rfl
    · have g1 := f1 1
      have g2 := f2 1
      rw [show pick D X1.2 X2.2 X3.2 X4.2 0 = D from rfl]
      rw [show pick D X1.2 X2.2 X3.2 X4.2 1 = X1.2 from rfl] at g1 g2
      clear f1 f2
      by_cases z1 : X1.1 = 0
      · rw [z1] at hput
        clear hR q1 q2 q3 q4
        refine wk ?_
        refine loopP 1 ⟨by omega, fun _ => z1, fun _ => by omega, fun _ => by omega, fun _ => by omega⟩ (by omega) ?_
        rw [show pick D X1.2 X2.2 X3.2 X4.2 1 = X1.2 from rfl]
        exact sb4
      · have hR2 : R = X1 := by rw [hR, if_neg z1]
        clear hR q1 q2 q3 q4
        subst hR2
        refine wk ?_
        exact RetH.mk rfl (Weak.refl _) ⟨⟨_, rfl, WeakL.refl _⟩, ⟨_, rfl, WeakL.refl _⟩, ⟨_, rfl, WeakL.refl _⟩, ⟨_, rfl, WeakL.refl _⟩, ⟨_, rfl, WeakL.refl _⟩, ⟨_, rfl, WeakL.refl _⟩, ⟨_, rfl, WeakL.refl _⟩, ⟨_, rfl, WeakL.refl _⟩, trivial⟩ ⟨⟨rfl, rfl⟩, trivial⟩
    · have g1 := f1 2
      have g2 := f2 2
      rw [show pick D X1.2 X2.2 X3.2 X4.2 1 = X1.2 from rfl]
      rw [show pick D X1.2 X2.2 X3.2 X4.2 2 = X2.2 from rfl] at g1 g2
      clear f1 f2
      have z1 := q1 (by omega)
      clear hy2
      by_cases z2 : X2.1 = 0
      · rw [z2] at hy1
        clear hR q1 q2 q3 q4
        refine wk ?_
        refine loopP 2 ⟨by omega, fun _ => z1, fun _ => z2, fun _ => by omega, fun _ => by omega⟩ (by omega) ?_
        rw [show pick D X1.2 X2.2 X3.2 X4.2 2 = X2.2 from rfl]
        exact sb4
      · have hR2 : R = X2 := by rw [hR, if_pos z1, if_neg z2]
        clear hR q1 q2 q3 q4
        subst hR2
        refine wk ?_
        exact RetH.mk rfl (Weak.refl _) ⟨⟨_, rfl, WeakL.refl _⟩, ⟨_, rfl, WeakL.refl _⟩, ⟨_, rfl, WeakL.refl _⟩, ⟨_, rfl, WeakL.refl _⟩, ⟨_, rfl, WeakL.refl _⟩, ⟨_, rfl, WeakL.refl _⟩, ⟨_, rfl, WeakL.refl _⟩, ⟨_, rfl, WeakL.refl _⟩, trivial⟩ ⟨⟨rfl, rfl⟩, trivial⟩
    · have g1 := f1 3
      have g2 := f2 3
      rw [show pick D X1.2 X2.2 X3.2 X4.2 2 = X2.2 from rfl]
      rw [show pick D X1.2 X2.2 X3.2 X4.2 3 = X3.2 from rfl] at g1 g2
      clear f1 f2
      have z1 := q1 (by omega)
      have z2 := q2 (by omega)
      by_cases z3 : X3.1 = 0
      · rw [z3] at hhead
        clear hR q1 q2 q3 q4
        refine wk ?_
        refine loopP 3 ⟨by omega, fun _ => z1, fun _ => z2, fun _ => z3, fun _ => by omega⟩ (by omega) ?_
        rw [show pick D X1.2 X2.2 X3.2 X4.2 3 = X3.2 from rfl]
        exact sb4
      · have hR2 : R = X3 := by rw [hR, if_pos z1, if_pos z2, if_neg z3]
        clear hR q1 q2 q3 q4
        subst hR2
        refine wk ?_
        exact RetH.mk rfl (Weak.refl _) ⟨⟨_, rfl, WeakL.refl _⟩, ⟨_, rfl, WeakL.refl _⟩, ⟨_, rfl, WeakL.refl _⟩, ⟨_, rfl, WeakL.refl _⟩, ⟨_, rfl, WeakL.refl _⟩, ⟨_, rfl, WeakL.refl _⟩, ⟨_, rfl, WeakL.refl _⟩, ⟨_, rfl, WeakL.refl _⟩, trivial⟩ ⟨⟨rfl, rfl⟩, trivial⟩
    · have g1 := f1 4
      have g2 := f2 4
      rw [show pick D X1.2 X2.2 X3.2 X4.2 3 = X3.2 from rfl]
      rw [show pick D X1.2 X2.2 X3.2 X4.2 4 = X4.2 from rfl] at g1 g2
      clear f1 f2
      have z1 := q1 (by omega)
      have z2 := q2 (by omega)
      have z3 := q3 (by omega)
      clear hy1
      by_cases z4 : X4.1 = 0
      · rw [z4] at hy2
        clear hR q1 q2 q3 q4
        refine wk ?_
        refine loopP 4 ⟨by omega, fun _ => z1, fun _ => z2, fun _ => z3, fun _ => z4⟩ (by omega) ?_
        rw [show pick D X1.2 X2.2 X3.2 X4.2 4 = X4.2 from rfl]
        exact sb4
      · have hR2 : R = X4 := by rw [hR, if_pos z1, if_pos z2, if_pos z3]
        clear hR q1 q2 q3 q4
        subst hR2
        refine wk ?_
        exact RetH.mk rfl (Weak.refl _) ⟨⟨_, rfl, WeakL.refl _⟩, ⟨_, rfl, WeakL.refl _⟩, ⟨_, rfl, WeakL.refl _⟩, ⟨_, rfl, WeakL.refl _⟩, ⟨_, rfl, WeakL.refl _⟩, ⟨_, rfl, WeakL.refl _⟩, ⟨_, rfl, WeakL.refl _⟩, ⟨_, rfl, WeakL.refl _⟩, trivial⟩ ⟨⟨rfl, rfl⟩, trivial⟩
    · have hR2 : R = X4 := by rw [hR, if_pos (q1 (by omega)), if_pos (q2 (by omega)), if_pos (q3 (by omega))]
      have z4 := q4 (by omega)
      clear hR q1 q2 q3 q4 f1 f2
      subst hR2
      rw [z4]
      rw [show pick D X1.2 X2.2 X3.2 R.2 4 = R.2 from rfl]
      refine wk ?_
      exact RetH.mk rfl (Weak.refl _) ⟨⟨_, rfl, WeakL.refl _⟩, ⟨_, rfl, WeakL.refl _⟩, ⟨_, rfl, WeakL.refl _⟩, ⟨_, rfl, WeakL.refl _⟩, ⟨_, rfl, WeakL.refl _⟩, ⟨_, rfl, WeakL.refl _⟩, ⟨_, rfl, WeakL.refl _⟩, ⟨_, rfl, WeakL.refl _⟩, trivial⟩ ⟨⟨rfl, rfl⟩, trivial⟩
theorem jd_all (most : Int) {N k : Nat} {D : DM} (h : GoD N k D) (at_ n : Int) (h0 : 0 ≤ at_) (h1 : at_ < N) (n0 : 0 ≤ n) (n1 : n < 65536) (G : List Int) (hG : G.length = 16) (hr : ∀ x ∈ G, 0 ≤ x ∧ x < 256) (l : List PPut) (hi : InD N l) (hk : k + l.length + 3 ≤ 100000000) (hNN : N ≤ 1000000000) (d c m j b0 b1 b2 b3 b4 : Nat) (hd : ([d, c, m, j, b0, b1, b2, b3, b4] : List Nat).Nodup) : HCalls Tryd.prog 28 [stepsP b0 b1 b2 b3 b4 d]
    ((b0, [.ptr j 0]) :: (b1, [pputs l]) :: (b2, [.ptr j 0]) :: (b3, [pint n]) :: (b4, G.map pbyte) :: jG d c m j at_ most D) (dMs m D) (pint (D.run (fourO at_ l (headSec n G hG hr))).1)
    ((b0, [.ptr j 0]) :: (b1, [pputs l]) :: (b2, [.ptr j 0]) :: (b3, [pint n]) :: (b4, G.map pbyte) :: jG d c m j at_ most (D.run (fourO at_ l (headSec n G hG hr))).2) (dMs m (D.run (fourO at_ l (headSec n G hG hr))).2) := by
  have hl : ∀ c ∈ G.map pbyte, Low c := low_map (fun _ => Low.val _) _
  refine (jd_all1 most h at_ n h0 h1 n0 n1 G hG hr l hi hk hNN).at (idsA d c m j b0 b1 b2 b3 b4) (by simpa [ids4, idsA] using hd) (by simp [ResIds, jG, dG, dMs, ids4, idsA]) (by simp [jG, dG]) (by simp [dMs]) ?_ ?_ ?_ ?_ ?_ ?_
  · exact .cons (stepsP_renR (by first | simp [ResIds, dG, dMs, jG] | simp [ResIds, dG, dMs, crG, crM] | simp [ResIds, dG, dMs]) (by first | simp [ResIds, dG, dMs, jG] | simp [ResIds, dG, dMs, crG, crM] | simp [ResIds, dG, dMs]) (by first | simp [ResIds, dG, dMs, jG] | simp [ResIds, dG, dMs, crG, crM] | simp [ResIds, dG, dMs]) (by first | simp [ResIds, dG, dMs, jG] | simp [ResIds, dG, dMs, crG, crM] | simp [ResIds, dG, dMs]) (by first | simp [ResIds, dG, dMs, jG] | simp [ResIds, dG, dMs, crG, crM] | simp [ResIds, dG, dMs]) (by first | simp [ResIds, dG, dMs, jG] | simp [ResIds, dG, dMs, crG, crM] | simp [ResIds, dG, dMs])) .nil
  all_goals exact ren0

set_option maxRecDepth 10000 in
set_option maxHeartbeats 2000000 in
theorem jd_finish1 (most : Int) {N k : Nat} {D : DM} (h : GoD N k D) (at_ : Int) (h0 : 0 ≤ at_) (h1 : at_ < N) (l : List PPut) (hi : InD N l) (hk : k + l.length + 3 ≤ 100000000) (hNN : N ≤ 1000000000) : HCalls Tryd.prog 34 [.ptr 1000004 0, pputs l] (jG 1000001 1000002 1000003 1000004 at_ most D) (dMs 1000003 D) (pint (D.run (fourO at_ l emptyHead)).1) (jG 1000001 1000002 1000003 1000004 at_ most (D.run (fourO at_ l emptyHead)).2) (dMs 1000003 (D.run (fourO at_ l emptyHead)).2) := by
  refine hcalls_of_pw typeTab_ok Tryd.func34 rfl rfl (by simp [PV.ownB, pputs]) (Nat.le_of_ble_eq_true rfl) (by simp [ResIds, jG, dG, dMs]) (by simp [ResIds, jG, dG, dMs]) (by exact hok0) ?_
  have hput := jc_put at_ most D l 1000001 1000002 1000003 1000004 900005 900006 (by decide)
  have hsync := jc_sync at_ most D 1000001 1000002 1000003 1000004 (by decide)
  have hhead := jc_head at_ most D 0 zeroDig rfl 1000001 1000002 1000003 1000004 900007 900008 900009 (by decide)
  have hall := jd_all most h at_ 0 h0 h1 (by decide) (by decide) zeroDig rfl zeroDig_ok l hi hk hNN 1000001 1000002 1000003 1000004 900005 900006 900007 900008 900009 (by decide)
  rw [show headSec 0 zeroDig rfl zeroDig_ok = emptyHead from rfl] at hall
  generalize D.run (fourO at_ l emptyHead) = R at *
  refine wk ?_
  exact RetH.mk rfl (Weak.refl _) ⟨⟨_, rfl, WeakL.refl _⟩, ⟨_, rfl, WeakL.refl _⟩, ⟨_, rfl, WeakL.refl _⟩, trivial⟩ ⟨⟨rfl, rfl⟩, trivial⟩
theorem jd_finish (most : Int) {N k : Nat} {D : DM} (h : GoD N k D) (at_ : Int) (h0 : 0 ≤ at_) (h1 : at_ < N) (l : List PPut) (hi : InD N l) (hk : k + l.length + 3 ≤ 100000000) (hNN : N ≤ 1000000000) (d c m j : Nat) (hd : ([d, c, m, j] : List Nat).Nodup) : HCalls Tryd.prog 34 [.ptr j 0, pputs l] (jG d c m j at_ most D) (dMs m D) (pint (D.run (fourO at_ l emptyHead)).1) (jG d c m j at_ most (D.run (fourO at_ l emptyHead)).2) (dMs m (D.run (fourO at_ l emptyHead)).2) := by
  refine (jd_finish1 most h at_ h0 h1 l hi hk hNN).at (ids4 d c m j) hd (by simp [ResIds, jG, dG, dMs, ids4]) (by simp [jG, dG]) (by simp [dMs]) ?_ ?_ ?_ ?_ ?_ ?_ <;> exact ren0

set_option maxRecDepth 10000 in
set_option maxHeartbeats 4000000 in
theorem jd_all21 (most : Int) {N k : Nat} {D : DM} (h : GoD N k D) (at_ : Int) (h0 : 0 ≤ at_) (h1 : at_ < N) (hk : k + 3 ≤ 100000000) (hNN : N ≤ 1000000000) : HCalls Tryd.prog 28 [steps2 1000005 1000006 1000007 1000001]
    ((1000005, [.ptr 1000004 0]) :: (1000006, [pint 0]) :: (1000007, zeroDig.map pbyte) :: jG 1000001 1000002 1000003 1000004 at_ most D) (dMs 1000003 D) (pint (D.run (headO at_)).1)
    ((1000005, [.ptr 1000004 0]) :: (1000006, [pint 0]) :: (1000007, zeroDig.map pbyte) :: jG 1000001 1000002 1000003 1000004 at_ most (D.run (headO at_)).2) (dMs 1000003 (D.run (headO at_)).2) := by
  have hN : 0 < N := by omega
  have w2 := h.write h0 h1 (by omega) emptyHead
  have hhead := jd_headS h at_ most 0 (by omega) (by decide) (by decide) zeroDig rfl zeroDig_ok 1000001 1000002 1000003 1000004 1000005 1000006 1000007 (by decide)
  rw [show headSec 0 zeroDig rfl zeroDig_ok = emptyHead from rfl] at hhead
  have hy2 := dcg_Sync w2 (by omega) hNN 1000001 1000002 1000003 (by decide)
  generalize hGe : zeroDig = G at *
  clear hGe
  have hlG : ∀ c ∈ G.map pbyte, Low c := low_map (fun _ => Low.val _) _
  have hR := two_run D at_ rfl rfl
  generalize D.run (headO at_) = R at *
  generalize D.write at_ emptyHead = X1 at *
  generalize X1.2.sync = X2 at *
  clear w2
  have c1 := dC_low D
  have c2 := dM_low D
  have c3 := dC_low R.2
  have c4 := dM_low R.2
  have hoG := ows_pb G
  refine hcalls_of_pw typeTab_ok Tryd.func28 rfl rfl (by simp [PV.ownB, steps2]) (Nat.le_of_ble_eq_true rfl) (by simp [ResIds, jG, dG, dMs]) (by simp [ResIds, jG, dG, dMs]) (by exact hok0) ?_
  have f1 := fun i => dC_low (pick D X1.2 X2.2 X2.2 X2.2 i)
  have f2 := fun i => dM_low (pick D X1.2 X2.2 X2.2 X2.2 i)
  refine wk ?_
  refine PW.loop (fun i : Nat => (((((((((bot.setb 1000005 [.ptr 1000004 0]).setb 1000006 [pint 0]).setb 1000007 (G.map pbyte)).setb 1000004 (jB 1000001 at_ most)).setb 1000001 (dB 1000002 1000003 (pick D X1.2 X2.2 X2.2 X2.2 i))).setb 1000002 (dC (pick D X1.2 X2.2 X2.2 X2.2 i))).setm 1000003 (dM (pick D X1.2 X2.2 X2.2 X2.2 i))).put 6 (steps2 1000005 1000006 1000007 1000001)).put 7 (pint 2)).put 8 (pint i)) (fun i => i ≤ 2 ∧ (1 ≤ i → X1.1 = 0) ∧ (2 ≤ i → X2.1 = 0)) (fun i => 2 - i) 0 (by omega) ?_ ?_
  · have g1 := f1 0
    have g2 := f2 0
    exact sb2
  · intro i ⟨hi4, q1, q2⟩
    have hq : i = 0 ∨ i = 1 ∨ i = 2 := by omega
    rcases hq with rfl | rfl | rfl
    · have g1 := f1 1
      have g2 := f2 1
      rw [show pick D X1.2 X2.2 X2.2 X2.2 0 = D from rfl]
      rw [show pick D X1.2 X2.2 X2.2 X2.2 1 = X1.2 from rfl] at g1 g2
      clear f1 f2
      by_cases z1 : X1.1 = 0
      · rw [z1] at hhead
        clear hR q1 q2
        refine wk ?_
        refine loopP 1 ⟨by omega, fun _ => z1, fun _ => by omega⟩ (by omega) ?_
        rw [show pick D X1.2 X2.2 X2.2 X2.2 1 = X1.2 from rfl]
        exact sb2
      · have hR2 : R = X1 := by rw [hR, if_neg z1]
        clear hR q1 q2
        subst hR2
        refine wk ?_
        exact RetH.mk rfl (Weak.refl _) ⟨⟨_, rfl, WeakL.refl _⟩, ⟨_, rfl, WeakL.refl _⟩, ⟨_, rfl, WeakL.refl _⟩, ⟨_, rfl, WeakL.refl _⟩, ⟨_, rfl, WeakL.refl _⟩, ⟨_, rfl, WeakL.refl _⟩, trivial⟩ ⟨⟨rfl, rfl⟩, trivial⟩
    · have g1 := f1 2
      have g2 := f2 2
      rw [show pick D X1.2 X2.2 X2.2 X2.2 1 = X1.2 from rfl]
      rw [show pick D X1.2 X2.2 X2.2 X2.2 2 = X2.2 from rfl] at g1 g2
      clear f1 f2
      have z1 := q1 (by omega)
      by_cases z2 : X2.1 = 0
      · rw [z2] at hy2
        clear hR q1 q2
        refine wk ?_
        refine loopP 2 ⟨by omega, fun _ => z1, fun _ => z2⟩ (by omega) ?_
        rw [show pick D X1.2 X2.2 X2.2 X2.2 2 = X2.2 from rfl]
        exact sb2
      · have hR2 : R = X2 := by rw [hR, if_pos z1]
        clear hR q1 q2
        subst hR2
        refine wk ?_
        exact RetH.mk rfl (Weak.refl _) ⟨⟨_, rfl, WeakL.refl _⟩, ⟨_, rfl, WeakL.refl _⟩, ⟨_, rfl, WeakL.refl _⟩, ⟨_, rfl, WeakL.refl _⟩, ⟨_, rfl, WeakL.refl _⟩, ⟨_, rfl, WeakL.refl _⟩, trivial⟩ ⟨⟨rfl, rfl⟩, trivial⟩
    · have hR2 : R = X2 := by rw [hR, if_pos (q1 (by omega))]
      have z4 := q2 (by omega)
      clear hR q1 q2 f1 f2
      subst hR2
      rw [z4]
      rw [show pick D X1.2 R.2 R.2 R.2 2 = R.2 from rfl]
      refine wk ?_
      exact RetH.mk rfl (Weak.refl _) ⟨⟨_, rfl, WeakL.refl _⟩, ⟨_, rfl, WeakL.refl _⟩, ⟨_, rfl, WeakL.refl _⟩, ⟨_, rfl, WeakL.refl _⟩, ⟨_, rfl, WeakL.refl _⟩, ⟨_, rfl, WeakL.refl _⟩, trivial⟩ ⟨⟨rfl, rfl⟩, trivial⟩
theorem jd_all2 (most : Int) {N k : Nat} {D : DM} (h : GoD N k D) (at_ : Int) (h0 : 0 ≤ at_) (h1 : at_ < N) (hk : k + 3 ≤ 100000000) (hNN : N ≤ 1000000000) (d c m j b2 b3 b4 : Nat) (hd : ([d, c, m, j, b2, b3, b4] : List Nat).Nodup) : HCalls Tryd.prog 28 [steps2 b2 b3 b4 d]
    ((b2, [.ptr j 0]) :: (b3, [pint 0]) :: (b4, zeroDig.map pbyte) :: jG d c m j at_ most D) (dMs m D) (pint (D.run (headO at_)).1)
    ((b2, [.ptr j 0]) :: (b3, [pint 0]) :: (b4, zeroDig.map pbyte) :: jG d c m j at_ most (D.run (headO at_)).2) (dMs m (D.run (headO at_)).2) := by
  have hl : ∀ c ∈ zeroDig.map pbyte, Low c := low_map (fun _ => Low.val _) _
  refine (jd_all21 most h at_ h0 h1 hk hNN).at (ids4 d c m j ++ [(1000005, b2), (1000006, b3), (1000007, b4)]) (by simpa [ids4] using hd) (by simp [ResIds, jG, dG, dMs, ids4]) (by simp [jG, dG]) (by simp [dMs]) ?_ ?_ ?_ ?_ ?_ ?_
  · exact .cons (steps2_ren (by first | simp [ResIds, dG, dMs, jG] | simp [ResIds, dG, dMs, crG, crM] | simp [ResIds, dG, dMs]) (by first | simp [ResIds, dG, dMs, jG] | simp [ResIds, dG, dMs, crG, crM] | simp [ResIds, dG, dMs]) (by first | simp [ResIds, dG, dMs, jG] | simp [ResIds, dG, dMs, crG, crM] | simp [ResIds, dG, dMs]) (by first | simp [ResIds, dG, dMs, jG] | simp [ResIds, dG, dMs, crG, crM] | simp [ResIds, dG, dMs])) .nil
  all_goals exact ren0
end Go.Proofs.YtilcpcpmkklobaaDoor

/- The journal's laws: the examples. -/
namespace Go.Proofs.YtilcpcpmkklobaaDoor
set_option linter.unusedSimpArgs false
set_option linter.unusedVariables false
set_option linter.unnecessarySimpa false
open Go.RowKit

section
variable {P : Program} {T : Tab} {σ : PS} {o : Oper} {i base : Nat} {ops : Array Oper} {ok : Nat → Nat → Bool} {rest : List (Nat × Oper)} {K : PS → Prop}
/-- A struct of which one field is given. -/
theorem PWops.bld1 {d f : Nat} {out : List PV} {px : PV} {x : Operand} {t : TypeId} {ti : TyI} {l : List (Nat × Nat × Bool)} (hg : pguard ops σ o = some true) (hd : o.dst = some d) (hop : o.op = .build t #[(f, x)]) (hx : pev σ x = px) (ht : T.at t = some ti) (hk : ti.kind = .struct l) (hb : σ.freeB (base + i) = true) (hf : pfill (fun i => (l[i]?).map fun x => (x.1, x.2.1)) ti.zero [(f, px)] = some out)
    (kn : PWops P T ops base ok rest K (σ.put d (.agg out))) : PWops P T ops base ok ((i, o) :: rest) K σ := by
  refine PWops.valEq hg hd (p := .agg out) ?_ rfl hb kn
  simp only [hop, presE, pvalA, pval, ht, pbuild, hk, List.map_cons, List.map_nil, pev_only, hx, hf, Option.map_some]
/-- A slice of two structs. -/
theorem PWops.litB {d k e by_ : Nat} {cs ds zr : List PV} {x y : Operand} {t : TypeId} {ti : TyI} (hg : pguard ops σ o = some true) (hd : o.dst = some d) (hop : o.op = .buildSlice t 2 #[(0, x), (1, y)]) (hx : pev σ x = .agg cs) (hy : pev σ y = .agg ds) (ht : T.at t = some ti) (hk : ti.kind = .slice e k by_ zr) (hb : σ.freeB (base + i) = true) (hl : cs.length = k) (hl2 : ds.length = k) (hz : zr.length = k) (hk2 : Nat.ble k 8000000 = true) (he : Nat.blt e 1000000 = true) (ho : cs.all PV.one = true) (hr : cs.map PV.bare = cs) (ho2 : ds.all PV.one = true) (hr2 : ds.map PV.bare = ds) (kn : PWops P T ops base ok rest K (σ.put d (.sl 2 k (cs ++ ds) (some e)))) : PWops P T ops base ok ((i, o) :: rest) K σ := by
  refine PWops.step hg (E := ⟨.sl 2 k (cs ++ ds) (some e), [], none, []⟩) ?_ hb (by rw [hd]; exact kn)
  have e1 : (List.replicate 2 zr).flatten = zr ++ zr := by simp [List.replicate_succ]
  have hle : 2 * k ≤ 16777216 := by have := Nat.le_of_ble_eq_true hk2; omega
  have he' : e < 1000000 := by simpa [Nat.blt_eq] using he
  have hs : splF (zr ++ zr) 0 cs = cs ++ zr := by
    rw [splF_eq _ _ _ (by rw [List.length_append]; omega)]
    unfold splice
    rw [List.take_zero, List.nil_append, Nat.zero_add, hl, ← hz, List.drop_left]
  have hs2 : splF (cs ++ zr) k ds = cs ++ ds := by
    rw [splF_eq _ _ _ (by rw [List.length_append]; omega)]
    unfold splice
    rw [← hl, List.take_left, List.drop_of_length_le (by rw [List.length_append]; omega), List.append_nil]
  have c1 : 0 + k ≤ (zr ++ zr).length := by rw [List.length_append]; omega
  have c2 : k + k ≤ (cs ++ zr).length := by rw [List.length_append]; omega
  simp only [hop, presE, ht, hk, hle, he', and_self, if_true, e1, List.map_cons, List.map_nil, pev_only, hx, hy, pfill, pcells, ho, hr, ho2, hr2, hl, hl2, Nat.zero_mul, Nat.one_mul, c1, c2, hs, hs2, Option.map_some]
end
theorem fill_put1 (s : Sec) : pfill (fun i => (([(0, 1, false), (1, 64, true)] : List (Nat × Nat × Bool))[i]?).map fun x => (x.1, x.2.1)) ([PV.val (.int .i64 0)] ++ List.replicate 64 (PV.val (.int .u8 0))) [(1, .agg (secL s))] = some (putL ⟨0, s⟩) := by
  have h2 : pcells (.agg (secL s)) = some (secL s) := by rw [pcells, secL_one, secL_bare]; rfl
  rw [pfill, h2]
  show (if (secL s).length = 64 ∧ 1 + 64 ≤ 65 then pfill _ (splF (pint 0 :: List.replicate 64 (PV.val (.int .u8 0))) 1 (secL s)) [] else none) = _
  rw [if_pos ⟨secL_len s, by decide⟩, pfill, splF_eq _ _ _ (by rw [secL_len]; exact Nat.le_of_ble_eq_true rfl), splice, secL_len]
  show some (pint 0 :: ([] ++ secL s ++ [])) = _
  rw [List.nil_append, List.append_nil]; rfl

set_option maxRecDepth 10000 in
set_option maxHeartbeats 1000000 in
theorem jc_most1 (at_ most : Int) (D : DM) : HCalls Tryd.prog 25 [.ptr 1000004 0] (jG 1000001 1000002 1000003 1000004 at_ most D) (dMs 1000003 D) (pint most) (jG 1000001 1000002 1000003 1000004 at_ most D) (dMs 1000003 D) := by
  refine hcalls_of_pw typeTab_ok Tryd.func25 rfl rfl (by simp [PV.ownB]) (Nat.le_of_ble_eq_true rfl) (by simp [ResIds, jG, dG, dMs]) (by simp [ResIds, jG, dG, dMs]) (by exact hok0) ?_
  refine wk ?_
  exact RetH.mk rfl (Weak.refl _) ⟨⟨_, rfl, WeakL.refl _⟩, ⟨_, rfl, WeakL.refl _⟩, ⟨_, rfl, WeakL.refl _⟩, trivial⟩ ⟨⟨rfl, rfl⟩, trivial⟩
theorem jc_most (at_ most : Int) (D : DM) (d c m j : Nat) (hd : ([d, c, m, j] : List Nat).Nodup) : HCalls Tryd.prog 25 [.ptr j 0] (jG d c m j at_ most D) (dMs m D) (pint most) (jG d c m j at_ most D) (dMs m D) := by
  refine (jc_most1 at_ most D).at (ids4 d c m j) hd (by simp [ResIds, jG, dG, dMs, ids4]) (by simp [jG, dG]) (by simp [dMs]) ?_ ?_ ?_ ?_ ?_ ?_ <;> exact ren0

theorem pputs1 (p : PPut) : pputs [p] = .sl 1 65 (putL p) none := by simp [pputs]
theorem pputs2 (p q : PPut) : pputs [p, q] = .sl 2 65 (putL p ++ putL q) none := by simp [pputs]
def zero4 : List PPut := List.replicate 4 ⟨0, zeroSec⟩

set_option maxRecDepth 10000 in
set_option maxHeartbeats 4000000 in
theorem pw_sanity24 : PCalls Tryd.prog 9 [] (· = pbool true) := by
  refine pcalls_of_pw typeTab_ok Tryd.func9 rfl (by kernel_rfl) (by simp) (by simp) (Nat.le_of_ble_eq_true rfl) ?_
  have f1 := pw_filled 1 (by decide)
  have f2 := pw_filled 2 (by decide)
  generalize fillS 1 (by decide) = a at f1
  generalize fillS 2 (by decide) = b at f2
  have hlb : liesB ((40 : Nat) : Int) 10 3 = true := rfl
  have hlb2 : liesB ((40 : Nat) : Int) 36 3 = false := rfl
  have i0 := JInv.new 40 10 3 hlb
  have hnew := dc_New 40 (by decide) 900001 900002 900003 (by decide)
  rw [show (40 : Int).toNat = 40 from rfl] at hnew
  have r3 := pw_room 3
  have r16 := pw_room 16
  have r17 := pw_room 17
  have r0 := pw_room 0
  rw [show roomI 3 = 5 from rfl] at r3
  rw [show roomI 16 = 18 from rfl] at r16
  rw [show roomI 17 = 20 from rfl] at r17
  rw [show roomI 0 = 0 from rfl] at r0
  have ho := jc_open 10 3 i0.ok (by decide) (by decide) hlb i0.head 900001 900002 900003 900004 (by decide)
  have hop : (newD 40).opened 10 = newD 40 := by
    unfold DM.opened
    rw [if_neg]
    rw [i0.ok.read (by decide) (by decide)]
    decide
  rw [hop] at ho
  have hoe := jc_openE 36 3 i0.ok (by decide) hlb2 900001 900002 900003 (by decide)
  have hm := jc_most 10 3 (newD 40) 900001 900002 900003 900004 (by decide)
  have hA1 := jc_apply 10 3 i0.ok (by decide) (by decide) (by decide) (by decide) (by decide) [⟨0, a⟩, ⟨20, b⟩] (by simp) (by decide) 900001 900002 900003 900004 (by decide)
  have i1 := i0.apply hlb (by decide) [⟨0, a⟩, ⟨20, b⟩]
  have e1 : jApE ((40 : Nat) : Int) 10 3 [⟨0, a⟩, ⟨20, b⟩] = 0 := by simp [jApE, badP, roomI, numbersI]
  rw [e1] at hA1
  rw [if_pos e1] at i1
  generalize (newD 40).apply ((40 : Nat) : Int) 10 3 [⟨0, a⟩, ⟨20, b⟩] = D1 at hA1 i1
  have x1 := i1.out 0 (by decide) (.inl (by decide))
  have x2 := i1.out 20 (by decide) (.inr (by decide))
  rw [show (doM (List.replicate 40 zeroSec) [⟨0, a⟩, ⟨20, b⟩]).getD 0 default = a from rfl] at x1
  rw [show (doM (List.replicate 40 zeroSec) [⟨0, a⟩, ⟨20, b⟩]).getD 20 default = b from rfl] at x2
  have hd1 := dc_Read D1 0 (by rw [i1.ok.len]; decide) (fun e he => by rw [i1.op] at he; simp at he) 900001 900002 900003 (by decide)
  have hd2 := dc_Read D1 20 (by rw [i1.ok.len]; decide) (fun e he => by rw [i1.op] at he; simp at he) 900001 900002 900003 (by decide)
  rw [show D1.read 0 = (a, 0) from x1] at hd1
  rw [show D1.read 20 = (b, 0) from x2] at hd2
  have hA : ∀ (l : List PPut) (e : Int), l.length ≤ 100000000 → jApE ((40 : Nat) : Int) 10 3 l = e → e ≠ 0 → HCalls Tryd.prog 13 [.ptr 900004 0, pputs l] (jG 900001 900002 900003 900004 10 3 D1) (dMs 900003 D1) (pint e) (jG 900001 900002 900003 900004 10 3 D1) (dMs 900003 D1) := by
    intro l e hl he hne
    have := jc_apply 10 3 i1.ok (by decide) (by decide) (by decide) (by decide) (by decide) l hl (by decide) 900001 900002 900003 900004 (by decide)
    rw [he, DM.apply, if_neg (fun h => hne (he ▸ h.1))] at this
    exact this
  have hA2 := hA [⟨12, a⟩] 1 (by simp) (by simp [jApE, badP, roomI, numbersI]) (by decide)
  have hA3 := hA [⟨40, a⟩] 1 (by simp) (by simp [jApE, badP, roomI, numbersI]) (by decide)
  have hA4 := hA zero4 2 (by simp [zero4]) (by simp [jApE, zero4]) (by decide)
  have hA5 := hA [⟨0, a⟩, ⟨0, b⟩] 6 (by simp) (by simp [jApE, badP, roomI, numbersI]) (by decide)
  rw [pputs2] at hA1 hA5
  rw [pputs1] at hA2 hA3
  have q1 := peqs_ints (k := .u8) a.1 a.1 rfl
  have q2 := peqs_ints (k := .u8) b.1 b.1 rfl
  rw [a.2.1, beq_iff_eq.2 rfl] at q1
  rw [b.2.1, beq_iff_eq.2 rfl] at q2
  clear hA x1 x2 i1 e1 hop i0 hlb hlb2
  generalize newD 40 = D0 at *
  refine wk ?_
  refine PWops.bld2 (out := putL ⟨0, a⟩) rfl rfl rfl rfl rfl rfl rfl rfl (fill_put _ _) ?_
  refine wk ?_
  refine PWops.bld2 (out := putL ⟨20, b⟩) rfl rfl rfl rfl rfl rfl rfl rfl (fill_put _ _) ?_
  refine PWops.litB (cs := putL ⟨0, a⟩) (ds := putL ⟨20, b⟩) rfl rfl rfl rfl rfl rfl rfl rfl (putL_len _) (putL_len _) rfl rfl rfl (putL_one _) (putL_bare _) (putL_one _) (putL_bare _) ?_
  refine wk ?_
  refine PWops.eqA rfl rfl rfl rfl rfl rfl rfl rfl q1 (.inl rfl) ?_
  refine wk ?_
  refine PWops.eqA rfl rfl rfl rfl rfl rfl rfl rfl q2 (.inl rfl) ?_
  refine wk ?_
  refine PWops.bld2 (out := putL ⟨12, a⟩) rfl rfl rfl rfl rfl rfl rfl rfl (fill_put _ _) ?_
  refine wk ?_
  refine PWops.bld2 (out := putL ⟨40, a⟩) rfl rfl rfl rfl rfl rfl rfl rfl (fill_put _ _) ?_
  refine wg ?_
  refine PW.region typeTab_ok (by kernel_rfl) ?_
  (refine ops0 ?_)
  refine PWops.mkI (out := zero4.flatMap putL) typeTab_ok rfl (fun _ _ => rfl) rfl rfl rfl rfl rfl rfl rfl ?_ rfl ?_
  · exact ⟨by decide, by decide, by decide⟩
  refine wk ?_
  refine PWops.bld1 (out := putL ⟨0, a⟩) rfl rfl rfl rfl rfl rfl rfl (fill_put1 _) ?_
  refine wk ?_
  refine PWops.bld1 (out := putL ⟨0, b⟩) rfl rfl rfl rfl rfl rfl rfl (fill_put1 _) ?_
  refine PWops.litB (cs := putL ⟨0, a⟩) (ds := putL ⟨0, b⟩) rfl rfl rfl rfl rfl rfl rfl rfl (putL_len _) (putL_len _) rfl rfl rfl (putL_one _) (putL_bare _) (putL_one _) (putL_bare _) ?_
  refine wk ?_
  exact retP rfl (by exact lw) rfl
end Go.Proofs.YtilcpcpmkklobaaDoor

/- The journal whose disk fails: read. -/
namespace Go.Proofs.YtilcpcpmkklobaaDoor
set_option linter.unusedSimpArgs false
set_option linter.unusedVariables false
set_option linter.unnecessarySimpa false
open Go.RowKit

theorem outA_succ (l : List PPut) (k : Nat) (h : k < l.length) : outA l (k + 1) = .sl (k + 1) 65 ((l.take k).flatMap putL ++ putL (l.getD k default)) (some 59) := by
  rw [outA, take_getD default h, List.flatMap_append]
  show PV.sl _ _ (_ ++ (putL _ ++ [])) _ = _
  rw [List.append_nil]
theorem outA_all (l : List PPut) (h : 0 < l.length) : outA l l.length = .sl l.length 65 (l.flatMap putL) (some 59) := by
  cases l with
  | nil => exact absurd h (by simp)
  | cons a A => show outA (a :: A) (A.length + 1) = _; rw [outA, List.take_of_length_le (by simp)]; rfl

set_option maxRecDepth 10000 in
set_option maxHeartbeats 4000000 in
theorem jd_read1 (at_ most : Int) {N k : Nat} {D : DM} (h : GoD N k D) (h0 : 0 ≤ at_) (h1 : at_ < 1000000000) (m0 : 1 ≤ most) (m1 : most ≤ 1024) (hk : k ≤ 100000000) (hNN : N ≤ 1000000000) (l : List PPut) (hl : (l.length : Int) ≤ most) (hl0 : 0 < l.length) (ha : ∀ p ∈ areaJ at_ most l, D.read p.sec = (p.dat, 0)) (hs : ∀ p ∈ l, 0 ≤ p.sec ∧ p.sec < 4294967296) : HCalls Tryd.prog 39 [.ptr 1000004 0, pint l.length] (jG 1000001 1000002 1000003 1000004 at_ most D) (dMs 1000003 D) (.tup [pputs l, pint 0]) (jG 1000001 1000002 1000003 1000004 at_ most D) (dMs 1000003 D) := by
  have hll := low_pputs l
  have c1 := dC_low D
  have c2 := dM_low D
  refine hcalls_of_pw typeTab_ok Tryd.func39 rfl rfl (by simp [PV.ownB, pint]) (Nat.le_of_ble_eq_true rfl) (by simp [ResIds, jG, dG, dMs]) (by simp [ResIds, jG, dG, dMs]) (by exact hok0) ?_
  obtain ⟨f1, f2, f3⟩ := h.fit (by omega)
  have hsz : D.cells.length ≤ 1000000000 := by rw [h.len]; omega
  have hnm := pw_numbers most (by omega) (by omega)
  have hnb : 0 ≤ numbersI most ∧ numbersI most ≤ 1000 := by unfold numbersI; omega
  have lo := low_outA l
  refine wk ?_
  refine PW.loop (fun i : Nat => ((((((((((bot.setb 1000004 (jB 1000001 at_ most)).setb 1000001 (dB 1000002 1000003 D)).setb 1000002 (dC D)).setm 1000003 (dM D)).put 0 (.ptr 1000004 0)).put 1 (pint l.length)).put 4 .nilsl).put 5 (pint 0)).put 6 (outA l i)).put 13 (pint l.length)).put 14 (pint i)) (fun i => i ≤ l.length) (fun i => l.length - i) 0 (by omega) ?_ ?_
  · have b1 := lo 0
    exact sb
  · intro i hi
    by_cases hlt : i < l.length
    · obtain ⟨row, hrow, hbytes⟩ := area_rows ha hlt
      have hdat := area_data ha hlt
      have hr1 := dc_Read D (at_ + 1 + (i : Int) / 16) hsz f3 1000001 1000002 1000003 (by decide)
      have hr2 := dc_Read D (at_ + 1 + numbersI most + i) hsz f3 1000001 1000002 1000003 (by decide)
      rw [hrow] at hr1
      rw [hdat] at hr2
      simp only at hr1 hr2
      have hpm : l.getD i default ∈ l := by rw [List.getD_eq_getElem?_getD, List.getElem?_eq_getElem hlt]; exact List.getElem_mem hlt
      obtain ⟨p0, p1⟩ := hs _ hpm
      have ho := outA_succ l i hlt
      have b0 := lo i
      have b1 := lo (i + 1)
      rw [ho] at b1
      clear hrow hdat hpm hs ha f1 f2 f3 lo
      generalize hnM : numbersI most = nM at *
      have hsl := secL_low row
      obtain ⟨p, hp⟩ : ∃ p, p = l.getD i default := ⟨_, rfl⟩
      rw [← hp] at hr2 p0 p1 ho b1 hbytes
      clear hp
      refine wk ?_
      refine PWops.bld1 (out := putL ⟨0, p.dat⟩) rfl rfl rfl rfl rfl rfl rfl (fill_put1 _) ?_
      refine wk ?_
      refine PW.loop (fun e : Nat => (bot.setb 1000004 (jB 1000001 at_ most) |>.setb 1000001 (dB 1000002 1000003 D) |>.setb 1000002 (dC D) |>.setm 1000003 (dM D) |>.setb 5016 (secL row) |>.setb 11002 (putL ⟨accB p.sec e, p.dat⟩) |>.put 0 (.ptr 1000004 0) |>.put 1 (pint l.length) |>.put 4 .nilsl |>.put 5 (pint 0) |>.put 6 (outA l i) |>.put 7 (pint i) |>.put 8 (.ptr 5016 0) |>.put 11 (.ptr 11002 0) |>.put 13 (pint l.length) |>.put 14 (pint i) |>.put 62 (pint e))) (fun e => e ≤ 4) (fun e => 4 - e) 0 (by omega) ?_ ?_
      · have q1 := putL_low ⟨0, p.dat⟩
        rw [show accB p.sec 0 = 0 by unfold accB; omega]
        exact sb
      · intro e he
        have q1 := putL_low ⟨accB p.sec e, p.dat⟩
        by_cases hlt4 : e < 4
        · have hj0 : 0 ≤ (i : Int) % 16 * 4 + e := by omega
          have hj1 : (i : Int) % 16 * 4 + e < 64 := by omega
          have hb := hbytes e hlt4
          have hcell : (secL row)[((i : Int) % 16 * 4 + e).toNat]? = some (pbyte (byteB p.sec e)) := by
            rw [show ((i : Int) % 16 * 4 + e).toNat = i % 16 * 4 + e by omega, secL_get row _ (by omega), hb]
          have q2 := putL_low ⟨accB p.sec (e + 1), p.dat⟩
          have hsh := byteB_shl p.sec p0 e hlt4
          have hor := accB_or p.sec p0 e hlt4
          have hbb : 0 ≤ byteB p.sec e ∧ byteB p.sec e < 256 := by unfold byteB; rw [IntKind.wrap_u8]; omega
          generalize ha2 : accB p.sec (e + 1) = a2 at *
          generalize accB p.sec e = a1 at *
          generalize byteB p.sec e = bb at *
          clear hbytes hb
          refine wk ?_
          refine PWops.ldB rfl rfl rfl rfl rfl rfl rfl rfl hcell rfl ?_
          clear hcell
          obtain ⟨b0, b1'⟩ := hbb
          refine wk ?_
          rw [hsh]
          rw [show IntKind.i64.wrap ((BitVec.ofInt IntKind.i64.bits (PPut.mk a1 p.dat).sec ||| BitVec.ofInt IntKind.i64.bits (bb * ((2 ^ (8 * e) : Nat) : Int))).toNat : Nat) = a2 from hor]
          refine PWops.stB (new := [pint a2]) (out := putL ⟨a2, p.dat⟩) rfl rfl rfl rfl rfl rfl rfl rfl rfl ⟨rfl, by rw [putL_len]; exact Nat.le_of_ble_eq_true rfl⟩ rfl ?_
          refine wk ?_
          refine loopP (e + 1) (by omega) (by omega) ?_
          rw [ha2]
          exact sb
        · have ee : e = 4 := by omega
          subst ee
          rw [accB_4 _ p0 p1] at q1 ⊢
          clear hbytes
          cases i with
          | zero =>
            refine wk ?_
            refine loopP (0 + 1) (by omega) (by omega) ?_
            try dsimp only
            rw [ho]
            exact sb
          | succ k =>
            refine wk ?_
            refine loopP (k + 1 + 1) (by omega) (by omega) ?_
            try dsimp only
            rw [ho]
            exact sb
    · have e : i = l.length := by omega
      subst e
      have b1 := lo l.length
      rw [outA_all l hl0] at b1 ⊢
      refine wk ?_
      exact RetH.mk rfl (Weak.refl _) ⟨⟨_, rfl, WeakL.refl _⟩, ⟨_, rfl, WeakL.refl _⟩, ⟨_, rfl, WeakL.refl _⟩, trivial⟩ ⟨⟨rfl, rfl⟩, trivial⟩
theorem jd_read (at_ most : Int) {N k : Nat} {D : DM} (h : GoD N k D) (h0 : 0 ≤ at_) (h1 : at_ < 1000000000) (m0 : 1 ≤ most) (m1 : most ≤ 1024) (hk : k ≤ 100000000) (hNN : N ≤ 1000000000) (l : List PPut) (hl : (l.length : Int) ≤ most) (hl0 : 0 < l.length) (ha : ∀ p ∈ areaJ at_ most l, D.read p.sec = (p.dat, 0)) (hs : ∀ p ∈ l, 0 ≤ p.sec ∧ p.sec < 4294967296) (d c m j : Nat) (hd : ([d, c, m, j] : List Nat).Nodup) : HCalls Tryd.prog 39 [.ptr j 0, pint l.length] (jG d c m j at_ most D) (dMs m D) (.tup [pputs l, pint 0]) (jG d c m j at_ most D) (dMs m D) := by
  refine (jd_read1 at_ most h h0 h1 m0 m1 hk hNN l hl hl0 ha hs).at (ids4 d c m j) hd (by simp [ResIds, jG, dG, dMs, ids4]) (by simp [jG, dG]) (by simp [dMs]) ?_ ?_ ?_ ?_ ?_ ?_
  case refine_4 => exact .low _ (.tup _ (by intro c hc; simp at hc; rcases hc with rfl | rfl; exact low_pputs _; exact .val _))
  all_goals exact ren0
end Go.Proofs.YtilcpcpmkklobaaDoor

/- The journal whose disk fails, without a program: what is found after a failure. -/
namespace Go.Proofs.YtilcpcpmkklobaaDoor
set_option linter.unusedSimpArgs false
set_option linter.unusedVariables false
set_option linter.unnecessarySimpa false
open Go.RowKit

/-- What is read after writes. -/
def after (D : DM) (l : List PPut) (q : Int) : Sec × Int := match lastP q l with | some s => (s, 0) | none => D.read q
theorem after_none {D : DM} {l : List PPut} {q : Int} (h : ∀ p ∈ l, p.sec ≠ q) : after D l q = D.read q := by rw [after, lastP_none h]
theorem nxs_w {n : Nat} : ∀ (l : List PPut) {k : Nat} {D : DM}, OkD n k D → InD n l → k + l.length ≤ 1000000000 → ∀ q : Int, 0 ≤ q → q < n → (D.nxs (wops l)).read q = after D l q ∧ ((∀ p ∈ l, p.sec ≠ q) → (D.nxs (wops l)).get q = D.get q)
  | [], k, D, h, _, _, q, _, _ => ⟨rfl, fun _ => rfl⟩
  | p :: l, k, D, h, hi, hk, q, q0, q1 => by
    simp only [List.length_cons] at hk
    obtain ⟨h0, h1⟩ := hi p (List.mem_cons_self ..)
    obtain ⟨w1, w2, w3⟩ := nx_w h h0 h1 (by omega) p.dat q
    have ho := h.nx (o := .w p.sec p.dat) ⟨h0, h1⟩ (by omega)
    obtain ⟨i1, i2⟩ := nxs_w l ho (fun x hx => hi x (List.mem_cons_of_mem _ hx)) (by omega) q q0 q1
    refine ⟨?_, fun hn => ?_⟩
    · show ((D.nx (.w p.sec p.dat)).nxs (wops l)).read q = _
      rw [i1, after, after, lastP]
      cases lastP q l with
      | some s => rfl
      | none =>
        simp only
        rw [w3 q0 q1]
        by_cases e : q = p.sec
        · rw [if_pos e, if_pos e.symm]
        · rw [if_neg e, if_neg (fun h => e h.symm)]
    · show ((D.nx (.w p.sec p.dat)).nxs (wops l)).get q = _
      rw [i2 (fun x hx => hn x (List.mem_cons_of_mem _ hx)), w1, if_neg (fun e => hn p (List.mem_cons_self ..) e.symm)]

/-- A failure within four steps. -/
theorem four_crash {n k : Nat} {D : DM} (h : OkD n k D) (ho : D.op = []) {at_ : Int} (h0 : 0 ≤ at_) (h1 : at_ < n) {l : List PPut} (hi : InD n l) (hk : k + l.length + 3 ≤ 1000000000) (hat : ∀ p ∈ l, p.sec ≠ at_) (g : Sec) (m : Nat) (keep : List Int) :
    let C := (D.nxs ((fourO at_ l g).take m)).crash keep
    OkD n 0 C ∧ C.op = [] ∧ ((∀ q : Int, 0 ≤ q → q < n → (∀ p ∈ l, p.sec ≠ q) → C.read q = D.read q) ∨
      ((∀ q : Int, 0 ≤ q → q < n → q ≠ at_ → C.read q = after D l q) ∧ (C.read at_ = D.read at_ ∨ C.read at_ = (zeroSec, 221) ∨ ∃ s : Sec, C.read at_ = (s, 0) ∧ s.1.take 32 = g.1.take 32))) := by
  intro C
  have hn : 0 < n := by omega
  have hin : ∀ o ∈ (fourO at_ l g).take m, o.inD n := fun o hm => fourO_in h0 h1 hi g o (List.mem_of_mem_take hm)
  have hlen : ((fourO at_ l g).take m).length ≤ l.length + 3 := by rw [List.length_take, fourO_len]; omega
  have hE := h.nxs _ hin (by omega)
  refine ⟨crash_ok hE keep, rfl, ?_⟩
  have W := nxs_w l h hi (by omega)
  have hW := h.nxs (wops l) (wops_in hi) (by rw [wops_len]; omega)
  rw [wops_len] at hW
  have hS := nx_sync hW hn
  have hS1 := hW.nx (o := .sync) hn (by omega)
  have hat2 : after D l at_ = D.read at_ := after_none hat
  rcases fourO_take at_ l g m with e | e | e | e
  · left
    intro q q0 q1 hq
    have hq2 : ∀ p ∈ l.take m, p.sec ≠ q := fun p hp => hq p (List.mem_of_mem_take hp)
    have W2 := nxs_w (l.take m) h (fun p hp => hi p (List.mem_of_mem_take hp)) (by rw [List.length_take]; omega) q q0 q1
    show ((D.nxs ((fourO at_ l g).take m)).crash keep).read q = _
    rw [e] at hE ⊢
    rw [crash_read hE keep q0 q1 (by rw [W2.2 hq2]; exact get_nil ho q), W2.1, after_none hq2]
  · right
    have eE : D.nxs ((fourO at_ l g).take m) = (D.nxs (wops l)).nx .sync := by rw [e, nxs_append]; rfl
    have key : ∀ q : Int, 0 ≤ q → q < n → C.read q = after D l q := by
      intro q q0 q1
      show ((D.nxs ((fourO at_ l g).take m)).crash keep).read q = _
      rw [eE] at hE ⊢
      rw [crash_read hE keep q0 q1 (get_nil hS.1 q), hS.2 q q0 q1, (W q q0 q1).1]
    exact ⟨fun q q0 q1 _ => key q q0 q1, .inl (by rw [key at_ h0 h1, hat2])⟩
  · right
    have eE : D.nxs ((fourO at_ l g).take m) = ((D.nxs (wops l)).nx .sync).nx (.w at_ g) := by rw [e, nxs_append]; rfl
    have N2 := nx_w hS1 h0 h1 (by omega) g
    refine ⟨fun q q0 q1 hq => ?_, ?_⟩
    · show ((D.nxs ((fourO at_ l g).take m)).crash keep).read q = _
      rw [eE] at hE ⊢
      rw [crash_read hE keep q0 q1 (by rw [(N2 q).1, if_neg hq]; exact get_nil hS.1 q), (N2 q).2.2 q0 q1, if_neg hq, hS.2 q q0 q1, (W q q0 q1).1]
    · show ((D.nxs ((fourO at_ l g).take m)).crash keep).read at_ = _ ∨ ((D.nxs ((fourO at_ l g).take m)).crash keep).read at_ = _ ∨ ∃ s : Sec, ((D.nxs ((fourO at_ l g).take m)).crash keep).read at_ = _ ∧ _
      rw [eE] at hE ⊢
      have hc := crash_read1 hE keep h0 h1 (g := g) (by rw [(N2 at_).1, if_pos rfl, get_nil hS.1]; rfl)
      rw [(N2 at_).2.1] at hc
      have hold : (if (((D.nxs (wops l)).nx .sync).cell at_).bad then (zeroSec, (221 : Int)) else ((((D.nxs (wops l)).nx .sync).cell at_).s, 0)) = D.read at_ := by
        rw [← hat2, ← (W at_ h0 h1).1, ← hS.2 at_ h0 h1, hS1.read h0 h1, get_nil hS.1, if_neg (show ¬ (0 < ([] : List Sec).length) by simp)]
      rw [hold] at hc
      exact hc
  · right
    have eE : D.nxs ((fourO at_ l g).take m) = (((D.nxs (wops l)).nx .sync).nx (.w at_ g)).nx .sync := by rw [e, fourO, nxs_append]; rfl
    have N2 := nx_w hS1 h0 h1 (by omega) g
    have hS2 := hS1.nx (o := .w at_ g) ⟨h0, h1⟩ (by omega)
    have hS3 := nx_sync hS2 hn
    have key : ∀ q : Int, 0 ≤ q → q < n → C.read q = if q = at_ then (g, 0) else after D l q := by
      intro q q0 q1
      show ((D.nxs ((fourO at_ l g).take m)).crash keep).read q = _
      rw [eE] at hE ⊢
      rw [crash_read hE keep q0 q1 (get_nil hS3.1 q), hS3.2 q q0 q1, (N2 q).2.2 q0 q1, hS.2 q q0 q1, (W q q0 q1).1]
    exact ⟨fun q q0 q1 hq => by rw [key q q0 q1, if_neg hq], .inr (.inr ⟨g, by rw [key at_ h0 h1, if_pos rfl], rfl⟩)⟩
/-- All four steps. -/
theorem four_all {n k : Nat} {D : DM} (h : OkD n k D) {at_ : Int} (h0 : 0 ≤ at_) (h1 : at_ < n) {l : List PPut} (hi : InD n l) (hk : k + l.length + 3 ≤ 1000000000) (g : Sec) :
    let E := D.nxs (fourO at_ l g)
    OkD n (k + l.length + 3) E ∧ E.op = [] ∧ ∀ q : Int, 0 ≤ q → q < n → E.read q = if q = at_ then (g, 0) else after D l q := by
  intro E
  have hn : 0 < n := by omega
  have W := nxs_w l h hi (by omega)
  have hW := h.nxs (wops l) (wops_in hi) (by rw [wops_len]; omega)
  rw [wops_len] at hW
  have hS := nx_sync hW hn
  have hS1 := hW.nx (o := .sync) hn (by omega)
  have N2 := nx_w hS1 h0 h1 (by omega) g
  have hS2 := hS1.nx (o := .w at_ g) ⟨h0, h1⟩ (by omega)
  have hS3 := nx_sync hS2 hn
  have eE : D.nxs (fourO at_ l g) = (((D.nxs (wops l)).nx .sync).nx (.w at_ g)).nx .sync := by rw [fourO, nxs_append]; rfl
  have hE := h.nxs _ (fourO_in h0 h1 hi g) (by rw [fourO_len]; omega)
  rw [fourO_len] at hE
  refine ⟨hE, ?_, fun q q0 q1 => ?_⟩
  · show (D.nxs (fourO at_ l g)).op = []
    rw [eE]; exact hS3.1
  · show (D.nxs (fourO at_ l g)).read q = _
    rw [eE, hS3.2 q q0 q1, (N2 q).2.2 q0 q1, hS.2 q q0 q1, (W q q0 q1).1]

theorem lastP_memD {q : Int} : ∀ {l : List PPut} {s : Sec}, lastP q l = some s → ∃ p ∈ l, p.sec = q ∧ p.dat = s
  | [], s, h => by cases h
  | p :: l, s, h => by
    rw [lastP] at h
    cases hl : lastP q l with
    | some t =>
      rw [hl] at h
      simp only [Option.some.injEq] at h
      subst h
      obtain ⟨x, hx, e⟩ := lastP_memD hl; exact ⟨x, List.mem_cons_of_mem _ hx, e⟩
    | none =>
      rw [hl] at h
      simp only at h
      split at h
      · rename_i e; cases h; exact ⟨p, List.mem_cons_self .., e, rfl⟩
      · cases h
theorem lastP_some {q : Int} : ∀ {l : List PPut}, (∃ p ∈ l, p.sec = q) → lastP q l ≠ none
  | [], h => by obtain ⟨p, hp, -⟩ := h; simp at hp
  | p :: l, h => by
    rw [lastP]
    cases hl : lastP q l with
    | some t => simp
    | none =>
      obtain ⟨x, hx, e⟩ := h
      rcases List.mem_cons.1 hx with rfl | hx
      · simp [e]
      · exact absurd hl (lastP_some ⟨x, hx, e⟩)
theorem lastP_uniq {l : List PPut} (h : ∀ p ∈ l, ∀ p' ∈ l, p.sec = p'.sec → p.dat = p'.dat) {p : PPut} (hp : p ∈ l) : lastP p.sec l = some p.dat := by
  cases hl : lastP p.sec l with
  | none => exact absurd hl (lastP_some ⟨p, hp, rfl⟩)
  | some s =>
    obtain ⟨x, hx, e1, e2⟩ := lastP_memD hl
    rw [← e2, h x hx p hp e1]
theorem area_uniq (at_ most : Int) (l : List PPut) (hl : (l.length : Int) ≤ most) : ∀ p ∈ areaJ at_ most l, ∀ p' ∈ areaJ at_ most l, p.sec = p'.sec → p.dat = p'.dat := by
  have hn : numbersI l.length ≤ numbersI most ∧ 0 ≤ numbersI l.length := by unfold numbersI; omega
  intro p hp p' hp' e
  rw [areaJ] at hp hp'
  rcases List.mem_append.1 hp with h | h <;> rcases List.mem_append.1 hp' with h' | h' <;> obtain ⟨i, hi, rfl⟩ := List.mem_map.1 h <;> obtain ⟨i', hi', rfl⟩ := List.mem_map.1 h' <;> simp only [List.mem_range, rowsT_len] at hi hi' <;> simp only at e ⊢
  · have : i = i' := by omega
    rw [this]
  · omega
  · omega
  · have : i = i' := by omega
    rw [this]

/-- A disk with a journal that is decided: its area has a change, and its head says so. -/
structure S1 (N k : Nat) (at_ most : Int) (D : DM) (M : List Sec) (l : List PPut) : Prop where
  ok : OkD N k D
  op : D.op = []
  len : M.length = N
  head : ∃ s : Sec, D.read at_ = (s, 0) ∧ s.1.take 18 = (fullHead l).1.take 18
  area : ∀ p ∈ areaJ at_ most l, D.read p.sec = (p.dat, 0)
  out : ∀ q : Nat, q < N → ((q : Int) < at_ ∨ at_ + roomI most ≤ q) → (∀ p ∈ l, p.sec ≠ q) → D.read q = (M.getD q default, 0)
theorem take18 {a b : List Int} (h : a.take 32 = b.take 32) : a.take 18 = b.take 18 := by
  have e : ∀ x : List Int, x.take 18 = (x.take 32).take 18 := fun x => by rw [List.take_take]; rfl
  rw [e a, e b, h]
theorem getD_take {a b : List Int} {n i : Nat} (h : a.take n = b.take n) (hi : i < n) : a.getD i 0 = b.getD i 0 := by
  have e : ∀ x : List Int, x.getD i 0 = (x.take n).getD i 0 := fun x => by rw [List.getD_eq_getElem?_getD, List.getD_eq_getElem?_getD, List.getElem?_take_of_lt hi]
  rw [e a, e b, h]
section
variable {N k : Nat} {at_ most : Int} {D : DM} {M : List Sec} {l : List PPut}
theorem lies_spec (hb : liesB N at_ most = true) : 1 ≤ most ∧ most ≤ 1024 ∧ 0 ≤ at_ ∧ at_ + roomI most ≤ N ∧ 0 < roomI most ∧ roomI most = 1 + numbersI most + most ∧ at_ < N := by
  simp only [liesB, decide_eq_true_eq] at hb
  have hr : roomI most = 1 + numbersI most + most := by unfold roomI; rw [if_neg (by omega)]
  have hnn : 0 ≤ numbersI most := by unfold numbersI; omega
  omega
theorem JInv.of_read {k' : Nat} {E : DM} (h : JInv N k at_ most D M) (hb : liesB N at_ most = true) (hE : OkD N k' E) (ho : E.op = []) (hh : HeadOK E at_) (hr : ∀ q : Int, 0 ≤ q → q < N → (q < at_ ∨ at_ + roomI most ≤ q) → E.read q = D.read q) : JInv N k' at_ most E M :=
  ⟨hE, ho, h.len, hh, fun q hq hqo => by rw [hr q (by omega) (by omega) hqo]; exact h.out q hq hqo⟩
theorem JInv.crash (h : JInv N k at_ most D M) (hb : liesB N at_ most = true) (keep : List Int) : JInv N 0 at_ most (D.crash keep) M := by
  obtain ⟨m0, m1, h0, hN, hr, hrn, hat⟩ := lies_spec hb
  have hc : ∀ q : Int, 0 ≤ q → q < N → (D.crash keep).read q = D.read q := fun q q0 q1 => crash_read h.ok keep q0 q1 (get_nil h.op q)
  refine h.of_read hb (crash_ok h.ok keep) rfl ?_ (fun q q0 q1 _ => hc q q0 q1)
  unfold HeadOK
  rw [hc at_ h0 hat]
  exact h.head
theorem S1.crash (h : S1 N k at_ most D M l) (hb : liesB N at_ most = true) (hl : (l.length : Int) ≤ most) (keep : List Int) : S1 N 0 at_ most (D.crash keep) M l := by
  obtain ⟨m0, m1, h0, hN, hr, hrn, hat⟩ := lies_spec hb
  have hc : ∀ q : Int, 0 ≤ q → q < N → (D.crash keep).read q = D.read q := fun q q0 q1 => crash_read h.ok keep q0 q1 (get_nil h.op q)
  obtain ⟨al, ai⟩ := area_in l h0 m0 m1 hN hl
  refine ⟨crash_ok h.ok keep, rfl, h.len, by rw [hc at_ h0 hat]; exact h.head, fun p hp => ?_, fun q hq ho hn => ?_⟩
  · have := ai p hp
    rw [hc _ (by omega) (by omega)]; exact h.area p hp
  · rw [hc _ (by omega) (by omega)]; exact h.out q hq ho hn
theorem emptyHead_take {s : Sec} (h : s.1.take 32 = emptyHead.1.take 32) : s.1.getD 0 0 = 0 ∧ s.1.getD 1 0 = 0 := by
  rw [getD_take h (by decide), getD_take h (by decide)]
  exact emptyHead_ok
/-- The second half: a failure within it. -/
theorem S1.finish_crash (h : S1 N k at_ most D M l) (hb : liesB N at_ most = true) (he : jApE N at_ most l = 0) (hk : k + 10000 ≤ 100000000) (m : Nat) (keep : List Int) :
    S1 N 0 at_ most ((D.nxs ((fourO at_ l emptyHead).take m)).crash keep) M l ∨ JInv N 0 at_ most ((D.nxs ((fourO at_ l emptyHead).take m)).crash keep) (doM M l) := by
  obtain ⟨m0, m1, h0, hN, hr, hrn, hat⟩ := lies_spec hb
  obtain ⟨e1, e2⟩ := jApE_zero he
  obtain ⟨al, ai⟩ := area_in l h0 m0 m1 hN e1
  have hin : InD N l := fun p hp => by have := e2 p hp; omega
  have hna : ∀ p ∈ l, p.sec ≠ at_ := fun p hp => by have := e2 p hp; omega
  obtain ⟨c1, c2, c3⟩ := four_crash h.ok h.op h0 hat hin (by omega) hna emptyHead m keep
  generalize (D.nxs ((fourO at_ l emptyHead).take m)).crash keep = C at *
  rcases c3 with c | ⟨c, d⟩
  · refine .inl ⟨c1, c2, h.len, by rw [c at_ h0 hat hna]; exact h.head, fun p hp => ?_, fun q hq ho hn => ?_⟩
    · have hp2 := ai p hp
      rw [c _ (by omega) (by omega) (fun x hx => by have := e2 x hx; omega)]; exact h.area p hp
    · rw [c _ (by omega) (by omega) hn]; exact h.out q hq ho hn
  · have hdone : HeadOK C at_ → JInv N 0 at_ most C (doM M l) := fun hh => by
      refine ⟨c1, c2, by rw [doM_len]; exact h.len, hh, fun q hq ho => ?_⟩
      rw [c q (by omega) (by omega) (by omega), after, doM_get l M (by rw [h.len]; exact hin) q (by rw [h.len]; exact hq)]
      cases hlp : lastP q l with
      | some s => rfl
      | none => exact h.out q hq ho (fun p hp e => lastP_some ⟨p, hp, e⟩ hlp)
    rcases d with d | d | ⟨s, d, d2⟩
    · refine .inl ⟨c1, c2, h.len, by rw [d]; exact h.head, fun p hp => ?_, fun q hq ho hn => ?_⟩
      · have hp2 := ai p hp
        rw [c _ (by omega) (by omega) (by omega), after_none (fun x hx => by have := e2 x hx; omega)]; exact h.area p hp
      · rw [c _ (by omega) (by omega) (by omega), after_none hn]; exact h.out q hq ho hn
    · exact .inr (hdone (.inl d))
    · obtain ⟨z0, z1⟩ := emptyHead_take d2
      exact .inr (hdone (.inr (by rw [d]; exact ⟨rfl, z0, z1⟩)))
theorem S1.finish_all (h : S1 N k at_ most D M l) (hb : liesB N at_ most = true) (he : jApE N at_ most l = 0) (hk : k + 10000 ≤ 100000000) : JInv N (k + 2000) at_ most (D.nxs (fourO at_ l emptyHead)) (doM M l) := by
  obtain ⟨m0, m1, h0, hN, hr, hrn, hat⟩ := lies_spec hb
  obtain ⟨e1, e2⟩ := jApE_zero he
  have hin : InD N l := fun p hp => by have := e2 p hp; omega
  obtain ⟨c1, c2, c3⟩ := four_all h.ok h0 hat hin (by omega) emptyHead
  refine ⟨c1.mono (by omega), c2, by rw [doM_len]; exact h.len, .inr ?_, fun q hq ho => ?_⟩
  · rw [c3 at_ h0 hat, if_pos rfl]; exact ⟨rfl, emptyHead_ok.1, emptyHead_ok.2⟩
  · rw [c3 q (by omega) (by omega), if_neg (by omega), after, doM_get l M (by rw [h.len]; exact hin) q (by rw [h.len]; exact hq)]
    cases hlp : lastP q l with
    | some s => rfl
    | none => exact h.out q hq ho (fun p hp e => lastP_some ⟨p, hp, e⟩ hlp)
/-- The first half. -/
theorem JInv.half (h : JInv N k at_ most D M) (hb : liesB N at_ most = true) (he : jApE N at_ most l = 0) (hk : k + 10000 ≤ 100000000) : S1 N (k + 3000) at_ most (D.nxs (fourO at_ (areaJ at_ most l) (fullHead l))) M l := by
  obtain ⟨m0, m1, h0, hN, hr, hrn, hat⟩ := lies_spec hb
  obtain ⟨e1, e2⟩ := jApE_zero he
  obtain ⟨al, ai⟩ := area_in l h0 m0 m1 hN e1
  have hnb : numbersI l.length ≤ 64 ∧ 0 ≤ numbersI l.length := by unfold numbersI; omega
  have hin : InD N (areaJ at_ most l) := fun p hp => by have := ai p hp; omega
  obtain ⟨c1, c2, c3⟩ := four_all h.ok h0 hat hin (by omega) (fullHead l)
  refine ⟨c1.mono (by omega), c2, h.len, ⟨fullHead l, by rw [c3 at_ h0 hat, if_pos rfl], rfl⟩, fun p hp => ?_, fun q hq ho hn => ?_⟩
  · have := ai p hp
    rw [c3 _ (by omega) (by omega), if_neg (by omega), after, lastP_uniq (area_uniq at_ most l e1) hp]
  · rw [c3 _ (by omega) (by omega), if_neg (by omega), after_none (fun p hp => by have := ai p hp; omega)]; exact h.out q hq ho
theorem JInv.half_crash (h : JInv N k at_ most D M) (hb : liesB N at_ most = true) (he : jApE N at_ most l = 0) (hk : k + 10000 ≤ 100000000) (m : Nat) (keep : List Int) :
    JInv N 0 at_ most ((D.nxs ((fourO at_ (areaJ at_ most l) (fullHead l)).take m)).crash keep) M ∨ S1 N 0 at_ most ((D.nxs ((fourO at_ (areaJ at_ most l) (fullHead l)).take m)).crash keep) M l := by
  obtain ⟨m0, m1, h0, hN, hr, hrn, hat⟩ := lies_spec hb
  obtain ⟨e1, e2⟩ := jApE_zero he
  obtain ⟨al, ai⟩ := area_in l h0 m0 m1 hN e1
  have hnb : numbersI l.length ≤ 64 ∧ 0 ≤ numbersI l.length := by unfold numbersI; omega
  have hin : InD N (areaJ at_ most l) := fun p hp => by have := ai p hp; omega
  have hna : ∀ p ∈ areaJ at_ most l, p.sec ≠ at_ := fun p hp => by have := ai p hp; omega
  obtain ⟨c1, c2, c3⟩ := four_crash h.ok h.op h0 hat hin (by omega) hna (fullHead l) m keep
  generalize (D.nxs ((fourO at_ (areaJ at_ most l) (fullHead l)).take m)).crash keep = C at *
  rcases c3 with c | ⟨c, d⟩
  · refine .inl (h.of_read hb c1 c2 ?_ (fun q q0 q1 qo => c q q0 q1 (fun p hp => by have := ai p hp; omega)))
    unfold HeadOK
    rw [c at_ h0 hat hna]; exact h.head
  · have hout : ∀ q : Int, 0 ≤ q → q < N → (q < at_ ∨ at_ + roomI most ≤ q) → C.read q = D.read q := fun q q0 q1 qo => by
      rw [c q q0 q1 (by omega), after_none (fun p hp => by have := ai p hp; omega)]
    rcases d with d | d | ⟨s, d, d2⟩
    · refine .inl (h.of_read hb c1 c2 ?_ hout)
      unfold HeadOK
      rw [d]; exact h.head
    · exact .inl (h.of_read hb c1 c2 (.inl d) hout)
    · refine .inr ⟨c1, c2, h.len, ⟨s, d, take18 d2⟩, fun p hp => ?_, fun q hq ho hn => ?_⟩
      · have := ai p hp
        rw [c _ (by omega) (by omega) (by omega), after, lastP_uniq (area_uniq at_ most l e1) hp]
      · rw [hout q (by omega) (by omega) ho]; exact h.out q hq ho
/-- An Apply: a failure within it. -/
theorem JInv.apply_crash (h : JInv N k at_ most D M) (hb : liesB N at_ most = true) (he : jApE N at_ most l = 0) (hk : k + 20000 ≤ 100000000) (m : Nat) (keep : List Int) :
    let C := (D.nxs ((applyO at_ most l).take m)).crash keep
    JInv N 0 at_ most C M ∨ S1 N 0 at_ most C M l ∨ JInv N 0 at_ most C (doM M l) := by
  intro C
  by_cases hm : m ≤ (fourO at_ (areaJ at_ most l) (fullHead l)).length
  · have e : (applyO at_ most l).take m = (fourO at_ (areaJ at_ most l) (fullHead l)).take m := List.take_append_of_le_length hm
    show JInv N 0 at_ most ((D.nxs ((applyO at_ most l).take m)).crash keep) M ∨ _
    have hC : C = (D.nxs ((fourO at_ (areaJ at_ most l) (fullHead l)).take m)).crash keep := by
      show (D.nxs ((applyO at_ most l).take m)).crash keep = _
      rw [e]
    rcases h.half_crash hb he (by omega) m keep with x | x
    · exact .inl (by rw [e]; exact x)
    · exact .inr (.inl (by rw [hC]; exact x))
  · have e : (applyO at_ most l).take m = fourO at_ (areaJ at_ most l) (fullHead l) ++ (fourO at_ l emptyHead).take (m - (fourO at_ (areaJ at_ most l) (fullHead l)).length) := by
      rw [applyO, List.take_append, List.take_of_length_le (by omega)]
    have hC : C = ((D.nxs (fourO at_ (areaJ at_ most l) (fullHead l))).nxs ((fourO at_ l emptyHead).take (m - (fourO at_ (areaJ at_ most l) (fullHead l)).length))).crash keep := by
      show (D.nxs ((applyO at_ most l).take m)).crash keep = _
      rw [e, nxs_append]
    rw [hC]
    exact .inr ((h.half hb he (by omega)).finish_crash hb he (by omega) _ keep)
theorem JInv.apply_all (h : JInv N k at_ most D M) (hb : liesB N at_ most = true) (he : jApE N at_ most l = 0) (hk : k + 20000 ≤ 100000000) : JInv N (k + 5000) at_ most (D.nxs (applyO at_ most l)) (doM M l) := by
  rw [applyO, nxs_append]
  exact (h.half hb he (by omega)).finish_all hb he (by omega)
/-- A head is emptied: a failure within it, and all of it. -/
theorem JInv.head_crash (h : JInv N k at_ most D M) (hb : liesB N at_ most = true) (hk : k + 10000 ≤ 100000000) (m : Nat) (keep : List Int) : JInv N 0 at_ most ((D.nxs ((headO at_).take m)).crash keep) M := by
  obtain ⟨m0, m1, h0, hN, hr, hrn, hat⟩ := lies_spec hb
  have N2 := nx_w h.ok h0 hat (by omega) emptyHead
  have hE := h.ok.nx (o := .w at_ emptyHead) ⟨h0, hat⟩ (by omega)
  match m with
  | 0 => exact h.crash hb keep
  | 1 =>
    show JInv N 0 at_ most ((D.nx (.w at_ emptyHead)).crash keep) M
    refine h.of_read hb (crash_ok hE keep) rfl ?_ (fun q q0 q1 qo => ?_)
    · have hc := crash_read1 hE keep h0 hat (g := emptyHead) (by rw [(N2 at_).1, if_pos rfl, get_nil h.op]; rfl)
      rw [(N2 at_).2.1] at hc
      have hold : (if (D.cell at_).bad then (zeroSec, (221 : Int)) else ((D.cell at_).s, 0)) = D.read at_ := by
        rw [h.ok.read h0 hat, get_nil h.op, if_neg (show ¬ (0 < ([] : List Sec).length) by simp)]
      rw [hold] at hc
      unfold HeadOK
      rcases hc with d | d | ⟨s, d, d2⟩
      · rw [d]; exact h.head
      · exact .inl d
      · obtain ⟨z0, z1⟩ := emptyHead_take d2
        rw [d]; exact .inr ⟨rfl, z0, z1⟩
    · have hq : q ≠ at_ := by omega
      rw [crash_read hE keep q0 q1 (by rw [(N2 q).1, if_neg hq]; exact get_nil h.op q), (N2 q).2.2 q0 q1, if_neg hq]
  | m + 2 =>
    have hn : 0 < N := by omega
    have hS := nx_sync hE hn
    have hS1 := hE.nx (o := .sync) hn (by omega)
    show JInv N 0 at_ most (((D.nx (.w at_ emptyHead)).nx .sync).nxs (([] : List DOp).take m) |>.crash keep) M
    rw [List.take_nil]
    show JInv N 0 at_ most (((D.nx (.w at_ emptyHead)).nx .sync).crash keep) M
    have key : ∀ q : Int, 0 ≤ q → q < N → (((D.nx (.w at_ emptyHead)).nx .sync).crash keep).read q = if q = at_ then (emptyHead, 0) else D.read q := fun q q0 q1 => by
      rw [crash_read hS1 keep q0 q1 (get_nil hS.1 q), hS.2 q q0 q1, (N2 q).2.2 q0 q1]
    refine h.of_read hb (crash_ok hS1 keep) rfl (.inr ?_) (fun q q0 q1 qo => by rw [key q q0 q1, if_neg (by omega)])
    rw [key at_ h0 hat, if_pos rfl]
    exact ⟨rfl, emptyHead_ok.1, emptyHead_ok.2⟩
theorem JInv.head_all (h : JInv N k at_ most D M) (hb : liesB N at_ most = true) (hk : k + 10000 ≤ 100000000) : JInv N (k + 2) at_ most (D.nxs (headO at_)) M := by
  obtain ⟨m0, m1, h0, hN, hr, hrn, hat⟩ := lies_spec hb
  have hn : 0 < N := by omega
  have N2 := nx_w h.ok h0 hat (by omega) emptyHead
  have hE := h.ok.nx (o := .w at_ emptyHead) ⟨h0, hat⟩ (by omega)
  have hS := nx_sync hE hn
  have hS1 := hE.nx (o := .sync) hn (by omega)
  show JInv N (k + 2) at_ most ((D.nx (.w at_ emptyHead)).nx .sync) M
  have key : ∀ q : Int, 0 ≤ q → q < N → ((D.nx (.w at_ emptyHead)).nx .sync).read q = if q = at_ then (emptyHead, 0) else D.read q := fun q q0 q1 => by
    rw [hS.2 q q0 q1, (N2 q).2.2 q0 q1]
  refine h.of_read hb hS1 hS.1 (.inr ?_) (fun q q0 q1 qo => by rw [key q q0 q1, if_neg (by omega)])
  rw [key at_ h0 hat, if_pos rfl]
  exact ⟨rfl, emptyHead_ok.1, emptyHead_ok.2⟩
end
end Go.Proofs.YtilcpcpmkklobaaDoor

/- The journal whose disk fails: it is opened. -/
namespace Go.Proofs.YtilcpcpmkklobaaDoor
set_option linter.unusedSimpArgs false
set_option linter.unusedVariables false
set_option linter.unnecessarySimpa false
open Go.RowKit

/-- The head says that there is a change of so many elements. -/
def FullAt (D : DM) (at_ most : Int) (l : List PPut) : Prop := (∃ s : Sec, D.read at_ = (s, 0) ∧ s.1.take 18 = (fullHead l).1.take 18) ∧ (∀ p ∈ areaJ at_ most l, D.read p.sec = (p.dat, 0)) ∧ 0 < l.length ∧ (l.length : Int) ≤ most ∧ InD D.cells.length l
/-- What recover does: the result, the disk. -/
def RecP (D : DM) (at_ most : Int) (R : Int × DM) : Prop := (D.read at_ = (zeroSec, 221) ∧ R = D.run (headO at_)) ∨ ((D.read at_).2 = 0 ∧ (D.read at_).1.1.getD 0 0 = 0 ∧ (D.read at_).1.1.getD 1 0 = 0 ∧ R = (0, D)) ∨ ∃ l : List PPut, FullAt D at_ most l ∧ R = D.run (fourO at_ l emptyHead)
theorem head_bytes {s : Sec} {l : List PPut} (h : s.1.take 18 = (fullHead l).1.take 18) (hl : l.length ≤ 1024) : s.1.getD 0 0 = accB l.length 1 ∧ s.1.getD 1 0 = byteB l.length 1 ∧ (s.1.drop 2).take 16 = digG l := by
  have e0 := getD_take h (show 0 < 18 by decide)
  have e1 := getD_take h (show 1 < 18 by decide)
  refine ⟨?_, ?_, ?_⟩
  · rw [e0]
    show IntKind.u8.wrap (l.length : Int) = _
    rw [IntKind.wrap_u8]
    unfold accB
    omega
  · rw [e1]
    show IntKind.u8.wrap ((l.length : Int) / 256) = _
    rw [byteB_eq _ (by omega) 1 (by decide), IntKind.wrap_u8]
    omega
  · have e : ∀ x : List Int, (x.drop 2).take 16 = (x.take 18).drop 2 := fun x => by rw [List.drop_take]
    rw [e, h, ← e]
    show (digG l ++ List.replicate 46 0).take 16 = _
    rw [List.take_append_of_le_length (by rw [digG_len]; exact Nat.le_refl _), List.take_of_length_le (by rw [digG_len]; exact Nat.le_refl _)]
theorem accB_len (n : Nat) (h : n ≤ 1024) : accB n 2 = n := by
  unfold accB
  rw [Int.toNat_natCast, Nat.mod_eq_of_lt (Nat.lt_of_le_of_lt h (by decide))]

set_option maxRecDepth 10000 in
set_option maxHeartbeats 4000000 in
theorem jd_recover1 (most : Int) {N k : Nat} {D : DM} (h : GoD N k D) (at_ : Int) (h0 : 0 ≤ at_) (h1 : at_ < N) (m0 : 1 ≤ most) (m1 : most ≤ 1024) (hk : k + 2000 ≤ 100000000) (hNN : N ≤ 100000000) {R : Int × DM} (hh : RecP D at_ most R) : HCalls Tryd.prog 27 [.ptr 1000004 0] (jG 1000001 1000002 1000003 1000004 at_ most D) (dMs 1000003 D) (pint R.1) (jG 1000001 1000002 1000003 1000004 at_ most R.2) (dMs 1000003 R.2) := by
  have c1 := dC_low D
  have c2 := dM_low D
  have c3 := dC_low R.2
  have c4 := dM_low R.2
  refine hcalls_of_pw typeTab_ok Tryd.func27 rfl rfl (by simp [PV.ownB]) (Nat.le_of_ble_eq_true rfl) (by simp [ResIds, jG, dG, dMs]) (by simp [ResIds, jG, dG, dMs]) (by exact hok0) ?_
  obtain ⟨f1, f2, f3⟩ := h.fit (by omega)
  have hread := dc_Read D at_ (by rw [h.len]; omega) f3 1000001 1000002 1000003 (by decide)
  rcases hh with ⟨hr, e1⟩ | ⟨he, hs0, hs1, e1⟩ | ⟨l, hf, e1⟩
  · rw [hr] at hread
    have hsync := jc_sync at_ most D 1000001 1000002 1000003 1000004 (by decide)
    have hhead := jc_head at_ most D 0 zeroDig rfl 1000001 1000002 1000003 1000004 900007 900008 900009 (by decide)
    have hall := jd_all2 most h at_ h0 h1 (by omega) (by omega) 1000001 1000002 1000003 1000004 900007 900008 900009 (by decide)
    rw [← e1] at hall
    clear e1
    refine wk ?_
    exact RetH.mk rfl (Weak.refl _) ⟨⟨_, rfl, WeakL.refl _⟩, ⟨_, rfl, WeakL.refl _⟩, ⟨_, rfl, WeakL.refl _⟩, trivial⟩ ⟨⟨rfl, rfl⟩, trivial⟩
  · subst e1
    rw [he] at hread
    generalize (D.read at_).1 = s at *
    have g0 : (secL s)[0]? = some (pbyte 0) := by rw [secL_get s 0 (by decide), hs0]
    have g1 : (secL s)[1]? = some (pbyte 0) := by rw [secL_get s 1 (by decide), hs1]
    refine wk ?_
    refine PWops.ldB (c := pbyte 0) rfl rfl rfl rfl rfl rfl rfl rfl g0 rfl ?_
    refine wk ?_
    refine PWops.ldB (c := pbyte 0) rfl rfl rfl rfl rfl rfl rfl rfl g1 rfl ?_
    refine wk ?_
    exact RetH.mk rfl (Weak.refl _) ⟨⟨_, rfl, WeakL.refl _⟩, ⟨_, rfl, WeakL.refl _⟩, ⟨_, rfl, WeakL.refl _⟩, trivial⟩ ⟨⟨rfl, rfl⟩, trivial⟩
  · obtain ⟨⟨s, hr, ht⟩, ha, hl0, hlm, hin⟩ := hf
    rw [h.len] at hin
    obtain ⟨b0, b1, b2⟩ := head_bytes ht (by omega)
    rw [hr] at hread
    simp only at hread
    have g0 : (secL s)[0]? = some (pbyte (accB l.length 1)) := by rw [secL_get s 0 (by decide), b0]
    have g1 : (secL s)[1]? = some (pbyte (byteB l.length 1)) := by rw [secL_get s 1 (by decide), b1]
    have hsh := byteB_shl l.length (by omega) 1 (by decide)
    have hor := accB_or l.length (by omega) 1 (by decide)
    rw [accB_len l.length (by omega)] at hor
    have hbb : 0 ≤ byteB l.length 1 ∧ byteB l.length 1 < 256 := by unfold byteB; rw [IntKind.wrap_u8]; omega
    have hab : 0 ≤ accB l.length 1 ∧ accB l.length 1 < 256 := by unfold accB; omega
    have hrd := jd_read at_ most h h0 (by omega) m0 m1 (by omega) (by omega) l hlm hl0 ha (fun p hp => by have := hin p hp; omega) 1000001 1000002 1000003 1000004 (by decide)
    have hdig := pw_digest l (by omega) (by omega)
    rw [show ofS glob0 240 (dParts l) = digG l from rfl] at hdig
    have hfin := jd_finish most h at_ h0 h1 l hin (by omega) (by omega) 1000001 1000002 1000003 1000004 (by decide)
    rw [← e1] at hfin
    have hll := low_pputs l
    have hsl := secL_low s
    have hrow : (((secL s).drop 2).take 16).map PV.bare = (digG l).map pbyte := by
      rw [secL, ← List.map_drop, ← List.map_take, b2, List.map_map]; rfl
    have dl := digG_len l
    generalize accB l.length 1 = a at *
    generalize byteB l.length 1 = b at *
    generalize digG l = G at *
    clear e1 ht ha hr b0 b1 b2 hin f1 f2 f3
    obtain ⟨a0, a1⟩ := hab
    obtain ⟨b0, b1⟩ := hbb
    refine wk ?_
    refine PWops.ldB (c := pbyte a) rfl rfl rfl rfl rfl rfl rfl rfl g0 rfl ?_
    refine wk ?_
    refine PWops.ldB (c := pbyte b) rfl rfl rfl rfl rfl rfl rfl rfl g1 rfl ?_
    clear g0 g1
    have hraw : IntKind.i64.wrap ((BitVec.ofInt IntKind.i64.bits a ||| BitVec.ofInt IntKind.i64.bits (IntKind.i64.wrap (b * 2 ^ min (Int.toNat 8) IntKind.i64.bits))).toNat : Nat) = l.length := by
      rw [show IntKind.i64.wrap (b * 2 ^ min (Int.toNat 8) IntKind.i64.bits) = b * ((2 ^ (8 * 1) : Nat) : Int) from hsh]
      exact hor
    clear hsh hor
    refine wk ?_
    rw [hraw]
    clear hraw a0 a1 b0 b1
    refine wk ?_
    refine PWops.ldBA (row := G.map pbyte) rfl rfl rfl rfl rfl rfl rfl (by rw [secL_len]; exact Nat.le_of_ble_eq_true rfl) hrow ?_
    clear hrow
    have hq := peqs_ints (k := .u8) G G rfl
    rw [dl, beq_self_eq_true] at hq
    refine PWops.eqA rfl rfl rfl rfl rfl rfl rfl rfl hq (.inr rfl) ?_
    refine wk ?_
    exact RetH.mk rfl (Weak.refl _) ⟨⟨_, rfl, WeakL.refl _⟩, ⟨_, rfl, WeakL.refl _⟩, ⟨_, rfl, WeakL.refl _⟩, trivial⟩ ⟨⟨rfl, rfl⟩, trivial⟩
theorem jd_recover (most : Int) {N k : Nat} {D : DM} (h : GoD N k D) (at_ : Int) (h0 : 0 ≤ at_) (h1 : at_ < N) (m0 : 1 ≤ most) (m1 : most ≤ 1024) (hk : k + 2000 ≤ 100000000) (hNN : N ≤ 100000000) {R : Int × DM} (hh : RecP D at_ most R) (d c m j : Nat) (hd : ([d, c, m, j] : List Nat).Nodup) : HCalls Tryd.prog 27 [.ptr j 0] (jG d c m j at_ most D) (dMs m D) (pint R.1) (jG d c m j at_ most R.2) (dMs m R.2) := by
  refine (jd_recover1 most h at_ h0 h1 m0 m1 hk hNN hh).at (ids4 d c m j) hd (by simp [ResIds, jG, dG, dMs, ids4]) (by simp [jG, dG]) (by simp [dMs]) ?_ ?_ ?_ ?_ ?_ ?_ <;> exact ren0

set_option maxRecDepth 10000 in
set_option maxHeartbeats 2000000 in
theorem jd_open1 (at_ most : Int) {N k : Nat} {D : DM} (h : GoD N k D) (hb : liesB N at_ most = true) (hk : k + 2000 ≤ 100000000) (hNN : N ≤ 100000000) {R : Int × DM} (hh : RecP D at_ most R) (hz : R.1 = 0) : HCalls Tryd.prog 11 [.ptr 1000001 0, pint at_, pint most] (dG 1000001 1000002 1000003 D) (dMs 1000003 D) (.tup [.ptr 4004 0, pint 0]) (jG 1000001 1000002 1000003 4004 at_ most R.2) (dMs 1000003 R.2) := by
  have c1 := dC_low D
  have c2 := dM_low D
  refine hcalls_of_pw typeTab_ok Tryd.func11 rfl rfl (by simp [PV.ownB, pint]) (Nat.le_of_ble_eq_true rfl) (by simp [ResIds, jG, dG, dMs]) (by simp [ResIds, jG, dG, dMs]) (by exact hok0) ?_
  have hrm := pw_room most
  have hsz := dc_Size D 1000001 1000002 1000003 (by decide)
  rw [h.len] at hsz
  obtain ⟨m0, m1, h0, hN, hr, -, hat⟩ := lies_spec hb
  have hrr : roomI most ≤ 2000 := by unfold roomI numbersI; rw [if_neg (by omega)]; omega
  have hrec := jd_recover most h at_ h0 hat m0 m1 hk hNN hh 1000001 1000002 1000003 4004 (by decide)
  rw [hz] at hrec
  clear hh
  generalize roomI most = Q at *
  generalize R.2 = D2 at *
  refine wk ?_
  exact RetH.mk rfl (Weak.refl _) ⟨⟨_, rfl, WeakL.refl _⟩, ⟨_, rfl, WeakL.refl _⟩, ⟨_, rfl, WeakL.refl _⟩, trivial⟩ ⟨⟨rfl, rfl⟩, trivial⟩
theorem jd_open (at_ most : Int) {N k : Nat} {D : DM} (h : GoD N k D) (hb : liesB N at_ most = true) (hk : k + 2000 ≤ 100000000) (hNN : N ≤ 100000000) {R : Int × DM} (hh : RecP D at_ most R) (hz : R.1 = 0) (d c m j : Nat) (hd : ([d, c, m, j] : List Nat).Nodup) : HCalls Tryd.prog 11 [.ptr d 0, pint at_, pint most] (dG d c m D) (dMs m D) (.tup [.ptr j 0, pint 0]) (jG d c m j at_ most R.2) (dMs m R.2) := by
  refine (jd_open1 at_ most h hb hk hNN hh hz).at [(1000001, d), (1000002, c), (1000003, m), (4004, j)] (by simpa using hd) (by simp [ResIds, jG, dG, dMs]) (by simp [jG, dG]) (by simp [dMs]) ?_ ?_ ?_ (ren_tup (.cons (.ptr _ _ (by first | simp [ResIds, dG, dMs, jG] | simp [ResIds, dG, dMs, crG, crM] | simp [ResIds, dG, dMs])) (.cons (.low _ (.val _)) .nil))) ?_ ?_ <;> exact ren0
set_option maxRecDepth 10000 in
set_option maxHeartbeats 2000000 in
theorem jd_openE1 (at_ most : Int) {N k : Nat} {D : DM} (h : GoD N k D) (hb : liesB N at_ most = true) (hk : k + 2000 ≤ 100000000) (hNN : N ≤ 100000000) {R : Int × DM} (hh : RecP D at_ most R) (hz : R.1 ≠ 0) : HCalls Tryd.prog 11 [.ptr 1000001 0, pint at_, pint most] (dG 1000001 1000002 1000003 D) (dMs 1000003 D) (.tup [.val (.pointer none), pint R.1]) (dG 1000001 1000002 1000003 R.2) (dMs 1000003 R.2) := by
  have c1 := dC_low D
  have c2 := dM_low D
  refine hcalls_of_pw typeTab_ok Tryd.func11 rfl rfl (by simp [PV.ownB, pint]) (Nat.le_of_ble_eq_true rfl) (by simp [ResIds, jG, dG, dMs]) (by simp [ResIds, jG, dG, dMs]) (by exact hok0) ?_
  have hrm := pw_room most
  have hsz := dc_Size D 1000001 1000002 1000003 (by decide)
  rw [h.len] at hsz
  obtain ⟨m0, m1, h0, hN, hr, -, hat⟩ := lies_spec hb
  have hrr : roomI most ≤ 2000 := by unfold roomI numbersI; rw [if_neg (by omega)]; omega
  have hrec := jd_recover most h at_ h0 hat m0 m1 hk hNN hh 1000001 1000002 1000003 4004 (by decide)
  clear hh
  generalize roomI most = Q at *
  obtain ⟨e, D2⟩ := R
  simp only at *
  refine wk ?_
  exact RetH.mk rfl (Weak.refl _) ⟨⟨_, rfl, WeakL.refl _⟩, ⟨_, rfl, WeakL.refl _⟩, trivial⟩ ⟨⟨rfl, rfl⟩, trivial⟩
theorem jd_openE (at_ most : Int) {N k : Nat} {D : DM} (h : GoD N k D) (hb : liesB N at_ most = true) (hk : k + 2000 ≤ 100000000) (hNN : N ≤ 100000000) {R : Int × DM} (hh : RecP D at_ most R) (hz : R.1 ≠ 0) (d c m : Nat) (hd : ([d, c, m] : List Nat).Nodup) : HCalls Tryd.prog 11 [.ptr d 0, pint at_, pint most] (dG d c m D) (dMs m D) (.tup [.val (.pointer none), pint R.1]) (dG d c m R.2) (dMs m R.2) := by
  refine (jd_openE1 at_ most h hb hk hNN hh hz).at [(1000001, d), (1000002, c), (1000003, m)] (by simpa using hd) (by simp [ResIds, jG, dG, dMs]) (by simp [jG, dG]) (by simp [dMs]) ?_ ?_ ?_ (.low _ (.tup _ (by intro c hc; simp at hc; rcases hc with rfl | rfl <;> exact .val _))) ?_ ?_ <;> exact ren0
end Go.Proofs.YtilcpcpmkklobaaDoor

/- The journal whose disk fails: Apply. -/
namespace Go.Proofs.YtilcpcpmkklobaaDoor
set_option linter.unusedSimpArgs false
set_option linter.unusedVariables false
set_option linter.unnecessarySimpa false
open Go.RowKit

def DM.applyR (D : DM) (N at_ most : Int) (l : List PPut) : Int × DM := if jApE N at_ most l = 0 then (if 0 < l.length then D.run (applyO at_ most l) else (0, D)) else (jApE N at_ most l, D)

set_option maxRecDepth 10000 in
set_option maxHeartbeats 4000000 in
theorem jd_apply1 (at_ most : Int) {N k : Nat} {D : DM} (h : GoD N k D) (h0 : 0 ≤ at_) (m0 : 1 ≤ most) (m1 : most ≤ 1024) (hN : at_ + roomI most ≤ N) (hNN : N ≤ 100000000) (l : List PPut) (hl : l.length ≤ 100000000) (hk : k + 10000 ≤ 100000000) : HCalls Tryd.prog 13 [.ptr 1000004 0, pputs l] (jG 1000001 1000002 1000003 1000004 at_ most D) (dMs 1000003 D) (pint (D.applyR N at_ most l).1) (jG 1000001 1000002 1000003 1000004 at_ most (D.applyR N at_ most l).2) (dMs 1000003 (D.applyR N at_ most l).2) := by
  have hll := low_pputs l
  have c1 := dC_low D
  have c2 := dM_low D
  refine hcalls_of_pw typeTab_ok Tryd.func13 rfl rfl (by simp [PV.ownB, pputs]) (Nat.le_of_ble_eq_true rfl) (by simp [ResIds, jG, dG, dMs]) (by simp [ResIds, jG, dG, dMs]) (by exact hok0) ?_
  have hap : ∀ e, jApE N at_ most l = e → e ≠ 0 → D.applyR N at_ most l = (e, D) := fun e h1 h2 => by rw [DM.applyR, h1, if_neg h2]
  have hrm := pw_room most
  have hsz := dc_Size D 1000001 1000002 1000003 (by decide)
  have hdl := h.len
  rw [hdl] at hsz
  have hrr : 0 ≤ roomI most ∧ roomI most ≤ 2000 := by unfold roomI numbersI; rw [if_neg (by omega)]; omega
  by_cases hmost : most < l.length
  · have ea : jApE N at_ most l = 2 := by rw [jApE, if_pos hmost]
    rw [hap 2 ea (by decide)]
    refine wk ?_
    exact RetH.mk rfl (Weak.refl _) ⟨⟨_, rfl, WeakL.refl _⟩, ⟨_, rfl, WeakL.refl _⟩, ⟨_, rfl, WeakL.refl _⟩, trivial⟩ ⟨⟨rfl, rfl⟩, trivial⟩
  · refine wk ?_
    refine PW.loop (fun i : Nat => (((((((((bot.setb 1000004 (jB 1000001 at_ most)).setb 1000001 (dB 1000002 1000003 D)).setb 1000002 (dC D)).setm 1000003 (dM D)).put 0 (.ptr 1000004 0)).put 1 (pputs l)).put 4 (pint 0)).put 18 (pputs l)).put 19 (pint l.length)).put 20 (pint i)) (fun i => i ≤ l.length ∧ ∀ j, j < i → badP N at_ most (l.getD j default) = false) (fun i => l.length - i) 0 ⟨by omega, fun j hj => by omega⟩ ?_ ?_
    · exact sb
    · intro i ⟨hi, hgood⟩
      by_cases hlt : i < l.length
      · by_cases hb : badP N at_ most (l.getD i default) = true
        · have ea := jApE_bad hmost hlt hb
          rw [hap 1 ea (by decide)]
          simp only [badP, decide_eq_true_eq] at hb
          generalize roomI most = R at *
          by_cases b1 : (l.getD i default).sec < 0
          · refine wk ?_
            exact RetH.mk rfl (Weak.refl _) ⟨⟨_, rfl, WeakL.refl _⟩, ⟨_, rfl, WeakL.refl _⟩, ⟨_, rfl, WeakL.refl _⟩, trivial⟩ ⟨⟨rfl, rfl⟩, trivial⟩
          · by_cases b2 : (N : Int) ≤ (l.getD i default).sec
            · refine wk ?_
              exact RetH.mk rfl (Weak.refl _) ⟨⟨_, rfl, WeakL.refl _⟩, ⟨_, rfl, WeakL.refl _⟩, ⟨_, rfl, WeakL.refl _⟩, trivial⟩ ⟨⟨rfl, rfl⟩, trivial⟩
            · have b3 : at_ ≤ (l.getD i default).sec := by omega
              have b4 : (l.getD i default).sec < at_ + R := by omega
              refine wk ?_
              exact RetH.mk rfl (Weak.refl _) ⟨⟨_, rfl, WeakL.refl _⟩, ⟨_, rfl, WeakL.refl _⟩, ⟨_, rfl, WeakL.refl _⟩, trivial⟩ ⟨⟨rfl, rfl⟩, trivial⟩
        · have hb' : badP N at_ most (l.getD i default) = false := by simpa using hb
          have hg2 : ∀ j, j < i + 1 → badP N at_ most (l.getD j default) = false := by
            intro j hj
            by_cases e : j = i
            · subst e; exact hb'
            · exact hgood j (by omega)
          simp only [badP, decide_eq_false_iff_not, not_or] at hb'
          obtain ⟨b1, b2, b3⟩ := hb'
          clear hgood hap hb
          by_cases b4 : at_ ≤ (l.getD i default).sec
          · have b5 : ¬ (l.getD i default).sec < at_ + roomI most := fun e => b3 ⟨b4, e⟩
            clear b3
            generalize roomI most = R at *
            refine wk ?_
            refine loopP (i + 1) ⟨by omega, hg2⟩ (by omega) ?_
            exact sb
          · clear b3
            generalize roomI most = R at *
            refine wk ?_
            refine loopP (i + 1) ⟨by omega, hg2⟩ (by omega) ?_
            exact sb
      · have e : i = l.length := by omega
        subst e
        have eg := jApE_good hmost hgood
        have hin := badP_in hgood
        clear hgood
        refine wk ?_
        refine PWops.mkM rfl rfl rfl rfl ?_
        refine wk ?_
        have hmd : ∀ i, i ≤ l.length → (metL l i).length = i := fun i _ => by simp [metL]
        refine PW.loop (fun i : Nat => (((((((((((bot.setb 1000004 (jB 1000001 at_ most)).setb 1000001 (dB 1000002 1000003 D)).setb 1000002 (dC D)).setm 1000003 (dM D)).setm 9000 (.map ((metL l i).map mE) i)).put 0 (.ptr 1000004 0)).put 1 (pputs l)).put 4 (pint 0)).put 7 (.mref 9000)).put 63 (pputs l)).put 64 (pint l.length)).put 65 (pint i)) (fun i => i ≤ l.length ∧ ((l.take i).map PPut.sec).Nodup) (fun i => l.length - i) 0 ⟨by omega, by simp⟩ ?_ ?_
        · have m1 := met_low (metL l 0)
          exact sb
        · intro i ⟨hi, hnd⟩
          by_cases hlt : i < l.length
          · have hms := metL_secs l i hi
            by_cases hin2 : (l.getD i default).sec ∈ (metL l i).map (·.2)
            · have ea : jApE N at_ most l = 6 := by
                rw [eg, if_neg]
                intro hn
                have h2 : l.take (i + 1) = l.take i ++ [l.getD i default] := take_getD default hlt
                have h3 : ((l.take (i + 1)).map PPut.sec).Nodup := by
                  rw [List.map_take]; exact hn.sublist (List.take_sublist _ _)
                rw [h2, List.map_append, List.nodup_append] at h3
                rw [hms] at hin2
                exact h3.2.2 _ hin2 _ (by simp) rfl
              rw [hap 6 ea (by decide)]
              refine wk ?_
              refine PWops.lkp rfl rfl rfl rfl rfl rfl rfl rfl rfl rfl rfl (met_get _ _ rfl rfl) ?_
              rw [decide_eq_true hin2]
              refine wk ?_
              exact RetH.mk rfl (Weak.refl _) ⟨⟨_, rfl, WeakL.refl _⟩, ⟨_, rfl, WeakL.refl _⟩, ⟨_, rfl, WeakL.refl _⟩, trivial⟩ ⟨⟨rfl, rfl⟩, trivial⟩
            · have hms2 := metL_succ l i
              have m1 := met_low (metL l (i + 1))
              have hnd2 : ((l.take (i + 1)).map PPut.sec).Nodup := by
                rw [take_getD default hlt, List.map_append, List.nodup_append]
                refine ⟨hnd, by simp, fun a ha b hb => ?_⟩
                simp at hb
                subst hb
                rintro rfl
                rw [hms] at hin2
                exact hin2 (by simpa using ha)
              have hput := met_put (l.getD i default).sec (metL l i) (ki := ⟨1, false, .int .i64, [.val (.int .i64 0)], []⟩) rfl hin2 i
              rw [← hms2] at hput
              refine wk ?_
              refine PWops.lkp rfl rfl rfl rfl rfl rfl rfl rfl rfl rfl rfl (met_get _ _ rfl rfl) ?_
              rw [decide_eq_false hin2]
              refine wk ?_
              refine PWops.mput rfl rfl rfl rfl rfl rfl rfl rfl rfl rfl rfl rfl hput ?_
              refine wk ?_
              refine loopP (i + 1) ⟨by omega, hnd2⟩ (by omega) ?_
              exact sb
          · have e : i = l.length := by omega
            subst e
            rw [List.take_length] at hnd
            have ea : jApE N at_ most l = 0 := by rw [eg, if_pos hnd]
            have mq := met_low (metL l l.length)
            by_cases hl0 : l.length = 0
            · have hdd : D.applyR N at_ most l = (0, D) := by rw [DM.applyR, if_pos ea, if_neg (by omega)]
              rw [hdd]
              refine wk ?_
              exact RetH.mk rfl (Weak.refl _) ⟨⟨_, rfl, WeakL.refl _⟩, ⟨_, rfl, WeakL.refl _⟩, ⟨_, rfl, WeakL.refl _⟩, trivial⟩ ⟨⟨rfl, rfl⟩, trivial⟩
            · have hdd : D.applyR N at_ most l = D.run (applyO at_ most l) := by rw [DM.applyR, if_pos ea, if_pos (by omega)]
              have hle : (l.length : Int) ≤ most := by omega
              have hrn : roomI most = 1 + numbersI most + most := by unfold roomI; rw [if_neg (by omega)]
              have hnb : numbersI l.length ≤ 64 ∧ 0 ≤ numbersI l.length ∧ 0 ≤ numbersI most := by unfold numbersI; omega
              obtain ⟨al, ai⟩ := area_in l h0 m0 m1 hN hle
              have hai : InD N (areaJ at_ most l) := fun p hp => by have := ai p hp; omega
              obtain ⟨f1, -⟩ := GoD.run (fourO at_ (areaJ at_ most l) (fullHead l)) h (fourO_in h0 (by omega) hai (fullHead l)) (by rw [fourO_len]; omega)
              rw [fourO_len] at f1
              have harea := jc_area at_ most D l h0 (by omega) m0 m1 (by omega) (by omega) 1000001 1000002 1000003 1000004 (by decide)
              have hput := jc_put at_ most D (areaJ at_ most l) 1000001 1000002 1000003 1000004 900005 900006 (by decide)
              have hsync := jc_sync at_ most D 1000001 1000002 1000003 1000004 (by decide)
              have hdig := pw_digest l (by omega) (by omega)
              have hhead := jc_head at_ most D l.length (digG l) (digG_len l) 1000001 1000002 1000003 1000004 900007 900008 900009 (by decide)
              have hall := jd_all most h at_ l.length h0 (by omega) (by omega) (by omega) (digG l) (digG_len l) (digG_ok l) (areaJ at_ most l) hai (by omega) (by omega) 1000001 1000002 1000003 1000004 900005 900006 900007 900008 900009 (by decide)
              have hfin := jd_finish most f1 at_ h0 (by omega) l hin (by omega) (by omega) 1000001 1000002 1000003 1000004 (by decide)
              have dl := digG_len l
              rw [show headSec l.length (digG l) (digG_len l) (digG_ok l) = fullHead l from rfl] at hall
              rw [show ofS glob0 240 (dParts l) = digG l from rfl] at hdig
              have hap2 : D.run (applyO at_ most l) = if (D.run (fourO at_ (areaJ at_ most l) (fullHead l))).1 = 0 then (D.run (fourO at_ (areaJ at_ most l) (fullHead l))).2.run (fourO at_ l emptyHead) else D.run (fourO at_ (areaJ at_ most l) (fullHead l)) := run_append _ _ _
              have c3 := dC_low (D.run (fourO at_ (areaJ at_ most l) (fullHead l))).2
              have c4 := dM_low (D.run (fourO at_ (areaJ at_ most l) (fullHead l))).2
              rw [hdd]
              generalize D.run (applyO at_ most l) = R at *
              generalize D.run (fourO at_ (areaJ at_ most l) (fullHead l)) = R1 at *
              generalize R1.2.run (fourO at_ l emptyHead) = R2 at *
              have c5 := dC_low R.2
              have c6 := dM_low R.2
              generalize digG l = G at *
              generalize areaJ at_ most l = A at *
              clear hdd f1 hai ai al hin hsz hrm eg hap mq hll
              by_cases hz : R1.1 = 0
              · have e2 : R = R2 := by rw [hap2, if_pos hz]
                clear hap2
                subst e2
                rw [hz] at hall
                refine wk ?_
                exact RetH.mk rfl (Weak.refl _) ⟨⟨_, rfl, WeakL.refl _⟩, ⟨_, rfl, WeakL.refl _⟩, ⟨_, rfl, WeakL.refl _⟩, trivial⟩ ⟨⟨rfl, rfl⟩, trivial⟩
              · have e2 : R = R1 := by rw [hap2, if_neg hz]
                clear hap2 hfin
                subst e2
                refine wk ?_
                exact RetH.mk rfl (Weak.refl _) ⟨⟨_, rfl, WeakL.refl _⟩, ⟨_, rfl, WeakL.refl _⟩, ⟨_, rfl, WeakL.refl _⟩, trivial⟩ ⟨⟨rfl, rfl⟩, trivial⟩
theorem jd_apply (at_ most : Int) {N k : Nat} {D : DM} (h : GoD N k D) (h0 : 0 ≤ at_) (m0 : 1 ≤ most) (m1 : most ≤ 1024) (hN : at_ + roomI most ≤ N) (hNN : N ≤ 100000000) (l : List PPut) (hl : l.length ≤ 100000000) (hk : k + 10000 ≤ 100000000) (d c m j : Nat) (hd : ([d, c, m, j] : List Nat).Nodup) : HCalls Tryd.prog 13 [.ptr j 0, pputs l] (jG d c m j at_ most D) (dMs m D) (pint (D.applyR N at_ most l).1) (jG d c m j at_ most (D.applyR N at_ most l).2) (dMs m (D.applyR N at_ most l).2) := by
  refine (jd_apply1 at_ most h h0 m0 m1 hN hNN l hl hk).at (ids4 d c m j) hd (by simp [ResIds, jG, dG, dMs, ids4]) (by simp [jG, dG]) (by simp [dMs]) ?_ ?_ ?_ ?_ ?_ ?_ <;> exact ren0
end Go.Proofs.YtilcpcpmkklobaaDoor

/- The journal whose disk fails, without a program: it is opened again and again. -/
namespace Go.Proofs.YtilcpcpmkklobaaDoor
set_option linter.unusedSimpArgs false
set_option linter.unusedVariables false
set_option linter.unnecessarySimpa false
open Go.RowKit

section
variable {N k : Nat} {at_ most : Int} {D : DM} {M : List Sec} {l : List PPut}
theorem base_base (D : DM) : D.base.base = D.base := rfl
theorem JInv.base (h : JInv N k at_ most D M) : JInv N k at_ most D.base M := by
  have hr : ∀ q, D.base.read q = D.read q := read_base h.ok.dead
  refine ⟨h.ok.base, h.op, h.len, ?_, fun q hq ho => by rw [hr]; exact h.out q hq ho⟩
  unfold HeadOK
  rw [hr]; exact h.head
theorem JInv.unbase {k' : Nat} (h : JInv N k at_ most D.base M) (hD : OkD N k' D) : JInv N k' at_ most D M := by
  have hr : ∀ q, D.base.read q = D.read q := read_base hD.dead
  refine ⟨hD, h.op, h.len, ?_, fun q hq ho => by rw [← hr]; exact h.out q hq ho⟩
  have := h.head
  unfold HeadOK at this ⊢
  rw [hr] at this; exact this
theorem S1.base (h : S1 N k at_ most D M l) : S1 N k at_ most D.base M l := by
  have hr : ∀ q, D.base.read q = D.read q := read_base h.ok.dead
  exact ⟨h.ok.base, h.op, h.len, by rw [hr]; exact h.head, fun p hp => by rw [hr]; exact h.area p hp, fun q hq ho hn => by rw [hr]; exact h.out q hq ho hn⟩

/-- After a failure: nothing of the change, or it is decided, or it is done. -/
def Aft (N : Nat) (at_ most : Int) (M : List Sec) (l : List PPut) (D : DM) : Prop := JInv N 0 at_ most D M ∨ (S1 N 0 at_ most D M l ∧ 0 < l.length ∧ jApE N at_ most l = 0) ∨ JInv N 0 at_ most D (doM M l)
theorem Aft.ok (h : Aft N at_ most M l D) : OkD N 0 D := by rcases h with h | ⟨h, -⟩ | h <;> exact h.ok
/-- What Open does to a disk after a failure. -/
def recO (D : DM) (at_ : Int) (l : List PPut) : List DOp := if (D.read at_).2 = 221 then headO at_ else if (D.read at_).1.1.getD 0 0 = 0 ∧ (D.read at_).1.1.getD 1 0 = 0 then [] else fourO at_ l emptyHead
def DM.recov (D : DM) (at_ : Int) (l : List PPut) : Int × DM := D.run (recO D at_ l)
theorem recO_J (h : HeadOK D at_) : recO D at_ l = headO at_ ∨ recO D at_ l = [] := by
  unfold recO
  by_cases c : (D.read at_).2 = 221
  · rw [if_pos c]; exact .inl rfl
  · rw [if_neg c]
    rcases h with h | ⟨-, h1, h2⟩
    · exact absurd (by rw [h]) c
    · rw [if_pos ⟨h1, h2⟩]; exact .inr rfl
theorem recO_S (h : S1 N k at_ most D M l) (hl0 : 0 < l.length) (hlm : l.length ≤ 1024) : recO D at_ l = fourO at_ l emptyHead := by
  obtain ⟨s, hr, ht⟩ := h.head
  obtain ⟨b0, b1, -⟩ := head_bytes ht hlm
  have hor := accB_succ l.length (by omega) 1 (by decide)
  rw [accB_len _ hlm] at hor
  unfold recO
  rw [hr, if_neg (show ¬ ((0 : Int) = 221) by decide)]
  simp only
  rw [b0, b1, if_neg]
  rintro ⟨z0, z1⟩
  rw [z0, z1] at hor
  omega
theorem recO_len (D : DM) (hl : l.length ≤ 1024) : (recO D at_ l).length ≤ 1027 := by
  unfold recO
  split
  · simp [headO]
  · split
    · simp
    · rw [fourO_len]; omega
theorem headO_in (h0 : 0 ≤ at_) (h1 : at_ < N) : ∀ o ∈ headO at_, o.inD N := by
  intro o ho
  simp only [headO, List.mem_cons, List.not_mem_nil, or_false] at ho
  rcases ho with rfl | rfl
  · exact ⟨h0, h1⟩
  · show 0 < N; omega
theorem recO_in (hb : liesB N at_ most = true) (hin : InD N l) : ∀ o ∈ recO D at_ l, o.inD N := by
  obtain ⟨m0, m1, h0, hN, hr, hrn, hat⟩ := lies_spec hb
  unfold recO
  split
  · exact headO_in h0 hat
  · split
    · intro o ho; simp at ho
    · exact fourO_in h0 hat hin _
/-- An armed disk. -/
def DM.arm (D : DM) (n : Int) : DM := { D with after := maxI n (-1) }
theorem arm_base (D : DM) (n : Int) : (D.arm n).base = D.base := rfl
theorem arm_read {D : DM} (n : Int) (q : Int) : (D.arm n).read q = D.read q := rfl
theorem OkD.arm (h : OkD N k D) {n : Int} (hn : n ≤ 1000000) : GoD N k (D.arm n) := ⟨h.base, h.steps, by show -1 ≤ maxI n (-1) ∧ maxI n (-1) ≤ 1000000; unfold maxI; split <;> omega⟩
theorem recP_of (h : Aft N at_ most M l D) (hb : liesB N at_ most = true) (hin : InD N l) (hlm : (l.length : Int) ≤ most) {E : DM} (hE : ∀ q, E.read q = D.read q) (hc : E.cells = D.cells) : RecP E at_ most (E.recov at_ l) := by
  obtain ⟨m0, m1, h0, hN, hr, hrn, hat⟩ := lies_spec hb
  have hl := h.ok.len
  have hJ : HeadOK D at_ → RecP E at_ most (E.recov at_ l) := fun hh => by
    by_cases c : (D.read at_).2 = 221
    · rcases hh with hh | ⟨hh, -⟩
      · refine .inl ⟨by rw [hE]; exact hh, ?_⟩
        unfold DM.recov recO
        rw [hE, if_pos c]
      · rw [hh] at c; exact absurd c (by decide)
    · rcases hh with hh | ⟨hh, z0, z1⟩
      · rw [hh] at c; exact absurd rfl c
      · refine .inr (.inl ⟨by rw [hE]; exact hh, by rw [hE]; exact z0, by rw [hE]; exact z1, ?_⟩)
        unfold DM.recov recO
        rw [hE, if_neg c, if_pos ⟨z0, z1⟩]; rfl
  rcases h with h | ⟨h, hl0, he⟩ | h
  · exact hJ h.head
  · refine .inr (.inr ⟨l, ⟨?_, fun p hp => ?_, hl0, hlm, by rw [hc, hl]; exact hin⟩, ?_⟩)
    · obtain ⟨s, a, b⟩ := h.head
      exact ⟨s, by rw [hE]; exact a, b⟩
    · rw [hE]; exact h.area p hp
    · unfold DM.recov
      have : recO E at_ l = recO D at_ l := by unfold recO; rw [hE]
      rw [this, recO_S h hl0 (by omega)]
  · exact hJ h.head
/-- Open on a disk that may fail, and then a failure. -/
theorem Aft.again (h : Aft N at_ most M l D) (hb : liesB N at_ most = true) (hin : InD N l) (hlm : (l.length : Int) ≤ most) {n : Int} (hn : n ≤ 1000000) (keep : List Int) : Aft N at_ most M l (((D.arm n).recov at_ l).2.crash keep) ∧ GoD N 2000 ((D.arm n).recov at_ l).2 := by
  obtain ⟨m0, m1, h0, hN, hr, hrn, hat⟩ := lies_spec hb
  have hln := recO_len (at_ := at_) (D.arm n) (l := l) (by omega)
  obtain ⟨g, r⟩ := GoD.run (recO (D.arm n) at_ l) (h.ok.arm hn) (recO_in hb hin) (by omega)
  refine ⟨?_, g.mono (by omega)⟩
  obtain ⟨m, hm⟩ : ∃ m, ((D.arm n).recov at_ l).2.base = D.base.nxs ((recO D at_ l).take m) := by
    rcases r with ⟨-, -, r⟩ | ⟨-, -, m, -, r⟩
    · exact ⟨(recO D at_ l).length, by rw [List.take_length]; exact r⟩
    · exact ⟨m, r⟩
  rw [← crash_base, hm]
  have hJ : ∀ M', JInv N 0 at_ most D M' → JInv N 0 at_ most ((D.base.nxs ((recO D at_ l).take m)).crash keep) M' := fun M' hJ => by
    rcases recO_J (l := l) hJ.head with e | e
    · rw [e]; exact hJ.base.head_crash hb (by omega) m keep
    · rw [e, List.take_nil]; exact hJ.base.crash hb keep
  rcases h with h | ⟨h, hl0, he⟩ | h
  · exact .inl (hJ M h)
  · rw [recO_S h hl0 (by omega)]
    rcases h.base.finish_crash hb he (by omega) m keep with x | x
    · exact .inr (.inl ⟨x, hl0, he⟩)
    · exact .inr (.inr x)
  · exact .inr (.inr (hJ _ h))
/-- Open on a disk that does not fail. -/
theorem Aft.opened (h : Aft N at_ most M l D) (hb : liesB N at_ most = true) (hin : InD N l) (hlm : (l.length : Int) ≤ most) : (D.recov at_ l).1 = 0 ∧ (JInv N 2000 at_ most (D.recov at_ l).2 M ∨ JInv N 2000 at_ most (D.recov at_ l).2 (doM M l)) := by
  obtain ⟨m0, m1, h0, hN, hr, hrn, hat⟩ := lies_spec hb
  have hln := recO_len (at_ := at_) D (l := l) (by omega)
  have hio : ∀ o ∈ recO D at_ l, o.inD N := recO_in hb hin
  obtain ⟨o1, o2⟩ := OkD.run (recO D at_ l) h.ok hio (by omega)
  obtain ⟨-, r⟩ := GoD.run (recO D at_ l) h.ok.go hio (by omega)
  have hb2 : (D.recov at_ l).2.base = D.base.nxs (recO D at_ l) := by
    rcases r with ⟨-, -, r⟩ | ⟨r, -⟩
    · exact r
    · rw [o1] at r; exact absurd r (by decide)
  refine ⟨o1, ?_⟩
  have o3 : OkD N 2000 (D.recov at_ l).2 := o2.mono (by omega)
  have hJ : ∀ M', JInv N 0 at_ most D M' → JInv N 2000 at_ most (D.recov at_ l).2 M' := fun M' hJ => by
    rcases recO_J (l := l) hJ.head with e | e
    · have := hJ.base.head_all hb (by omega)
      rw [← e, ← hb2] at this
      exact this.unbase o3
    · have := hJ.base
      rw [show D.base = D.base.nxs (recO D at_ l) by rw [e]; rfl, ← hb2] at this
      exact this.unbase o3
  rcases h with h | ⟨h, hl0, he⟩ | h
  · exact .inl (hJ M h)
  · have := h.base.finish_all hb he (by omega)
    rw [← recO_S h hl0 (by omega), ← hb2] at this
    exact .inr (this.unbase o3)
  · exact .inr (hJ _ h)
/-- An Apply on a disk that may fail: it is done, or it returns ErrDown; and then a failure. -/
theorem JInv.applyR {k : Nat} (h : JInv N k at_ most D.base M) (hg : GoD N k D) (hb : liesB N at_ most = true) (he : jApE N at_ most l = 0) (hk : k + 20000 ≤ 100000000) :
    GoD N (k + 5000) (D.applyR N at_ most l).2 ∧ (((D.applyR N at_ most l).1 = 0 ∧ (D.applyR N at_ most l).2.dead = D.dead ∧ JInv N (k + 5000) at_ most (D.applyR N at_ most l).2.base (doM M l)) ∨
      ((D.applyR N at_ most l).1 = 220 ∧ ∀ keep, Aft N at_ most M l ((D.applyR N at_ most l).2.crash keep))) := by
  obtain ⟨m0, m1, h0, hN, hr, hrn, hat⟩ := lies_spec hb
  obtain ⟨e1, e2⟩ := jApE_zero he
  by_cases hl0 : 0 < l.length
  · have e : D.applyR N at_ most l = D.run (applyO at_ most l) := by rw [DM.applyR, if_pos he, if_pos hl0]
    rw [e]
    obtain ⟨al, ai⟩ := area_in l h0 m0 m1 hN e1
    have hnb : numbersI l.length ≤ 64 ∧ 0 ≤ numbersI l.length := by unfold numbersI; omega
    have hai : InD N (areaJ at_ most l) := fun p hp => by have := ai p hp; omega
    have hin : InD N l := fun p hp => by have := e2 p hp; omega
    have hlen : (applyO at_ most l).length ≤ 5000 := by rw [applyO, List.length_append, fourO_len, fourO_len]; omega
    have hio : ∀ o ∈ applyO at_ most l, o.inD N := fun o ho => by
      rcases List.mem_append.1 ho with ho | ho
      · exact fourO_in h0 hat hai _ o ho
      · exact fourO_in h0 hat hin _ o ho
    obtain ⟨g, r⟩ := GoD.run (applyO at_ most l) hg hio (by omega)
    refine ⟨g.mono (by omega), ?_⟩
    rcases r with ⟨r1, r2, r3⟩ | ⟨r1, r2, m, hm, r3⟩
    · exact .inl ⟨r1, r2, by rw [r3]; exact h.apply_all hb he (by omega)⟩
    · refine .inr ⟨r1, fun keep => ?_⟩
      rw [← crash_base, r3]
      rcases h.apply_crash hb he (by omega) m keep with x | x | x
      · exact .inl x
      · exact .inr (.inl ⟨x, hl0, he⟩)
      · exact .inr (.inr x)
  · have hl : l = [] := List.eq_nil_of_length_eq_zero (by omega)
    subst hl
    have e : D.applyR N at_ most [] = (0, D) := by rw [DM.applyR, if_pos he, if_neg (by simp)]
    rw [e]
    exact ⟨hg.mono (by omega), .inl ⟨rfl, rfl, h.mono (by omega)⟩⟩
end
end Go.Proofs.YtilcpcpmkklobaaDoor

/- Pure walks: what lies behind a loop with several ways out is walked once. -/
namespace Go.Proofs.YtilcpcpmkklobaaDoor
set_option linter.unusedSimpArgs false
set_option linter.unusedVariables false
set_option linter.unnecessarySimpa false
open Go.RowKit

/-- What is asked at a cut: one of the states. -/
def MidP {α : Type} (M : Nat) (st : α → PS) (I : α → Prop) (Q : Exit → PS → Prop) : Exit → PS → Prop
  | .normal, σ => ∃ x, I x ∧ Sub M σ (st x)
  | e, σ => Q e σ
section
variable {P : Program} {M : Nat} {Q : Exit → PS → Prop} {σ : PS}
theorem midP {α : Type} {st : α → PS} {I : α → Prop} (x : α) (hi : I x) (hs : Sub M σ (st x)) : MidP M st I Q .normal σ := ⟨x, hi, hs⟩
theorem midP_ret {α : Type} {st : α → PS} {I : α → Prop} (h : Q .ret σ) : MidP M st I Q .ret σ := h
theorem midP_exit {α : Type} {st : α → PS} {I : α → Prop} {j : Nat} (h : Q (.exit j) σ) : MidP M st I Q (.exit j) σ := h
theorem PW.cutB {α : Type} {id : Nat} {c y : Code} (st : α → PS) (I : α → Prop) (h1 : PW P M c (BlockP id (MidP M st I Q)) σ) (h2 : ∀ x, I x → PW P M y Q (st x)) : PW P M c (BlockP id (ThenP P M y Q)) σ := by
  refine PW.conseq h1 fun e σ' h => ?_
  cases e with
  | normal =>
    obtain ⟨x, hx, hs⟩ := h
    exact PW.sub (h2 x hx) hs
  | exit i =>
    simp only [BlockP] at h ⊢
    split at h
    · rename_i e
      rw [if_pos e]
      obtain ⟨x, hx, hs⟩ := h
      exact PW.sub (h2 x hx) hs
    · rename_i e
      rw [if_neg e]
      exact h
  | _ => exact h
theorem PW.cut {α : Type} {c y : Code} (st : α → PS) (I : α → Prop) (h1 : PW P M c (MidP M st I Q) σ) (h2 : ∀ x, I x → PW P M y Q (st x)) : PW P M (.seq c y) Q σ := by
  refine PW.seq (PW.conseq h1 fun e σ' h => ?_)
  cases e with
  | normal =>
    obtain ⟨x, hx, hs⟩ := h
    exact PW.sub (h2 x hx) hs
  | _ => exact h
/-- A cut where the walk stands ahead of a loop, or of a region, whose post is the rest. -/
theorem PW.cutT {α : Type} {c y : Code} (st : α → PS) (I : α → Prop) (h1 : PW P M c (MidP M st I Q) σ) (h2 : ∀ x, I x → PW P M y Q (st x)) : PW P M c (ThenP P M y Q) σ := by
  refine PW.conseq h1 fun e σ' h => ?_
  cases e with
  | normal =>
    obtain ⟨x, hx, hs⟩ := h
    exact PW.sub (h2 x hx) hs
  | _ => exact h
end
end Go.Proofs.YtilcpcpmkklobaaDoor

/- The journal whose disk fails: again. -/
namespace Go.Proofs.YtilcpcpmkklobaaDoor
set_option linter.unusedSimpArgs false
set_option linter.unusedVariables false
set_option linter.unnecessarySimpa false
open Go.RowKit

/-- The disk after so many failures. -/
def agN (D : DM) (at_ : Int) (l : List PPut) (keep ss : List Int) : Nat → DM
  | 0 => D
  | i + 1 => (((agN D at_ l keep ss i).arm (ss.getD i default)).recov at_ l).2.crash keep
theorem byte_at {ss : List Int} (hs : ∀ z ∈ ss, 0 ≤ z ∧ z < 256) (i : Nat) : 0 ≤ ss.getD i default ∧ ss.getD i default < 256 := by
  rw [List.getD_eq_getElem?_getD]
  cases h : ss[i]? with
  | none => exact ⟨Int.le_refl _, by decide⟩
  | some z => exact hs z (List.mem_of_getElem? h)
section
variable {N : Nat} {at_ most : Int} {D : DM} {M : List Sec} {l : List PPut} {keep ss : List Int}
theorem agN_aft (h : Aft N at_ most M l D) (hb : liesB N at_ most = true) (hin : InD N l) (hlm : (l.length : Int) ≤ most) (hs : ∀ z ∈ ss, 0 ≤ z ∧ z < 256) : ∀ i, Aft N at_ most M l (agN D at_ l keep ss i)
  | 0 => h
  | i + 1 => ((agN_aft h hb hin hlm hs i).again hb hin hlm (by have := byte_at hs i; omega) keep).1
end
theorem crash_fit {N k : Nat} {D : DM} (h : GoD N k D) (hN : 1 ≤ N ∧ N ≤ 65536) : (1 ≤ D.cells.length ∧ D.cells.length ≤ 65536) ∧ opOK D.cells.length D.op ∧ D.op.length ≤ 1000000000 := by
  rw [h.len]
  exact ⟨hN, h.op, by have := opOK_len h.op; omega⟩

def agA (size at_ most : Int) (keep ss : List Int) (D : DM) : PS := bot.setb 1000001 (dB 1000002 1000003 D) |>.setb 1000002 (dC D) |>.setm 1000003 (dM D) |>.setb 0 (parea size at_ most) |>.put 0 (.ptr 1000001 0) |>.put 2 (pbytes ss) |>.put 3 (pints keep) |>.put 5 (.ptr 0 0) |>.put 8 (.val (.pointer none)) |>.put 9 (.val (.pointer none)) |>.put 10 (pint 0)
def agB (size at_ most : Int) (keep ss : List Int) (G C : DM) (i : Nat) : PS := bot.setb 1000001 (dB 1000002 1000003 G) |>.setb 1000002 (dC G) |>.setm 1000003 (dM G) |>.setb 900001 (dB 900002 900003 C) |>.setb 900002 (dC C) |>.setm 900003 (dM C) |>.setb 0 (parea size at_ most) |>.put 0 (.ptr 900001 0) |>.put 2 (pbytes ss) |>.put 3 (pints keep) |>.put 5 (.ptr 0 0) |>.put 8 (.val (.pointer none)) |>.put 9 (.val (.pointer none)) |>.put 10 (pint i)

set_option maxRecDepth 10000 in
set_option maxHeartbeats 4000000 in
theorem jd_again01 (size at_ most : Int) {N : Nat} {D : DM} {M : List Sec} {l : List PPut} (h : Aft N at_ most M l D) (hN : N ≤ 60000) (hb : liesB N at_ most = true) (hin : InD N l) (hlm : (l.length : Int) ≤ most) (keep : List Int) :
    HCalls Tryd.prog 21 [.ptr 1000001 0, .agg (parea size at_ most), pbytes [], pints keep] (dG 1000001 1000002 1000003 D) (dMs 1000003 D) (.tup [.ptr 1000001 0, .ptr 900004 0]) (jG 1000001 1000002 1000003 900004 at_ most (D.recov at_ l).2) (dMs 1000003 (D.recov at_ l).2) := by
  have c1 := dC_low D
  have c2 := dM_low D
  have c3 := dC_low (D.recov at_ l).2
  have c4 := dM_low (D.recov at_ l).2
  have h1 := low_parea size at_ most
  refine hcalls_of_pw typeTab_ok Tryd.func21 rfl rfl (by simp [PV.ownB, pbytes, pints]) (Nat.le_of_ble_eq_true rfl) (by simp [ResIds, jG, dG, dMs]) (by simp [ResIds, jG, dG, dMs]) ⟨li_cons (.ptr _ _ (by first | simp [ResIds, dG, dMs, jG] | simp [ResIds, dG, dMs, crG, crM] | simp [ResIds, dG, dMs])) (li_cons (Low.lowI h1) (li_cons (Low.lowI (by exact lw)) (li_cons (Low.lowI (by exact lw)) li_nil))), by (repeat (first | exact li_nil | exact lb_nil | refine lb_cons ?_ ?_ | refine li_cons ?_ ?_ | exact dB_lowI (by first | simp [ResIds, dG, dMs, jG] | simp [ResIds, dG, dMs, crG, crM] | simp [ResIds, dG, dMs]) (by first | simp [ResIds, dG, dMs, jG] | simp [ResIds, dG, dMs, crG, crM] | simp [ResIds, dG, dMs]) _ | exact li_low (dC_low _) | exact LowI.ptr _ _ (by first | simp [ResIds, dG, dMs, jG] | simp [ResIds, dG, dMs, crG, crM] | simp [ResIds, dG, dMs]) | exact LowI.mref _ (by first | simp [ResIds, dG, dMs, jG] | simp [ResIds, dG, dMs, crG, crM] | simp [ResIds, dG, dMs]) | exact LowI.msl _ _ _ _ (by first | simp [ResIds, dG, dMs, jG] | simp [ResIds, dG, dMs, crG, crM] | simp [ResIds, dG, dMs]) | exact LowI.val _ | exact LowI.nilsl | exact Low.lowI (low_pputs _) | exact Low.lowI (psec_low _) | exact li_low (secL_low _) | exact li_low (by assumption) | refine LowI.agg _ ?_ | refine LowI.fn _ _ ?_ | refine LowI.tup _ ?_ | refine LowI.sl _ _ _ _ ?_)), lm_cons (dM_low _) lm_nil, .tup _ (li_cons (.ptr _ _ (by first | simp [ResIds, dG, dMs, jG] | simp [ResIds, dG, dMs, crG, crM] | simp [ResIds, dG, dMs])) (li_cons (.ptr _ _ (by first | simp [ResIds, dG, dMs, jG] | simp [ResIds, dG, dMs, crG, crM] | simp [ResIds, dG, dMs])) li_nil)), by (repeat (first | exact li_nil | exact lb_nil | refine lb_cons ?_ ?_ | refine li_cons ?_ ?_ | exact dB_lowI (by first | simp [ResIds, dG, dMs, jG] | simp [ResIds, dG, dMs, crG, crM] | simp [ResIds, dG, dMs]) (by first | simp [ResIds, dG, dMs, jG] | simp [ResIds, dG, dMs, crG, crM] | simp [ResIds, dG, dMs]) _ | exact li_low (dC_low _) | exact LowI.ptr _ _ (by first | simp [ResIds, dG, dMs, jG] | simp [ResIds, dG, dMs, crG, crM] | simp [ResIds, dG, dMs]) | exact LowI.mref _ (by first | simp [ResIds, dG, dMs, jG] | simp [ResIds, dG, dMs, crG, crM] | simp [ResIds, dG, dMs]) | exact LowI.msl _ _ _ _ (by first | simp [ResIds, dG, dMs, jG] | simp [ResIds, dG, dMs, crG, crM] | simp [ResIds, dG, dMs]) | exact LowI.val _ | exact LowI.nilsl | exact Low.lowI (low_pputs _) | exact Low.lowI (psec_low _) | exact li_low (secL_low _) | exact li_low (by assumption) | refine LowI.agg _ ?_ | refine LowI.fn _ _ ?_ | refine LowI.tup _ ?_ | refine LowI.sl _ _ _ _ ?_)), lm_cons (dM_low _) lm_nil, by simp [jG, dG], by simp [dMs]⟩ ?_
  obtain ⟨m0, m1, h0, hNN, hr, hrn, hat⟩ := lies_spec hb
  obtain ⟨r1, -⟩ := h.opened hb hin hlm
  have hop := jd_open at_ most h.ok.go hb (by omega) (by omega) (recP_of h hb hin hlm (E := D) (fun _ => rfl) rfl) r1 1000001 1000002 1000003 900004 (by decide)
  generalize (D.recov at_ l).2 = D2 at *
  clear h hin r1
  refine wk ?_
  refine PW.loop (fun _ : Nat => agA size at_ most keep [] D) (fun _ => True) (fun _ => 0) 0 trivial ?_ ?_
  · unfold agA
    exact sb
  · intro _ _
    unfold agA
    refine wk ?_
    exact RetH.mk rfl (Weak.refl _) ⟨⟨_, rfl, WeakL.refl _⟩, ⟨_, rfl, WeakL.refl _⟩, ⟨_, rfl, WeakL.refl _⟩, trivial⟩ ⟨⟨rfl, rfl⟩, trivial⟩

def agSt (size at_ most : Int) (keep ss : List Int) (D G : DM) (C : Nat → DM) : Nat → PS
  | 0 => agA size at_ most keep ss D
  | i + 1 => agB size at_ most keep ss G (C (i + 1)) (i + 1)

set_option maxRecDepth 10000 in
set_option maxHeartbeats 8000000 in
theorem jd_again11 (size at_ most : Int) {N : Nat} {D : DM} {M : List Sec} {l : List PPut} (h : Aft N at_ most M l D) (hN : N ≤ 60000) (hb : liesB N at_ most = true) (hin : InD N l) (hlm : (l.length : Int) ≤ most) (keep ss : List Int) (hss : ∀ z ∈ ss, 0 ≤ z ∧ z < 256) (hsl : 0 < ss.length ∧ ss.length ≤ 1000000) (hkl : keep.length ≤ 1000000000000000) (hki : ∀ x ∈ keep, -9223372036854775808 ≤ x ∧ x ≤ 9223372036854775807) :
    HCalls Tryd.prog 21 [.ptr 1000001 0, .agg (parea size at_ most), pbytes ss, pints keep] (dG 1000001 1000002 1000003 D) (dMs 1000003 D) (.tup [.ptr 900001 0, .ptr 900004 0])
      ((1000001, dB 1000002 1000003 ((D.arm (ss.getD 0 default)).recov at_ l).2) :: (1000002, dC ((D.arm (ss.getD 0 default)).recov at_ l).2) :: jG 900001 900002 900003 900004 at_ most ((agN D at_ l keep ss ss.length).recov at_ l).2)
      [(1000003, dM ((D.arm (ss.getD 0 default)).recov at_ l).2), (900003, dM ((agN D at_ l keep ss ss.length).recov at_ l).2)] := by
  have c1 := dC_low D
  have c2 := dM_low D
  have h1 := low_parea size at_ most
  have c3 := dC_low ((D.arm (ss.getD 0 default)).recov at_ l).2
  have c4 := dM_low ((D.arm (ss.getD 0 default)).recov at_ l).2
  have c5 := dC_low ((agN D at_ l keep ss ss.length).recov at_ l).2
  have c6 := dM_low ((agN D at_ l keep ss ss.length).recov at_ l).2
  obtain ⟨m0, m1, h0, hNN, hr, hrn, hat⟩ := lies_spec hb
  obtain ⟨r1, -⟩ := (agN_aft (keep := keep) h hb hin hlm hss ss.length).opened hb hin hlm
  have hA := agN_aft (keep := keep) h hb hin hlm hss
  have hopF := jd_open at_ most (hA ss.length).ok.go hb (by omega) (by omega) (recP_of (hA ss.length) hb hin hlm (E := agN D at_ l keep ss ss.length) (fun _ => rfl) rfl) r1 900001 900002 900003 900004 (by decide)
  have hG0 : ((D.arm (ss.getD 0 default)).recov at_ l).2.crash keep = agN D at_ l keep ss 1 := rfl
  have hst : ∀ i, agN D at_ l keep ss (i + 1) = (((agN D at_ l keep ss i).arm (ss.getD i default)).recov at_ l).2.crash keep := fun i => rfl
  have hgo := fun i => ((hA i).again hb hin hlm (n := ss.getD i default) (by have := byte_at hss i; omega) keep).2
  have hgo0 : GoD N 2000 ((D.arm (ss.getD 0 default)).recov at_ l).2 := hgo 0
  have hrp := fun i => recP_of (hA i) hb hin hlm (E := (agN D at_ l keep ss i).arm (ss.getD i default)) (fun _ => rfl) rfl
  have hrp0 : RecP (D.arm (ss.getD 0 default)) at_ most ((D.arm (ss.getD 0 default)).recov at_ l) := hrp 0
  have hag := fun i => (hA i).ok.arm (n := ss.getD i default) (by have := byte_at hss i; omega)
  have hag0 : GoD N 0 (D.arm (ss.getD 0 default)) := hag 0
  have hbt := byte_at hss
  generalize ((agN D at_ l keep ss ss.length).recov at_ l).2 = F at *
  generalize hC : agN D at_ l keep ss = C at *
  generalize hR0 : (D.arm (ss.getD 0 default)).recov at_ l = R0 at *
  refine hcalls_of_pw typeTab_ok Tryd.func21 rfl rfl (by simp [PV.ownB, pbytes, pints]) (Nat.le_of_ble_eq_true rfl) (by simp [ResIds, jG, dG, dMs]) (by simp [ResIds, jG, dG, dMs])
    ⟨li_cons (.ptr _ _ (by simp [ResIds, jG, dG, dMs])) (li_cons (Low.lowI h1) (li_cons (Low.lowI (by exact lw)) (li_cons (Low.lowI (by exact lw)) li_nil))), lb_cons (dB_lowI (by simp [ResIds, jG, dG, dMs]) (by simp [ResIds, jG, dG, dMs]) _) (lb_cons (li_low c1) lb_nil), lm_cons (dM_low _) lm_nil, .tup _ (li_cons (.ptr _ _ (by simp [ResIds, jG, dG, dMs])) (li_cons (.ptr _ _ (by simp [ResIds, jG, dG, dMs])) li_nil)),
      lb_cons (dB_lowI (by simp [ResIds, jG, dG, dMs]) (by simp [ResIds, jG, dG, dMs]) _) (lb_cons (li_low c3) (lb_cons (li_cons (.ptr _ _ (by simp [ResIds, jG, dG, dMs])) (li_cons (.val _) (li_cons (.val _) li_nil))) (lb_cons (dB_lowI (by simp [ResIds, jG, dG, dMs]) (by simp [ResIds, jG, dG, dMs]) _) (lb_cons (li_low c5) lb_nil)))), lm_cons (dM_low _) (lm_cons (dM_low _) lm_nil), by simp [jG, dG], by simp [dMs]⟩ ?_
  refine wk ?_
  refine PW.loop (agSt size at_ most keep ss D R0.2 C) (fun i => i ≤ ss.length) (fun i => ss.length - i) 0 (by omega) ?_ ?_
  · show Sub _ _ (agA size at_ most keep ss D)
    unfold agA
    exact sb
  · intro i hi
    cases i with
    | zero =>
      show PW _ _ _ _ (agA size at_ most keep ss D)
      unfold agA
      have harm := dc_Arm D (ss.getD 0 default) 1000001 1000002 1000003 (by decide)
      rw [show ({ D with after := maxI (ss.getD 0 default) (-1) } : DM) = D.arm (ss.getD 0 default) from rfl] at harm
      have b0 := hbt 0
      clear hbt
      obtain ⟨b0, b1⟩ := b0
      obtain ⟨k1, k2, k3⟩ := crash_fit hgo0 (by omega)
      have hcr := dc_Crash R0.2 keep k1 k2 k3 hkl hki 1000001 1000002 1000003 900011 900012 900013 (by decide)
      rw [hG0] at hcr
      have d1 := dC_low (C 1)
      have d2 := dM_low (C 1)
      by_cases hz : R0.1 = 0
      · have hop := jd_open at_ most hag0 hb (by omega) (by omega) hrp0 hz 1000001 1000002 1000003 900004 (by decide)
        clear hopF hG0 hst hgo hgo0 hrp hrp0 hag hag0 k1 k2 k3 hA hC hR0
        generalize D.arm (ss.getD 0 default) = E at *
        refine wk ?_
        refine loopP 1 (by omega) (by omega) ?_
        show Sub _ _ (agB size at_ most keep ss R0.2 (C (0 + 1)) (0 + 1))
        unfold agB
        refine Sub.other (κ := renN [(900001, 900011), (900002, 900012), (900003, 900013)]) [0, 900003, 900002, 900001, 1000003, 1000002, 1000001] (by exact sbr0) ?_ rfl rfl
        exact kn_put (kn_put (kn_put (kn_put (kn_put (kn_put (kn_put (kn_setb (kn_setm (kn_setb (kn_setb (kn_setm (kn_setb (kn_setb kn_bot)))))))))))))
      · have hop := jd_openE at_ most hag0 hb (by omega) (by omega) hrp0 hz 1000001 1000002 1000003 (by decide)
        clear hopF hG0 hst hgo hgo0 hrp hrp0 hag hag0 k1 k2 k3 hA hC hR0
        generalize D.arm (ss.getD 0 default) = E at *
        refine wk ?_
        refine loopP 1 (by omega) (by omega) ?_
        show Sub _ _ (agB size at_ most keep ss R0.2 (C (0 + 1)) (0 + 1))
        unfold agB
        refine Sub.other (κ := renN [(900001, 900011), (900002, 900012), (900003, 900013)]) [0, 900003, 900002, 900001, 1000003, 1000002, 1000001] (by exact sbr0) ?_ rfl rfl
        exact kn_put (kn_put (kn_put (kn_put (kn_put (kn_put (kn_put (kn_setb (kn_setm (kn_setb (kn_setb (kn_setm (kn_setb (kn_setb kn_bot)))))))))))))
    | succ i =>
      show PW _ _ _ _ (agB size at_ most keep ss R0.2 (C (i + 1)) (i + 1))
      unfold agB
      have d3 := dC_low (C (i + 1))
      have d4 := dM_low (C (i + 1))
      by_cases hlt : i + 1 < ss.length
      · have harm := dc_Arm (C (i + 1)) (ss.getD (i + 1) default) 900001 900002 900003 (by decide)
        rw [show ({ C (i + 1) with after := maxI (ss.getD (i + 1) default) (-1) } : DM) = (C (i + 1)).arm (ss.getD (i + 1) default) from rfl] at harm
        have b0 := hbt (i + 1)
        obtain ⟨b0, b1⟩ := b0
        obtain ⟨k1, k2, k3⟩ := crash_fit (hgo (i + 1)) (by omega)
        have hcr := dc_Crash (((C (i + 1)).arm (ss.getD (i + 1) default)).recov at_ l).2 keep k1 k2 k3 hkl hki 900001 900002 900003 900011 900012 900013 (by decide)
        rw [← hst (i + 1)] at hcr
        have d1 := dC_low (C (i + 1 + 1))
        have d2 := dM_low (C (i + 1 + 1))
        have hrp1 := hrp (i + 1)
        have hag1 := hag (i + 1)
        generalize ((C (i + 1)).arm (ss.getD (i + 1) default)).recov at_ l = R1 at *
        by_cases hz : R1.1 = 0
        · have hop := jd_open at_ most hag1 hb (by omega) (by omega) hrp1 hz 900001 900002 900003 900004 (by decide)
          clear hopF hG0 hst hgo hgo0 hrp hrp0 hag hag0 k1 k2 k3 hA hC hR0 hrp1 hag1 hbt
          generalize (C (i + 1)).arm (ss.getD (i + 1) default) = E at *
          refine wk ?_
          refine loopP (i + 1 + 1) (by omega) (by omega) ?_
          show Sub _ _ (agB size at_ most keep ss R0.2 (C (i + 1 + 1)) (i + 1 + 1))
          unfold agB
          refine Sub.other (κ := renN [(900001, 900011), (900002, 900012), (900003, 900013)]) [0, 900003, 900002, 900001, 1000003, 1000002, 1000001] (by exact sbr0) ?_ rfl rfl
          exact kn_put (kn_put (kn_put (kn_put (kn_put (kn_put (kn_put (kn_setb (kn_setm (kn_setb (kn_setb (kn_setm (kn_setb (kn_setb kn_bot)))))))))))))
        · have hop := jd_openE at_ most hag1 hb (by omega) (by omega) hrp1 hz 900001 900002 900003 (by decide)
          clear hopF hG0 hst hgo hgo0 hrp hrp0 hag hag0 k1 k2 k3 hA hC hR0 hrp1 hag1 hbt
          generalize (C (i + 1)).arm (ss.getD (i + 1) default) = E at *
          refine wk ?_
          refine loopP (i + 1 + 1) (by omega) (by omega) ?_
          show Sub _ _ (agB size at_ most keep ss R0.2 (C (i + 1 + 1)) (i + 1 + 1))
          unfold agB
          refine Sub.other (κ := renN [(900001, 900011), (900002, 900012), (900003, 900013)]) [0, 900003, 900002, 900001, 1000003, 1000002, 1000001] (by exact sbr0) ?_ rfl rfl
          exact kn_put (kn_put (kn_put (kn_put (kn_put (kn_put (kn_put (kn_setb (kn_setm (kn_setb (kn_setb (kn_setm (kn_setb (kn_setb kn_bot)))))))))))))
      · have e : ss.length = i + 1 := by omega
        rw [e] at hopF ⊢
        clear hG0 hst hgo hgo0 hrp hrp0 hag hag0 hA hC hR0 hbt
        generalize C (i + 1) = C1 at *
        refine wk ?_
        exact RetH.mk rfl (Weak.refl _) ⟨⟨_, rfl, WeakL.refl _⟩, ⟨_, rfl, WeakL.refl _⟩, ⟨_, rfl, WeakL.refl _⟩, ⟨_, rfl, WeakL.refl _⟩, ⟨_, rfl, WeakL.refl _⟩, trivial⟩ ⟨⟨rfl, rfl⟩, ⟨rfl, rfl⟩, trivial⟩
end Go.Proofs.YtilcpcpmkklobaaDoor

/- The journal whose disk fails: again, for all numbers. -/
namespace Go.Proofs.YtilcpcpmkklobaaDoor
set_option linter.unusedSimpArgs false
set_option linter.unusedVariables false
set_option linter.unnecessarySimpa false
open Go.RowKit

theorem jd_again0 (size at_ most : Int) {N : Nat} {D : DM} {M : List Sec} {l : List PPut} (h : Aft N at_ most M l D) (hN : N ≤ 60000) (hb : liesB N at_ most = true) (hin : InD N l) (hlm : (l.length : Int) ≤ most) (keep : List Int) (d c m j : Nat) (hd : ([d, c, m, j] : List Nat).Nodup) :
    HCalls Tryd.prog 21 [.ptr d 0, .agg (parea size at_ most), pbytes [], pints keep] (dG d c m D) (dMs m D) (.tup [.ptr d 0, .ptr j 0]) (jG d c m j at_ most (D.recov at_ l).2) (dMs m (D.recov at_ l).2) := by
  have h1 := low_parea size at_ most
  refine (jd_again01 size at_ most h hN hb hin hlm keep).at [(1000001, d), (1000002, c), (1000003, m), (900004, j)] (by simpa using hd) (by simp [ResIds, jG, dG, dMs]) (by simp [jG, dG]) (by simp [dMs]) (.cons (.ptr _ _ (by first | simp [ResIds, dG, dMs, jG] | simp [ResIds, dG, dMs, crG, crM] | simp [ResIds, dG, dMs])) (.cons (.low _ h1) (.cons (.low _ (by exact lw)) (.cons (.low _ (by exact lw)) .nil)))) ?_ ?_ (ren_tup (.cons (.ptr _ _ (by first | simp [ResIds, dG, dMs, jG] | simp [ResIds, dG, dMs, crG, crM] | simp [ResIds, dG, dMs])) (.cons (.ptr _ _ (by first | simp [ResIds, dG, dMs, jG] | simp [ResIds, dG, dMs, crG, crM] | simp [ResIds, dG, dMs])) .nil))) ?_ ?_ <;> exact ren0
theorem jd_again1 (size at_ most : Int) {N : Nat} {D : DM} {M : List Sec} {l : List PPut} (h : Aft N at_ most M l D) (hN : N ≤ 60000) (hb : liesB N at_ most = true) (hin : InD N l) (hlm : (l.length : Int) ≤ most) (keep ss : List Int) (hss : ∀ z ∈ ss, 0 ≤ z ∧ z < 256) (hsl : 0 < ss.length ∧ ss.length ≤ 1000000) (hkl : keep.length ≤ 1000000000000000) (hki : ∀ x ∈ keep, -9223372036854775808 ≤ x ∧ x ≤ 9223372036854775807) (d c m d2 c2 m2 j : Nat) (hd : ([d, c, m, d2, c2, m2, j] : List Nat).Nodup) :
    HCalls Tryd.prog 21 [.ptr d 0, .agg (parea size at_ most), pbytes ss, pints keep] (dG d c m D) (dMs m D) (.tup [.ptr d2 0, .ptr j 0])
      ((d, dB c m ((D.arm (ss.getD 0 default)).recov at_ l).2) :: (c, dC ((D.arm (ss.getD 0 default)).recov at_ l).2) :: jG d2 c2 m2 j at_ most ((agN D at_ l keep ss ss.length).recov at_ l).2)
      [(m, dM ((D.arm (ss.getD 0 default)).recov at_ l).2), (m2, dM ((agN D at_ l keep ss ss.length).recov at_ l).2)] := by
  have h1 := low_parea size at_ most
  refine (jd_again11 size at_ most h hN hb hin hlm keep ss hss hsl hkl hki).at [(1000001, d), (1000002, c), (1000003, m), (900001, d2), (900002, c2), (900003, m2), (900004, j)] (by simpa using hd) (by simp [ResIds, jG, dG, dMs]) (by simp [jG, dG]) (by simp [dMs]) (.cons (.ptr _ _ (by first | simp [ResIds, dG, dMs, jG] | simp [ResIds, dG, dMs, crG, crM] | simp [ResIds, dG, dMs])) (.cons (.low _ h1) (.cons (.low _ (by exact lw)) (.cons (.low _ (by exact lw)) .nil)))) ?_ ?_ (ren_tup (.cons (.ptr _ _ (by first | simp [ResIds, dG, dMs, jG] | simp [ResIds, dG, dMs, crG, crM] | simp [ResIds, dG, dMs])) (.cons (.ptr _ _ (by first | simp [ResIds, dG, dMs, jG] | simp [ResIds, dG, dMs, crG, crM] | simp [ResIds, dG, dMs])) .nil))) ?_ (.cons _ _ _ _ _ (RenM.low (dM_low _)) (.cons _ _ _ _ _ (RenM.low (dM_low _)) .nil)) <;> exact ren0
end Go.Proofs.YtilcpcpmkklobaaDoor

/- The journal whose disk fails: what is found, without a program. -/
namespace Go.Proofs.YtilcpcpmkklobaaDoor
set_option linter.unusedSimpArgs false
set_option linter.unusedVariables false
set_option linter.unnecessarySimpa false
open Go.RowKit

section
variable {N : Nat} {at_ most : Int} {D : DM} {M : List Sec} {l : List PPut}
/-- Open on a disk whose journal is at rest. -/
theorem JInv.openedR (h : JInv N 0 at_ most D M) (hb : liesB N at_ most = true) (hin : InD N l) (hlm : (l.length : Int) ≤ most) : (D.recov at_ l).1 = 0 ∧ JInv N 2000 at_ most (D.recov at_ l).2 M := by
  have hA : Aft N at_ most M l D := .inl h
  refine ⟨(hA.opened hb hin hlm).1, ?_⟩
  have hE : D.recov at_ l = D.recov at_ [] := by
    unfold DM.recov
    have : recO D at_ l = recO D at_ [] := by
      unfold recO
      by_cases c : (D.read at_).2 = 221
      · rw [if_pos c, if_pos c]
      · rw [if_neg c, if_neg c]
        rcases h.head with hh | ⟨-, z0, z1⟩
        · rw [hh] at c; exact absurd rfl c
        · rw [if_pos ⟨z0, z1⟩, if_pos ⟨z0, z1⟩]
    rw [this]
  have hA2 : Aft N at_ most M [] D := .inl h
  obtain ⟨m0, m1, -⟩ := lies_spec hb
  have := (hA2.opened hb (fun p hp => by simp at hp) (by simp; omega)).2
  rw [hE]
  exact this.elim id id
/-- What is read of all sectors. -/
def allR (D : DM) (N : Nat) : List Sec := (List.range N).map fun (q : Nat) => (D.read q).1
theorem allR_len (D : DM) (N : Nat) : (allR D N).length = N := by simp [allR]
theorem allR_get {q : Nat} (h : q < N) : (allR D N).getD q default = (D.read q).1 := by
  unfold allR
  rw [List.getD_eq_getElem?_getD, List.getElem?_map, List.getElem?_range h]; rfl
theorem JInv.has_all {k k' : Nat} {Y : DM} (h : JInv N k at_ most D M) (hY : JInv N k' at_ most Y M) : hasB Y at_ most (allR D N) = true := by
  refine hasB_true fun i hi => ?_
  rw [allR_len] at hi
  unfold hasAt
  by_cases ho : (i : Int) < at_ ∨ at_ + roomI most ≤ i
  · rw [allR_get hi, hY.out i hi ho, h.out i hi ho]
    simp
  · rw [decide_eq_true]; rfl
    omega
/-- The list so far. -/
def outS (L : List Sec) : Nat → PV
  | 0 => .nilsl
  | k + 1 => .sl (k + 1) 64 ((L.take (k + 1)).flatMap secL) (some 53)
theorem low_outS (L : List Sec) : ∀ k, Low (outS L k)
  | 0 => .nilsl
  | k + 1 => .sl _ _ _ _ (flat_low secL_low _)
theorem outS_succ (L : List Sec) (k : Nat) (h : k < L.length) : outS L (k + 1) = .sl (k + 1) 64 ((L.take k).flatMap secL ++ secL (L.getD k default)) (some 53) := by
  rw [outS, take_getD default h, List.flatMap_append]
  show PV.sl _ _ (_ ++ (secL _ ++ [])) _ = _
  rw [List.append_nil]
theorem outS_all (L : List Sec) (h : 0 < L.length) : outS L L.length = .sl L.length 64 (L.flatMap secL) (some 53) := by
  cases L with
  | nil => exact absurd h (by simp)
  | cons a A => show outS (a :: A) (A.length + 1) = _; rw [outS, List.take_of_length_le (by simp)]; rfl
end
end Go.Proofs.YtilcpcpmkklobaaDoor

/- What every law's row asks behind the walk: it returns true, and nothing that was there has changed; and how its arguments are opened. -/
namespace Go.Proofs.YtilcpcpmkklobaaDoor
set_option linter.unusedSimpArgs false
set_option linter.unusedVariables false
set_option linter.unnecessarySimpa false
open Go.ChangeShapes Go.WideShapes Go.ChangeAt Go.RowKit

theorem own : ownKnob Tryd.prog.godebug = none := by kernel_rfl
theorem laidOut : laidOutB Tryd.prog = true := by kernel_rfl

theorem trodAll_below {H : Type} {enc : TypeId × Value → H} {P : Program} (hl : laidOutB P = true) {W W' : World} (hb : Below W.heap.size W W') :
    ∀ (ts : List TypeId) (vs : List Value) (ds : List (DataW H)) (ps : List MemPlace), ts.all (fun t => P.readableRec t && decide (t < P.types.size)) = true → DataW.TrodAll enc P W 0 (fun _ => true) true ts vs ds ps →
      (∀ x ∈ ps, x.block < W.heap.size) → DataW.TrodAll enc P W' 0 (fun b => decide (b < W.heap.size)) true ts vs ds ps
  | [], [], [], ps, _, h, _ => h
  | t :: ts, v :: vs, d :: ds, ps, hr, h, hlt => by
    obtain ⟨p, q, h1, h2, rfl⟩ := h
    simp only [List.all_cons, Bool.and_eq_true, decide_eq_true_eq] at hr
    exact ⟨p, q, Below.trod hl hr.1.1 hr.1.2 h1 hb (fun x hx => hlt x (List.mem_append_left _ hx)), trodAll_below hl hb ts vs ds q hr.2 h2 (fun x hx => hlt x (List.mem_append_right _ hx)), rfl⟩
  | [], [], _ :: _, _, _, h, _ => by simp [DataW.TrodAll] at h
  | [], _ :: _, _, _, _, h, _ => by simp [DataW.TrodAll] at h
  | _ :: _, [], _, _, _, h, _ => by simp [DataW.TrodAll] at h
  | _ :: _, _ :: _, [], _, _, h, _ => by simp [DataW.TrodAll] at h

/-- The post of a law. -/
theorem post_law {H : Type} {enc : TypeId × Value → H} {P : Program} (hl : laidOutB P = true) {f : Func} {s : ChangeSpec} {W W' : World} {args : Array Value} {ds : List (DataW H)} {before : List MemPlace} {tb : TypeId}
    (htb : P.underlying tb = some .bool) (hres : f.resultTypes = #[tb]) (hvars : s.vars = []) (hread : f.params.toList.all (fun t => P.readableRec t && decide (t < P.types.size)) = true)
    (hW : DataW.Whole enc P f.params.toList s.vars false W args.toList ds [] before)
    (hr : (s.fn H (ds ++ [])).results = [.lit (.bool true)]) (ha : (s.fn H (ds ++ [])).args = ds) (hv : (s.fn H (ds ++ [])).vars = [])
    (hb : Below W.heap.size W W') : s.post enc P f false true false false W args (.bool true) W' := by
  have hW' := hW
  obtain ⟨p, q, hA, hV, rfl, _, _⟩ := hW
  rw [hvars] at hV
  obtain ⟨_, rfl⟩ := trodVars_none hV
  refine ⟨ds, [], p ++ [], [], p, [], hW', ?_, ?_, ?_, hb.frame _, fun h => by cases h⟩
  · rw [hr, hres]
    exact trodAll_cons_mk (shut_bool htb true) trodAll_mk0
  · rw [ha]
    exact trodAll_below hl hb _ _ _ _ hread hA (fun x hx => by simpa using hW'.lt x (by simp [hx]))
  · rw [hv, hvars]; rfl

/-- A slice of 64-bit integers among the arguments. -/
theorem open_Ints {H : Type} {enc : TypeId × Value → H} {P : Program} {W : World} {t e : TypeId} {v : Value} {d : DataW H} {p : List MemPlace} {base : Nat} (ht : P.underlying t = some (.slice e)) (he : P.underlying e = some (.int .i64)) (hc : P.cellsOf e = 1)
    (hval : Value.okWide P W .any base t v) (h : DataW.Trod enc P W 0 (fun _ => true) true t v d p) :
    ∃ zs : List Int, Ints W v zs ∧ (∀ z ∈ zs, -9223372036854775808 ≤ z ∧ z ≤ 9223372036854775807) ∧ ((zs = [] ∧ d = .nil) ∨ ∃ sp, d = .slice (lits .i64 zs) sp) := by
  obtain ⟨a0, len, cap, rfl⟩ := okWide_slice ht hval
  obtain ⟨fuel, hf⟩ := h
  rcases open_ints ht he hc hf with ⟨hcs, hx⟩ | ⟨a, len', cap', zs, hcs, _, hl, hm, hz, hx, hcell, hwz⟩
  · simp [Value.cells] at hcs
    obtain ⟨rfl, rfl, rfl⟩ := hcs
    simp only [Prod.mk.injEq] at hx
    exact ⟨[], ⟨none, 0, 0, 0, rfl, by simp, by simp [maxLen], fun h => by simp at h, fun j u hu => by simp at hu⟩, by simp, .inl ⟨rfl, hx.1⟩⟩
  · simp [Value.cells] at hcs
    obtain ⟨rfl, rfl, rfl⟩ := hcs
    simp only [Prod.mk.injEq] at hx
    simp only [if_true] at hz
    have hlen : (zs.take len).length = len := by rw [List.length_take]; omega
    refine ⟨zs.take len, ⟨some a, cap, a.block, a.off, by rw [List.length_map, hlen], by rw [List.length_map, hlen]; exact hl, hm, fun h => ?_, fun j u hu => ?_⟩, fun z hz' => ?_, .inr ⟨_, hx.1⟩⟩
    · rw [List.length_map, hlen] at h
      have hs := World.cell?_spot (hcell 0 (by omega))
      obtain ⟨b, off, spot⟩ := a
      have : spot = none := by simpa [Addr.add] using hs
      rw [this]
    · rw [List.getElem?_map] at hu
      obtain ⟨x, hx2, rfl⟩ := Option.map_eq_some_iff.1 hu
      have hj : j < len := by have := (List.getElem?_eq_some_iff.1 hx2).1; omega
      have hs := World.cell?_spot (hcell 0 (by omega))
      obtain ⟨b, off, spot⟩ := a
      have : spot = none := by simpa [Addr.add] using hs
      subst this
      have := hcell j (by omega)
      rw [add_plain] at this
      rw [this]
      rw [List.getElem?_take, if_pos hj] at hx2
      simp [List.getD, hx2]
    · have := hwz z (List.mem_of_mem_take hz')
      simpa [Lit.wf, IntKind.min, IntKind.max, IntKind.signed, IntKind.bits] using this

/-- The reach of the j-th argument. -/
theorem reach_Ints {H : Type} {P : Program} {ts : List TypeId} {ds : List (DataW H)} (hsz : (DataW.weightsEach P ts ds).all (· ≤ reachBytes) = true) (j : Nat) {t e : TypeId} {d : DataW H} {zs : List Int} (k : IntKind) (n : Nat) (ht : ts[j]? = some t) (hd : ds[j]? = some d) (hu : P.underlying t = some (.slice e)) (hb : P.bytesOf e = n)
    (h : (zs = [] ∧ d = .nil) ∨ ∃ sp, d = .slice (lits k zs) sp) : zs.length * n ≤ 140737488351232 := by
  rcases h with ⟨rfl, _⟩ | ⟨sp, rfl⟩
  · simp
  · have := sized_slice hsz ht hd hu
    rw [hb] at this
    simp only [lits, List.length_map, reachBytes] at this
    have h2 : zs.length * n ≤ (zs.length + sp.length) * n := Nat.mul_le_mul_right _ (by omega)
    omega

theorem cellsInt : Tryd.prog.cellsOf 3 = 1 := by kernel_rfl
theorem bytesInt : Tryd.prog.bytesOf 3 = 8 := by kernel_rfl

end Go.Proofs.YtilcpcpmkklobaaDoor

/- How a law's arguments are opened, whatever their types; a law's row out of its contract over pure values. -/
namespace Go.Proofs.YtilcpcpmkklobaaDoor
set_option linter.unusedSimpArgs false
set_option linter.unusedVariables false
set_option linter.unnecessarySimpa false
open Go.ChangeShapes Go.WideShapes Go.ChangeAt Go.RowKit

def immW (W : World) : Imm := fun b o => W.cell? ⟨b, o, none⟩

theorem RepL.append {Φ : Imm} {μ : Nat → Option Nat} {cs ds : List PV} {us vs : List Value} (h : RepL Φ μ cs us) (k : RepL Φ μ ds vs) : RepL Φ μ (cs ++ ds) (us ++ vs) := by
  refine ⟨by simp [h.1, k.1], fun j c u h1 h2 => ?_⟩
  by_cases hj : j < cs.length
  · rw [List.getElem?_append_left hj] at h1
    rw [List.getElem?_append_left (by rw [h.1]; exact hj)] at h2
    exact h.2 j c u h1 h2
  · rw [List.getElem?_append_right (by omega)] at h1
    rw [List.getElem?_append_right (by rw [h.1]; omega), h.1] at h2
    exact k.2 _ c u h1 h2

/-- Cells of the type t read as a value of α, whose cells are encoded by en. -/
def Opens (P : Program) (t : TypeId) {α : Type} (en : α → List PV) (ok : α → Prop) : Prop :=
  ∀ (H : Type) (enc : TypeId × Value → H) (W : World) (fuel : Nat) (cs : List Value) (d : DataW H) (pl : List MemPlace),
    DataW.trod enc P W 0 (fun _ => true) true fuel t cs = some (d, pl) → (∀ n ∈ d.weights P t, n ≤ reachBytes) → ∃ y : α, ok y ∧ RepL (immW W) mu0 (en y) cs

section
variable {P : Program} {t e : TypeId}
theorem Opens.map {α β : Type} {en : α → List PV} {ok : α → Prop} (h : Opens P t en ok) (g : α → β) {en' : β → List PV} {ok' : β → Prop} (hen : ∀ a, ok a → en' (g a) = en a) (hok : ∀ a, ok a → ok' (g a)) : Opens P t en' ok' := by
  intro H enc W fuel cs d pl h1 h2
  obtain ⟨y, k1, k2⟩ := h H enc W fuel cs d pl h1 h2
  exact ⟨g y, hok y k1, by rw [hen y k1]; exact k2⟩
theorem opens_int {k : IntKind} (ht : P.underlying t = some (.int k)) : Opens P t (fun z : Int => [.val (.int k z)]) (fun z => (Lit.int k z).wf = true) := by
  intro H enc W fuel cs d pl h hw
  obtain ⟨n, rfl, hx, hwf⟩ := DataW.trod_int ht h
  exact ⟨n, hwf, RepL.cons (.val _ rfl) RepL.nil⟩
theorem opens_bool (ht : P.underlying t = some .bool) : Opens P t (fun b : Bool => [.val (.bool b)]) (fun _ => True) := by
  intro H enc W fuel cs d pl h hw
  obtain ⟨n, rfl, hx⟩ := DataW.trod_bool ht h
  exact ⟨n, trivial, RepL.cons (.val _ rfl) RepL.nil⟩
theorem opens_str (ht : P.underlying t = some .string) : Opens P t (fun b : ByteArray => [.val (.string b)]) (fun b => b.size ≤ reachBytes) := by
  intro H enc W fuel cs d pl h hw
  obtain ⟨s, rfl, hx, hs⟩ := DataW.trod_string ht h
  refine ⟨s, ?_, RepL.cons (.val _ rfl) RepL.nil⟩
  cases hx
  have := hw s.data.toList.length (by simp [DataW.weights])
  simpa using this

theorem weights_mem {H : Type} {e : TypeId} : ∀ {l : List (DataW H)} {d : DataW H}, d ∈ l → ∀ n ∈ d.weights P e, n ∈ DataW.weightsAll P e l
  | x :: l, d, h, n, hn => by
    rw [DataW.weightsAll, List.mem_append]
    rcases List.mem_cons.1 h with rfl | h
    · exact .inl hn
    · exact .inr (weights_mem h n hn)

theorem opens_slice {α : Type} {en : α → List PV} {ok : α → Prop} {k b : Nat} (ht : P.underlying t = some (.slice e)) (hc : P.cellsOf e = k) (hk : 0 < k) (hb : P.bytesOf e = b) (he : Opens P e en ok) (hlen : ∀ x, ok x → (en x).length = k) :
    Opens P t (fun xs : List α => [.sl xs.length k (xs.flatMap en) none]) (fun xs => (∀ x ∈ xs, ok x) ∧ xs.length * b ≤ reachBytes) := by
  intro H enc W fuel cs d pl h hw
  rcases Deep.open_slice ht h with ⟨rfl, hx⟩ | ⟨a, len, cap, m, n, D, Pl, rfl, -, hl, hm, hmm, hx, hel⟩
  · exact ⟨[], ⟨by simp, by simp⟩, RepL.cons (.sl0 _ _ _ _ (by unfold maxLen; omega)) RepL.nil⟩
  · simp only [if_true] at hmm
    subst hmm
    cases hx
    have hall : ∀ i, i < len → ∃ y : α, ok y ∧ ∃ us, W.cells? 0 (a.add (i * P.cellsOf e)) (P.cellsOf e) = some us ∧ RepL (immW W) mu0 (en y) us := by
      intro i hi
      obtain ⟨us, h1, h2⟩ := hel i (by omega)
      obtain ⟨y, k1, k2⟩ := he H enc W n us (D i) (Pl i) h2 (fun x hx => by
        refine hw x ?_
        simp only [DataW.weights, ht, List.mem_cons, List.mem_append]
        exact .inr (.inl (weights_mem (List.mem_map.2 ⟨i, by simpa using hi, rfl⟩) x hx)))
      exact ⟨y, k1, us, h1, k2⟩
    have : ∃ xs : List α, xs.length = len ∧ ∀ i x, xs[i]? = some x → ok x ∧ ∃ us, W.cells? 0 (a.add (i * P.cellsOf e)) (P.cellsOf e) = some us ∧ RepL (immW W) mu0 (en x) us := by
      have key : ∀ j, j ≤ len → ∃ xs : List α, xs.length = j ∧ ∀ i x, xs[i]? = some x → ok x ∧ ∃ us, W.cells? 0 (a.add (i * P.cellsOf e)) (P.cellsOf e) = some us ∧ RepL (immW W) mu0 (en x) us := by
        intro j
        induction j with
        | zero => exact fun _ => ⟨[], rfl, fun i x hx => by simp at hx⟩
        | succ j ih =>
          intro hj
          obtain ⟨xs, h1, h2⟩ := ih (by omega)
          obtain ⟨y, k1, k2⟩ := hall j (by omega)
          refine ⟨xs ++ [y], by simp [h1], fun i x hx => ?_⟩
          by_cases hi : i < j
          · rw [List.getElem?_append_left (by omega)] at hx; exact h2 i x hx
          · rw [List.getElem?_append_right (by omega)] at hx
            have h0 : i - xs.length = 0 := by
              have := (List.getElem?_eq_some_iff.1 hx).1
              simp at this; omega
            rw [h0] at hx; simp at hx; subst hx
            obtain rfl : i = j := by omega
            exact ⟨k1, k2⟩
      exact key len (Nat.le_refl _)
    obtain ⟨xs, hxl, hxs⟩ := this
    refine ⟨xs, ⟨fun x hx => ?_, ?_⟩, RepL.cons ?_ RepL.nil⟩
    · obtain ⟨i, hi⟩ := List.getElem?_of_mem hx
      exact (hxs i x hi).1
    · have hw1 := hw (((List.range len).map D).length * P.bytesOf e + ((List.range (m - len)).map fun j => D (len + j)).length * P.bytesOf e) (by
        simp only [DataW.weights, ht, List.mem_cons, List.mem_append, Nat.add_mul]
        exact .inl trivial)
      simp only [List.length_map, List.length_range, hb] at hw1
      rw [hxl]; omega
    · by_cases h0 : len = 0
      · subst h0
        obtain rfl : xs = [] := List.eq_nil_of_length_eq_zero hxl
        exact .sl0 _ _ _ _ hm
      · obtain ⟨bl, off, spot⟩ := a
        have hfl : (xs.flatMap en).length = len * k := by
          rw [← hxl]
          have : ∀ (l : List α), (∀ x ∈ l, (en x).length = k) → (l.flatMap en).length = l.length * k := by
            intro l
            induction l with
            | nil => simp
            | cons x l ih => intro h; rw [List.flatMap_cons, List.length_append, h x (by simp), ih (fun y hy => h y (by simp [hy])), List.length_cons, Nat.succ_mul]; omega
          exact this xs (fun x hx => by
            obtain ⟨i, hi⟩ := List.getElem?_of_mem hx
            exact hlen x (hxs i x hi).1)
        have hcell : ∀ i r, i < len → r < k → ∃ x u, xs[i]? = some x ∧ W.cell? (Addr.add (Addr.add ⟨bl, off, spot⟩ (i * k)) r) = some u ∧ ∀ c, (en x)[r]? = some c → Rep (immW W) mu0 c u := by
          intro i r hi hr
          have hix : i < xs.length := by omega
          obtain ⟨k1, us, k2, k3⟩ := hxs i xs[i] (by simp [hix])
          obtain ⟨-, q2, q3⟩ := World.cells?_some k2
          rw [hc] at q2 q3
          have hru : r < us.length := by omega
          refine ⟨xs[i], us[r], by simp [hix], by rw [q3 r hr]; simp [hru], fun c hcc => k3.2 r c _ hcc (by simp [hru])⟩
        have hspot : spot = none := by
          obtain ⟨x, u, -, h2, -⟩ := hcell 0 0 (by omega) hk
          have := World.cell?_spot h2
          simpa [Addr.add] using this
        subst hspot
        rw [← hxl]
        refine .sl xs.length k _ none bl off m (fun j => (W.cell? ⟨bl, off + j, none⟩).getD undef) (by rw [hfl, hxl]) (by omega) hm (fun j hj => ?_) (fun j c hj => ?_)
        · rw [hfl] at hj
          have hq : j / k < len := by rw [Nat.div_lt_iff_lt_mul hk]; exact hj
          obtain ⟨x, u, -, h2, -⟩ := hcell (j / k) (j % k) hq (Nat.mod_lt _ hk)
          rw [Addr.add_lit, Addr.add_lit, Nat.add_assoc, Nat.mul_comm, Nat.div_add_mod] at h2
          simp only [immW, h2, Option.getD_some]
        · have hjl := (List.getElem?_eq_some_iff.1 hj).1
          rw [hfl] at hjl
          have hq : j / k < len := by rw [Nat.div_lt_iff_lt_mul hk]; exact hjl
          obtain ⟨x, u, h1, h2, h3⟩ := hcell (j / k) (j % k) hq (Nat.mod_lt _ hk)
          rw [Addr.add_lit, Addr.add_lit, Nat.add_assoc, Nat.mul_comm, Nat.div_add_mod] at h2
          rw [h2, Option.getD_some]
          refine h3 c ?_
          have hxk : ∀ x ∈ xs, (en x).length = k := fun x hx => by
            obtain ⟨i, hi⟩ := List.getElem?_of_mem hx
            exact hlen x (hxs i x hi).1
          have gen : ∀ (l : List α) (i r : Nat) (x : α), (∀ x ∈ l, (en x).length = k) → l[i]? = some x → r < k → (l.flatMap en)[i * k + r]? = (en x)[r]? := by
            intro l
            induction l with
            | nil => intro i r x _ h; simp at h
            | cons y l ih =>
              intro i r x hl h hr
              rw [List.flatMap_cons]
              cases i with
              | zero =>
                simp at h; subst h
                rw [Nat.zero_mul, Nat.zero_add, List.getElem?_append_left (by rw [hl y (by simp)]; exact hr)]
              | succ i =>
                simp at h
                have := ih i r x (fun z hz => hl z (by simp [hz])) h hr
                rw [List.getElem?_append_right (by rw [hl y (by simp), Nat.succ_mul]; omega), hl y (by simp), ← this]
                congr 1
                rw [Nat.succ_mul]; omega
          rw [← gen xs (j / k) (j % k) x hxk h1 (Nat.mod_lt _ hk), Nat.mul_comm, Nat.div_add_mod]
          exact hj

/-- Fields, from the cell o on, m cells in all. -/
def OpensFs (P : Program) (fs : List Field) (o m : Nat) {α : Type} (en : α → List PV) (ok : α → Prop) : Prop :=
  ∀ (H : Type) (enc : TypeId × Value → H) (W : World) (n : Nat) (cs : List Value) (xs : List (DataW H × List MemPlace)), xs.length = fs.length → (∀ (i : Nat) (f : Field), fs[i]? = some f → DataW.trod enc P W 0 (fun _ => true) true n f.type ((cs.drop f.offset).take (P.cellsOf f.type)) = xs[i]?) →
    (∀ k ∈ DataW.weightsEach P (fs.map (·.type)) (xs.map (·.1)), k ≤ reachBytes) → ∃ y : α, ok y ∧ RepL (immW W) mu0 (en y) ((cs.drop o).take m)

theorem opensFs_nil {o : Nat} : OpensFs P [] o 0 (fun _ : Unit => []) (fun _ => True) := by
  intro H enc W n cs xs _ _ _
  exact ⟨(), trivial, by simpa using RepL.nil⟩
theorem opensFs_cons {f : Field} {fs : List Field} {o k m : Nat} {α β : Type} {en1 : α → List PV} {ok1 : α → Prop} {en2 : β → List PV} {ok2 : β → Prop} (ho : f.offset = o) (hk : P.cellsOf f.type = k) (h1 : Opens P f.type en1 ok1) (h2 : OpensFs P fs (o + k) m en2 ok2) :
    OpensFs P (f :: fs) o (k + m) (fun p : α × β => en1 p.1 ++ en2 p.2) (fun p => ok1 p.1 ∧ ok2 p.2) := by
  intro H enc W n cs xs hl hx hw
  cases xs with
  | nil => simp at hl
  | cons x xs =>
    have e0 := hx 0 f rfl
    rw [ho, hk] at e0
    obtain ⟨y, k1, k2⟩ := h1 H enc W n _ x.1 x.2 e0 (fun z hz => hw z (by simp only [List.map_cons, DataW.weightsEach, List.mem_append]; exact .inl hz))
    obtain ⟨z, k3, k4⟩ := h2 H enc W n cs xs (by simpa using hl) (fun i g hg => by have := hx (i + 1) g (by simpa using hg); simpa using this) (fun z hz => hw z (by simp only [List.map_cons, DataW.weightsEach, List.mem_append]; exact .inr hz))
    refine ⟨(y, z), ⟨k1, k3⟩, ?_⟩
    rw [List.take_add, List.drop_drop]
    exact k2.append k4
theorem opensFs_1 {f : Field} {fs : List Field} {o m : Nat} {α β : Type} {en1 : α → List PV} {ok1 : α → Prop} {en2 : β → List PV} {ok2 : β → Prop} (ho : f.offset = o) (h1 : Opens P f.type en1 ok1) (hk : P.cellsOf f.type = 1) (h2 : OpensFs P fs (o + 1) m en2 ok2) :
    OpensFs P (f :: fs) o (m + 1) (fun p : α × β => en1 p.1 ++ en2 p.2) (fun p => ok1 p.1 ∧ ok2 p.2) := by
  rw [Nat.add_comm m 1]; exact opensFs_cons ho hk h1 h2
theorem opens_struct {fs : Array Field} {m : Nat} {α : Type} {en : α → List PV} {ok : α → Prop} (ht : P.underlying t = some (.struct fs)) (hf : OpensFs P fs.toList 0 m en ok) (hc : P.cellsOf t = m) : Opens P t en ok := by
  intro H enc W fuel cs d pl h hw
  obtain ⟨xs, n, rfl, hx, h3, h4, h5⟩ := DataW.trod_struct ht h
  cases hx
  obtain ⟨y, k1, k2⟩ := hf H enc W n cs xs (by simpa using h4) (fun i f hf => h5 i f (by simpa using hf)) (fun z hz => hw z (by simpa only [DataW.weights, ht] using hz))
  refine ⟨y, k1, ?_⟩
  rwa [List.drop_zero, List.take_of_length_le (by omega)] at k2

/-- An argument. -/
def ArgOpens (P : Program) (t : TypeId) {α : Type} (pe : α → PV) (ok : α → Prop) : Prop :=
  ∀ (H : Type) (enc : TypeId × Value → H) (W : World) (base : Nat) (v : Value) (d : DataW H) (pl : List MemPlace), Value.okWide P W .any base t v → DataW.Trod enc P W 0 (fun _ => true) true t v d pl → (∀ n ∈ d.weights P t, n ≤ reachBytes) → ∃ y : α, ok y ∧ Rep (immW W) mu0 (pe y) v
theorem repL_one1 {Φ : Imm} {μ : Nat → Option Nat} {p : PV} {v : Value} (h : RepL Φ μ [p] [v]) : Rep Φ μ p v := h.2 0 p v rfl rfl
theorem arg_int {k : IntKind} (ht : P.underlying t = some (.int k)) : ArgOpens P t (fun z : Int => .val (.int k z)) (fun z => (Lit.int k z).wf = true) := by
  intro H enc W base v d pl hv ⟨fuel, h⟩ hw
  obtain ⟨z, rfl⟩ := okWide_int ht hv
  obtain ⟨y, k1, k2⟩ := opens_int ht H enc W fuel _ d pl h hw
  exact ⟨y, k1, repL_one1 k2⟩
theorem arg_str (ht : P.underlying t = some .string) : ArgOpens P t (fun z : ByteArray => .val (.string z)) (fun z => z.size ≤ reachBytes) := by
  intro H enc W base v d pl hv ⟨fuel, h⟩ hw
  obtain ⟨z, rfl⟩ := okWide_string ht hv
  obtain ⟨y, k1, k2⟩ := opens_str ht H enc W fuel _ d pl h hw
  exact ⟨y, k1, repL_one1 k2⟩
theorem arg_slice {α : Type} {pe : α → PV} {ok : α → Prop} (ht : P.underlying t = some (.slice e)) (h0 : Opens P t (fun x => [pe x]) ok) : ArgOpens P t pe ok := by
  intro H enc W base v d pl hv ⟨fuel, h⟩ hw
  obtain ⟨a, l, c, rfl⟩ := okWide_slice ht hv
  obtain ⟨y, k1, k2⟩ := h0 H enc W fuel _ d pl h hw
  exact ⟨y, k1, repL_one1 k2⟩
theorem arg_struct {fs : Array Field} {α : Type} {en : α → List PV} {ok : α → Prop} (ht : P.underlying t = some (.struct fs)) (h0 : Opens P t en ok) : ArgOpens P t (fun x => .agg (en x)) ok := by
  intro H enc W base v d pl hv ⟨fuel, h⟩ hw
  obtain ⟨cs, rfl, -⟩ := okWide_struct ht hv
  obtain ⟨y, k1, k2⟩ := h0 H enc W fuel _ d pl h hw
  refine ⟨y, k1, ?_⟩
  have := k2.agg
  simpa [Value.cells] using this
theorem ArgOpens.map {α β : Type} {pe : α → PV} {ok : α → Prop} (h : ArgOpens P t pe ok) (g : α → β) {pe' : β → PV} {ok' : β → Prop} (hen : ∀ a, ok a → pe' (g a) = pe a) (hok : ∀ a, ok a → ok' (g a)) : ArgOpens P t pe' ok' := by
  intro H enc W base v d pl h0 h1 h2
  obtain ⟨y, k1, k2⟩ := h H enc W base v d pl h0 h1 h2
  exact ⟨g y, hok y k1, by rw [hen y k1]; exact k2⟩

/-- All arguments. -/
def ArgsOpen (P : Program) (ts : List TypeId) {α : Type} (en : α → List PV) (ok : α → Prop) : Prop :=
  ∀ (H : Type) (enc : TypeId × Value → H) (W : World) (base : Nat) (vs : List Value) (ds : List (DataW H)) (pl : List MemPlace), (∀ (j : Nat) t v, ts[j]? = some t → vs[j]? = some v → Value.okWide P W .any base t v) → DataW.TrodAll enc P W 0 (fun _ => true) true ts vs ds pl →
    (∀ n ∈ DataW.weightsEach P ts ds, n ≤ reachBytes) → ds.length = ts.length ∧ ∃ y : α, ok y ∧ RepL (immW W) mu0 (en y) vs
theorem argsOpen_nil : ArgsOpen P [] (fun _ : Unit => []) (fun _ => True) := by
  intro H enc W base vs ds pl _ h _
  obtain ⟨rfl, rfl, rfl⟩ := trodAll_nil h
  exact ⟨rfl, (), trivial, RepL.nil⟩
theorem argsOpen_cons {ts : List TypeId} {α β : Type} {pe : α → PV} {ok1 : α → Prop} {en : β → List PV} {ok2 : β → Prop} (h1 : ArgOpens P t pe ok1) (h2 : ArgsOpen P ts en ok2) : ArgsOpen P (t :: ts) (fun p : α × β => pe p.1 :: en p.2) (fun p => ok1 p.1 ∧ ok2 p.2) := by
  intro H enc W base vs ds pl hv h hw
  match vs, ds, h with
  | v :: vs, d :: ds, h =>
    obtain ⟨p, q, g1, g2, -⟩ := h
    obtain ⟨y, k1, k2⟩ := h1 H enc W base v d p (hv 0 t v rfl rfl) g1 (fun z hz => hw z (by simp only [DataW.weightsEach, List.mem_append]; exact .inl hz))
    obtain ⟨hl, z, k3, k4⟩ := h2 H enc W base vs ds q (fun j t v e1 e2 => hv (j + 1) t v (by simpa using e1) (by simpa using e2)) g2 (fun z hz => hw z (by simp only [DataW.weightsEach, List.mem_append]; exact .inr hz))
    exact ⟨by simp [hl], (y, z), ⟨k1, k3⟩, RepL.cons k2 k4⟩
  | [], [], h => simp [DataW.TrodAll] at h
  | [], _ :: _, h => simp [DataW.TrodAll] at h
  | _ :: _, [], h => simp [DataW.TrodAll] at h
end

set_option maxRecDepth 100000 in
/-- A law's row: its contract over pure values is all that is wanted. -/
theorem law_lifted {f : FuncId} {fn : Func} {s : ChangeSpec} {conds : List PathCond} {tb : TypeId} {α : Type} {en : α → List PV} {ok : α → Prop} (os : Os) (started : os.Started) (H : Type) (enc : TypeId × Value → H) (hfn : Tryd.checked.prog.funcs[f]? = some fn) (noInit : Tryd.checked.prog.inits.idxOf? f = none)
    (witness : ∃ (w : World) (tape : Tape) (i : Input), w.os = os ∧ (w.forCall tape i).Shaped Tryd.checked.prog ∧ i.vars = [] ∧ Input.okWide Tryd.checked.prog (w.forCall tape i) .any w.heap.size f i ∧
      s.pre6 enc Tryd.checked.prog fn conds false (w.forCall tape i).memory i.args ∧ ({} : Assume).holds Tryd.checked.prog (lone (Frame.enter Tryd.checked.prog f i.args .normal) [] (w.forCall tape i)))
    (htb : Tryd.prog.underlying tb = some .bool) (hres : fn.resultTypes = #[tb]) (hvars : s.vars = []) (hread : fn.params.toList.all (fun t => Tryd.prog.readableRec t && decide (t < Tryd.prog.types.size)) = true)
    (hspec : ∀ ds : List (DataW H), ds.length = fn.params.size → (s.fn H (ds ++ [])).results = [.lit (.bool true)] ∧ (s.fn H (ds ++ [])).args = ds ∧ (s.fn H (ds ++ [])).vars = [])
    (hargs : ArgsOpen Tryd.prog fn.params.toList en ok) (hc : ∀ y, ok y → PCalls Tryd.prog f (en y) (· = pbool true)) (hgt : globTab = [] := by rfl) :
    ReturnsInHanded {} Tryd.checked os f .any (s.pre6 enc Tryd.prog fn conds false) (s.post enc Tryd.prog fn false true false false) := by
  refine returnsInHanded_of_change_sized (C := Tryd.checked) own started noInit hfn witness ?_
  intro W base args ds gs before hval0 hW _ hsz _
  have hval : ∀ (j : Nat) t v, fn.params[j]? = some t → args[j]? = some v → Value.okWide Tryd.prog W .any base t v := hval0
  have hW' := hW
  obtain ⟨p, q, hA, hV, rfl, _, _⟩ := hW
  rw [hvars] at hV
  obtain ⟨rfl, rfl⟩ := trodVars_none hV
  have hvt : s.plain.varTypes Tryd.prog = [] := by simp [ChangeSpec.plain, DataSpec.varTypes, hvars]
  rw [show s.plain.varTypes Tryd.checked.prog = [] from hvt, List.append_nil, List.append_nil, List.all_eq_true] at hsz
  obtain ⟨hl, y, hy, hr⟩ := hargs H enc W base args.toList ds p (fun j t v h1 h2 => hval j t v (by simpa using h1) (by simpa using h2)) hA (fun n hn => of_decide_eq_true (hsz n hn))
  obtain ⟨s1, s2, s3⟩ := hspec ds (by simpa using hl)
  have hcall := (hc y hy).2 (immW W) mu0 W args.toList (fun b o u h => h) (fun x hx => by rw [hgt] at hx; cases hx) hr
  rw [Array.toArray_toList] at hcall
  refine hcall.mono ?_
  rintro e W' ⟨r, v, Φ', rfl, rfl, hrep, -, -, hb, -⟩
  obtain ⟨rfl, -⟩ := hrep.val_inv
  exact ⟨_, rfl, post_law laidOut htb hres hvars hread hW' s1 s2 s3 hb⟩

set_option maxRecDepth 100000 in
/-- The same where the row lists tables. -/
theorem law_liftedL {f : FuncId} {fn : Func} {s : ChangeSpec} {conds : List PathCond} {tb : TypeId} {α : Type} {en : α → List PV} {ok : α → Prop} {laid : List (String × DataW Unit)} (os : Os) (started : os.Started) (H : Type) (enc : TypeId × Value → H) (hfn : Tryd.checked.prog.funcs[f]? = some fn) (noInit : Tryd.checked.prog.inits.idxOf? f = none)
    (witness : ∃ (w : World) (tape : Tape) (i : Input), w.os = os ∧ (w.forCall tape i).Shaped Tryd.checked.prog ∧ i.vars = [] ∧ Input.okWide Tryd.checked.prog (w.forCall tape i) .any w.heap.size f i ∧
      ((s.pre enc Tryd.checked.prog fn conds false (w.forCall tape i).memory i.args ∧ laidMetH Tryd.prog laid (w.forCall tape i).memory) ∧ sizedMet enc Tryd.checked.prog fn (OpenSpec.ofChange s) false (w.forCall tape i).memory i.args) ∧ ({} : Assume).holds Tryd.checked.prog (lone (Frame.enter Tryd.checked.prog f i.args .normal) [] (w.forCall tape i)))
    (htb : Tryd.prog.underlying tb = some .bool) (hres : fn.resultTypes = #[tb]) (hvars : s.vars = []) (hread : fn.params.toList.all (fun t => Tryd.prog.readableRec t && decide (t < Tryd.prog.types.size)) = true)
    (hspec : ∀ ds : List (DataW H), ds.length = fn.params.size → (s.fn H (ds ++ [])).results = [.lit (.bool true)] ∧ (s.fn H (ds ++ [])).args = ds ∧ (s.fn H (ds ++ [])).vars = [])
    (hargs : ArgsOpen Tryd.prog fn.params.toList en ok) (hc : ∀ y, ok y → PCalls Tryd.prog f (en y) (· = pbool true))
    (hglob : ∀ W, laidMetH Tryd.prog laid W → ∀ x ∈ globTab, ∀ j z, x.2.2[j]? = some z → W.cell? ⟨x.1, j, none⟩ = some (.int x.2.1 z)) :
    ReturnsInHanded {} Tryd.checked os f .any (fun w args => (s.pre enc Tryd.prog fn conds false w args ∧ laidMetH Tryd.prog laid w) ∧ sizedMet enc Tryd.prog fn (OpenSpec.ofChange s) false w args) (s.post enc Tryd.prog fn false true false false) := by
  refine returnsInHanded_of_change_and (C := Tryd.checked) (X := fun w _ => laidMetH Tryd.prog laid w) (fun _ _ _ hh h => h.of_heap hh) own started noInit hfn witness ?_
  intro W base args ds gs before hval0 hW _ hsz hL _
  have hval : ∀ (j : Nat) t v, fn.params[j]? = some t → args[j]? = some v → Value.okWide Tryd.prog W .any base t v := hval0
  have hW' := hW
  obtain ⟨p, q, hA, hV, rfl, _, _⟩ := hW
  rw [hvars] at hV
  obtain ⟨rfl, rfl⟩ := trodVars_none hV
  have hvt : s.plain.varTypes Tryd.prog = [] := by simp [ChangeSpec.plain, DataSpec.varTypes, hvars]
  rw [show s.plain.varTypes Tryd.checked.prog = [] from hvt, List.append_nil, List.append_nil, List.all_eq_true] at hsz
  obtain ⟨hl, y, hy, hr⟩ := hargs H enc W base args.toList ds p (fun j t v h1 h2 => hval j t v (by simpa using h1) (by simpa using h2)) hA (fun n hn => of_decide_eq_true (hsz n hn))
  obtain ⟨s1, s2, s3⟩ := hspec ds (by simpa using hl)
  have hcall := (hc y hy).2 (immW W) mu0 W args.toList (fun b o u h => h) (hglob W hL) hr
  rw [Array.toArray_toList] at hcall
  refine hcall.mono ?_
  rintro e W' ⟨r, v, Φ', rfl, rfl, hrep, -, -, hb, -⟩
  obtain ⟨rfl, -⟩ := hrep.val_inv
  exact ⟨_, rfl, post_law laidOut htb hres hvars hread hW' s1 s2 s3 hb⟩

/-- A listed table of integers: its cells. -/
theorem glob_of_reads {P : Program} {W : World} {n : String} {k : IntKind} {zs : List Int} {g : Nat} {t e : TypeId} {m : Nat} (hg : P.globalNamed n = some g) (hty : (P.globals[g]?).map (·.type) = some t) (ht : P.underlying t = some (.array m e)) (he : P.underlying e = some (.int k)) (hce : P.cellsOf e = 1) (hct : P.cellsOf t = m) (h : Lib.VarReads P W n (Lib.tabData k zs)) : ∀ j z, zs[j]? = some z → W.cell? ⟨g, j, none⟩ = some (.int k z) := by
  obtain ⟨g', t', cs, fuel, p, h1, h2, h3, h4⟩ := h
  obtain rfl := Option.some.inj (hg.symm.trans h1)
  obtain rfl := Option.some.inj (hty.symm.trans h2)
  have hc := Lib.cells_of_tab ht he hce hct h4
  intro j z hz
  have := World.var?_cell hg h3 j
  rw [this]
  have hcs : cs[j]? = cs.toList[j]? := by simp
  rw [hcs, hc]
  simp [hz]
end Go.Proofs.YtilcpcpmkklobaaDoor

/- Arguments that hold arrays. -/
namespace Go.Proofs.YtilcpcpmkklobaaDoor
set_option linter.unusedSimpArgs false
set_option linter.unusedVariables false
set_option linter.unnecessarySimpa false
open Go.ChangeShapes Go.WideShapes Go.ChangeAt Go.RowKit

section
variable {P : Program} {t e : TypeId}
theorem opens_array {n : Nat} {α : Type} {en : α → List PV} {ok : α → Prop} {k : Nat} (ht : P.underlying t = some (.array n e)) (hc : P.cellsOf e = k) (hct : P.cellsOf t = n * k) (he : Opens P e en ok) :
    Opens P t (fun xs : List α => xs.flatMap en) (fun xs => (∀ x ∈ xs, ok x) ∧ xs.length = n) := by
  intro H enc W fuel cs d pl h hw
  obtain ⟨xs, m, rfl, hx, hl, hxl, hel⟩ := DataW.trod_array ht h
  cases hx
  have key : ∀ j, j ≤ n → ∃ ys : List α, ys.length = j ∧ (∀ y ∈ ys, ok y) ∧ RepL (immW W) mu0 (ys.flatMap en) (cs.take (j * k)) := by
    intro j
    induction j with
    | zero => exact fun _ => ⟨[], rfl, by simp, by simpa using RepL.nil⟩
    | succ j ih =>
      intro hj
      obtain ⟨ys, h1, h2, h3⟩ := ih (by omega)
      have hj' := hel j (by omega)
      obtain ⟨x, hxj⟩ : ∃ x, xs[j]? = some x := ⟨_, List.getElem?_eq_getElem (by omega)⟩
      rw [hxj, hc] at hj'
      obtain ⟨y, k1, k2⟩ := he H enc W m _ x.1 x.2 hj' (fun z hz => by
        refine hw z ?_
        simp only [DataW.weights, ht]
        exact weights_mem (List.mem_map.2 ⟨x, List.mem_of_getElem? hxj, rfl⟩) z hz)
      refine ⟨ys ++ [y], by simp [h1], fun z hz => ?_, ?_⟩
      · rcases List.mem_append.1 hz with hz | hz
        · exact h2 z hz
        · simp at hz; subst hz; exact k1
      · rw [List.flatMap_append, Nat.succ_mul, List.take_add]
        refine h3.append ?_
        simpa using k2
  obtain ⟨ys, h1, h2, h3⟩ := key n (Nat.le_refl _)
  refine ⟨ys, ⟨h2, h1⟩, ?_⟩
  rwa [List.take_of_length_le (by rw [hl, hct]; exact Nat.le_refl _)] at h3
end
end Go.Proofs.YtilcpcpmkklobaaDoor

/- The arguments of the laws of the journal, opened. -/
namespace Go.Proofs.YtilcpcpmkklobaaDoor
set_option linter.unusedSimpArgs false
set_option linter.unusedVariables false
set_option linter.unnecessarySimpa false
open Go.ChangeShapes Go.WideShapes Go.ChangeAt Go.RowKit

def FitI (z : Int) : Prop := -9223372036854775808 ≤ z ∧ z ≤ 9223372036854775807
theorem wfI {z : Int} (h : (Lit.int .i64 z).wf = true) : FitI z := by
  simp [Lit.wf, IntKind.min, IntKind.max, IntKind.signed, IntKind.bits] at h
  exact ⟨by omega, by omega⟩
theorem wfB {z : Int} (h : (Lit.int .u8 z).wf = true) : 0 ≤ z ∧ z < 256 := by
  simp [Lit.wf, IntKind.min, IntKind.max, IntKind.signed, IntKind.bits] at h
  exact ⟨by omega, by omega⟩
theorem flatMap_1 {α : Type} (f : α → PV) (l : List α) : l.flatMap (fun x => [f x]) = l.map f := by
  induction l with
  | nil => rfl
  | cons x l ih => simp [ih]
theorem opensI : Opens Tryd.prog 3 (fun z => [pint z]) FitI := (opens_int Tryd.underlying3).map id (fun _ _ => rfl) (fun _ h => wfI h)
theorem opensB : Opens Tryd.prog 5 (fun z => [pbyte z]) (fun z => 0 ≤ z ∧ z < 256) := (opens_int Tryd.underlying5).map id (fun _ _ => rfl) (fun _ h => wfB h)
def toSec (l : List Int) : Sec := if h : l.length = 64 ∧ ∀ x ∈ l, 0 ≤ x ∧ x < 256 then ⟨l, h⟩ else zeroSec
theorem toSec_eq {l : List Int} (h : l.length = 64 ∧ ∀ x ∈ l, 0 ≤ x ∧ x < 256) : toSec l = ⟨l, h⟩ := dif_pos h
theorem opensSec : Opens Tryd.prog 53 secL (fun _ => True) :=
  (opens_array (n := 64) (k := 1) Tryd.underlying53 (by kernel_rfl) (by kernel_rfl) opensB).map toSec (fun a h => by
    rw [flatMap_1, toSec_eq ⟨h.2, h.1⟩]; rfl) (fun _ _ => trivial)
theorem opensPut : Opens Tryd.prog 59 putL (fun p => FitI p.sec) :=
  (opens_struct Tryd.underlying59 (opensFs_1 rfl opensI (by kernel_rfl) (opensFs_cons (k := 64) rfl (by kernel_rfl) opensSec opensFs_nil)) (by kernel_rfl)).map
    (fun p => (⟨p.1, p.2.1⟩ : PPut)) (fun p _ => by
      show pint p.1 :: secL p.2.1 = pint p.1 :: (secL p.2.1 ++ [])
      rw [List.append_nil]) (fun _ h => h.1)
theorem opensPuts : Opens Tryd.prog 36 (fun l => [pputs l]) (fun l => (∀ p ∈ l, FitI p.sec) ∧ l.length * 72 ≤ reachBytes) :=
  (opens_slice Tryd.underlying36 (by kernel_rfl) (by decide) (by kernel_rfl) opensPut (fun p _ => putL_len p)).map id (fun _ _ => rfl) (fun _ h => h)
theorem opensPutss : Opens Tryd.prog 24 (fun l => [pputss l]) (fun ls => (∀ l ∈ ls, (∀ p ∈ l, FitI p.sec) ∧ l.length * 72 ≤ reachBytes) ∧ ls.length * 24 ≤ reachBytes) :=
  (opens_slice Tryd.underlying24 (by kernel_rfl) (by decide) (by kernel_rfl) opensPuts (fun _ _ => rfl)).map id (fun a _ => by show [pputss a] = _; rw [flatMap_1]; rfl) (fun _ h => h)
theorem argPutss : ArgOpens Tryd.prog 24 pputss (fun ls => (∀ l ∈ ls, (∀ p ∈ l, FitI p.sec) ∧ l.length * 72 ≤ reachBytes) ∧ ls.length * 24 ≤ reachBytes) := arg_slice Tryd.underlying24 opensPutss
theorem argPuts : ArgOpens Tryd.prog 36 pputs (fun l => (∀ p ∈ l, FitI p.sec) ∧ l.length * 72 ≤ reachBytes) := arg_slice Tryd.underlying36 opensPuts
def pareaT (x : Int × Int × Int) : PV := .agg (parea x.1 x.2.1 x.2.2)
theorem argArea : ArgOpens Tryd.prog 23 pareaT (fun x => FitI x.1 ∧ FitI x.2.1 ∧ FitI x.2.2) :=
  (arg_struct Tryd.underlying23 (opens_struct Tryd.underlying23 (opensFs_1 rfl opensI (by kernel_rfl) (opensFs_1 rfl opensI (by kernel_rfl) (opensFs_1 rfl opensI (by kernel_rfl) opensFs_nil))) (by kernel_rfl))).map
    (fun p => (p.1, p.2.1, p.2.2.1)) (fun _ _ => rfl) (fun _ h => ⟨h.1, h.2.1, h.2.2.1⟩)
theorem opensBs : Opens Tryd.prog 37 (fun l => [pbytes l]) (fun l => (∀ z ∈ l, 0 ≤ z ∧ z < 256) ∧ l.length * 1 ≤ reachBytes) :=
  (opens_slice Tryd.underlying37 (by kernel_rfl) (by decide) (by kernel_rfl) opensB (fun _ _ => rfl)).map id (fun a _ => by show [pbytes a] = _; rw [flatMap_1]; rfl) (fun _ h => h)
theorem argBs : ArgOpens Tryd.prog 37 pbytes (fun l => (∀ z ∈ l, 0 ≤ z ∧ z < 256) ∧ l.length * 1 ≤ reachBytes) := arg_slice Tryd.underlying37 opensBs
theorem reachE : reachBytes = 140737488351232 := rfl
end Go.Proofs.YtilcpcpmkklobaaDoor

/- The arguments of the laws of the journal whose disk fails, opened. -/
namespace Go.Proofs.YtilcpcpmkklobaaDoor
set_option linter.unusedSimpArgs false
set_option linter.unusedVariables false
set_option linter.unnecessarySimpa false
open Go.ChangeShapes Go.WideShapes Go.ChangeAt Go.RowKit

theorem wfW {z : Int} (h : (Lit.int .u16 z).wf = true) : 0 ≤ z ∧ z < 65536 := by
  simp [Lit.wf, IntKind.min, IntKind.max, IntKind.signed, IntKind.bits] at h
  exact ⟨by omega, by omega⟩
def pwordA (z : Int) : PV := .val (.int .u16 z)
theorem argW : ArgOpens Tryd.prog 45 pwordA (fun z => 0 ≤ z ∧ z < 65536) := (arg_int Tryd.underlying45).map id (fun _ _ => rfl) (fun _ h => wfW h)
theorem argB8 : ArgOpens Tryd.prog 5 pbyte (fun z => 0 ≤ z ∧ z < 256) := (arg_int Tryd.underlying5).map id (fun _ _ => rfl) (fun _ h => wfB h)
theorem opensIs : Opens Tryd.prog 46 (fun l => [pints l]) (fun l => (∀ z ∈ l, FitI z) ∧ l.length * 8 ≤ reachBytes) :=
  (opens_slice Tryd.underlying46 (by kernel_rfl) (by decide) (by kernel_rfl) opensI (fun _ _ => rfl)).map id (fun a _ => by show [pints a] = _; rw [flatMap_1]; rfl) (fun _ h => h)
theorem argIs : ArgOpens Tryd.prog 46 pints (fun l => (∀ z ∈ l, FitI z) ∧ l.length * 8 ≤ reachBytes) := arg_slice Tryd.underlying46 opensIs
end Go.Proofs.YtilcpcpmkklobaaDoor
