/- Proved here: antiquarylaw22.DiskIsAsSpecified returns true for every input, and leaves its arguments as they were. No conditions. -/
import Derived.Test.YtilcpcpmkklobaaC5
/- The specification's disk: what its memory reads as; contracts of its methods for all numbers of its variables. -/
namespace Go.Proofs.Ytilcpcpmkklobaa
set_option linter.unusedSimpArgs false
set_option linter.unusedVariables false
set_option linter.unnecessarySimpa false
open Go.RowKit

structure RCell where
  s : Sec
  bad : Bool
  opn : List Sec
instance : Inhabited RCell := ⟨⟨zeroSec, false, []⟩⟩
def rcellL (c : RCell) : List PV := secL c.s ++ [pbool c.bad, if c.opn = [] then .nilsl else psecs c.opn none]
theorem rcellL_len (c : RCell) : (rcellL c).length = 66 := by simp [rcellL, secL_len]
theorem rcellL_low (c : RCell) : ∀ p ∈ rcellL c, Low p := by
  intro p hp
  rcases List.mem_append.1 hp with h | h
  · exact secL_low _ p h
  · simp only [List.mem_cons, List.not_mem_nil, or_false] at h
    rcases h with rfl | rfl
    · exact .val _
    · split
      · exact .nilsl
      · exact psecs_low _ _
structure RM where
  cells : List RCell
  steps : Int
  after : Int
  dead : Bool
def rB (c : Nat) (D : RM) : List PV := [.msl c 0 D.cells.length 66, pint D.steps, pint D.after, pbool D.dead]
def rC (D : RM) : List PV := D.cells.flatMap rcellL
def rG (d c : Nat) (D : RM) : List (Nat × List PV) := [(d, rB c D), (c, rC D)]
theorem rC_owns (D : RM) : ∀ c ∈ rC D, OwnsOK c := by
  intro c hc
  obtain ⟨x, -, hx⟩ := List.mem_flatMap.1 hc
  rcases List.mem_append.1 hx with h | h
  · obtain ⟨z, -, rfl⟩ := List.mem_map.1 h; exact owns_no rfl
  · simp only [List.mem_cons, List.not_mem_nil, or_false] at h
    rcases h with rfl | rfl
    · exact owns_no rfl
    · split
      · exact owns_no rfl
      · exact psecs_owns _ _
theorem rC_low (D : RM) : ∀ p ∈ rC D, Low p := flat_low rcellL_low _
def ids2 (d c : Nat) : List Nat := [d, c]
def disk2 (d c i : Nat) : Nat := if i = 1000001 then d else if i = 1000002 then c else i
theorem rB_lowI {S : Nat → Prop} {c : Nat} (hc : S c) (D : RM) : ∀ p ∈ rB c D, LowI S p := by
  intro p hp
  simp only [rB, List.mem_cons, List.not_mem_nil, or_false] at hp
  rcases hp with rfl | rfl | rfl | rfl
  · exact .msl _ _ _ _ hc
  · exact .val _
  · exact .val _
  · exact .val _
theorem rB_ren {S : Nat → Prop} {d c : Nat} (hc : S 1000002) (D : RM) : RenL (disk2 d c) S (rB 1000002 D) (rB c D) :=
  .cons (.msl 1000002 0 _ _ hc) (.cons (.low _ (.val _)) (.cons (.low _ (.val _)) (.cons (.low _ (.val _)) .nil)))

section
variable {f : FuncId} {fn : Func} {c : Code}
/-- The contract of a method of a specification's disk that makes no other disk. -/
def RCalls (f : FuncId) (args : List PV) (D : RM) (r : PV) (D' : RM) : Prop := ∀ d c, (ids2 d c).Nodup → HCalls Try.prog f (.ptr d 0 :: args) (rG d c D) [] r (rG d c D') []

theorem rcalls_of_pw {args : List PV} {D D' : RM} {r : PV} (hf : Try.prog.funcs[f]? = some fn) (hb : fn.body = some c) (hcb : callB Try.prog f = true) (hlow : ∀ p ∈ args, Low p) (hno : ∀ p ∈ args, p.ownB = false) (hn : args.length + 1 ≤ fn.ntmps) (hr : Low r)
    (h : PW Try.prog fn.ntmps c (RetH typeTab fn.results.toList r (rG 1000001 1000002 D') []) (initH (.ptr 1000001 0 :: args) (rG 1000001 1000002 D) [])) : RCalls f args D r D' := by
  have r3 : ∀ D, ResIds (rG 1000001 1000002 D) [] = [1000001, 1000002] := fun _ => rfl
  have h1 : HCalls Try.prog f (.ptr 1000001 0 :: args) (rG 1000001 1000002 D) [] r (rG 1000001 1000002 D') [] := by
    refine hcalls_of_pw typeTab_ok hf hb hcb (fun p hp => ?_) (by simpa using hn) (by rw [r3]; decide) (by rw [r3]; decide) ⟨fun p hp => ?_, fun x hx => ?_, by simp, hr.lowI, fun x hx => ?_, by simp, by simp [rG], by simp⟩ h
    · rcases List.mem_cons.1 hp with rfl | hp
      · rfl
      · exact hno p hp
    · rcases List.mem_cons.1 hp with rfl | hp
      · exact .ptr _ _ (by rw [r3]; decide)
      · exact (hlow p hp).lowI
    · simp only [rG, List.mem_cons, List.not_mem_nil, or_false] at hx
      rcases hx with rfl | rfl
      · exact rB_lowI (by rw [r3]; decide) D
      · exact fun p hp => (rC_low D p hp).lowI
    · simp only [rG, List.mem_cons, List.not_mem_nil, or_false] at hx
      rcases hx with rfl | rfl
      · exact rB_lowI (by rw [r3]; decide) D'
      · exact fun p hp => (rC_low D' p hp).lowI
  intro d c hnd
  have hG : ∀ D, RenB (disk2 d c) (fun i => i ∈ [1000001, 1000002]) (rG 1000001 1000002 D) (rG d c D) := fun D =>
    .cons 1000001 _ _ _ _ (rB_ren (by decide) D) (.cons 1000002 _ _ _ _ (.low (rC_low D)) .nil)
  refine h1.ren (disk2 d c) (by simp [rG]) (by simp) ?_ ?_ (hG D) .nil (.low _ hr) (hG D') .nil
  · rw [r3]
    simp only [ids2, List.nodup_cons, List.mem_cons, List.not_mem_nil, or_false, List.nodup_nil, and_true, not_false_eq_true] at hnd
    intro i hi j hj e
    simp only [List.mem_cons, List.not_mem_nil, or_false] at hi hj
    rcases hi with rfl | rfl <;> rcases hj with rfl | rfl <;> simp [disk2] at e ⊢ <;> first | exact absurd e hnd | exact absurd e.symm hnd
  · exact .cons (.ptr 1000001 0 (by rw [r3]; decide)) (.low hlow)
end
/-- A call for a sector, a step. -/
def RM.check (D : RM) (i : Int) : Int := if D.dead then 220 else if i < 0 ∨ (D.cells.length : Int) ≤ i then 1 else 0
def RM.step (D : RM) : Bool × RM := if D.after = 0 then (false, { D with dead := true }) else (true, { D with steps := D.steps + 1, after := if 0 < D.after then D.after - 1 else D.after })

set_option maxRecDepth 10000 in
set_option maxHeartbeats 1000000 in
theorem rc_Arm (D : RM) (n : Int) : RCalls 29 [pint n] D (.tup []) { D with after := maxI n (-1) } := by
  refine rcalls_of_pw Try.func29 rfl rfl (by exact lw) (by simp [pint, PV.ownB]) (Nat.le_of_ble_eq_true rfl) (by exact lw) ?_
  refine wk ?_
  exact ⟨_, rfl, Weak.refl _, ⟨⟨_, rfl, WeakL.refl _⟩, ⟨_, rfl, WeakL.refl _⟩, trivial⟩, trivial⟩

set_option maxRecDepth 10000 in
set_option maxHeartbeats 1000000 in
theorem rc_check (D : RM) (i : Int) : RCalls 35 [pint i] D (pint (D.check i)) D := by
  refine rcalls_of_pw Try.func35 rfl rfl (by exact lw) (by simp [pint, PV.ownB]) (Nat.le_of_ble_eq_true rfl) (by exact lw) ?_
  obtain ⟨cells, steps, after, dead⟩ := D
  cases dead
  · by_cases h1 : i < 0
    · have hc : RM.check ⟨cells, steps, after, false⟩ i = 1 := by simp [RM.check, h1]
      rw [hc]
      refine wk ?_
      exact RetH.mk rfl (Weak.refl _) ⟨⟨_, rfl, WeakL.refl _⟩, ⟨_, rfl, WeakL.refl _⟩, trivial⟩ trivial
    · by_cases h2 : (cells.length : Int) ≤ i
      · have hc : RM.check ⟨cells, steps, after, false⟩ i = 1 := by simp [RM.check, h2]
        rw [hc]
        refine wk ?_
        exact RetH.mk rfl (Weak.refl _) ⟨⟨_, rfl, WeakL.refl _⟩, ⟨_, rfl, WeakL.refl _⟩, trivial⟩ trivial
      · have hc : RM.check ⟨cells, steps, after, false⟩ i = 0 := by simp [RM.check, h1, h2]
        rw [hc]
        refine wk ?_
        exact RetH.mk rfl (Weak.refl _) ⟨⟨_, rfl, WeakL.refl _⟩, ⟨_, rfl, WeakL.refl _⟩, trivial⟩ trivial
  · have hc : RM.check ⟨cells, steps, after, true⟩ i = 220 := by simp [RM.check]
    rw [hc]
    refine wk ?_
    exact RetH.mk rfl (Weak.refl _) ⟨⟨_, rfl, WeakL.refl _⟩, ⟨_, rfl, WeakL.refl _⟩, trivial⟩ trivial
end Go.Proofs.Ytilcpcpmkklobaa

/- The specification's disk: step, Rot. -/
namespace Go.Proofs.Ytilcpcpmkklobaa
set_option linter.unusedSimpArgs false
set_option linter.unusedVariables false
set_option linter.unnecessarySimpa false
open Go.RowKit

set_option maxRecDepth 10000 in
set_option maxHeartbeats 1000000 in
theorem rc_step (D : RM) (h : 0 ≤ D.steps ∧ D.steps ≤ 1000000000 ∧ -1 ≤ D.after) (h2 : D.after ≤ 9223372036854775807) : RCalls 40 [] D (pbool D.step.1) D.step.2 := by
  refine rcalls_of_pw Try.func40 rfl rfl (by simp) (by simp) (Nat.le_of_ble_eq_true rfl) (.val _) ?_
  obtain ⟨cells, steps, after, dead⟩ := D
  dsimp only at h h2
  by_cases h0 : after = 0
  · subst h0
    have hr : RM.step ⟨cells, steps, 0, dead⟩ = (false, ⟨cells, steps, 0, true⟩) := rfl
    rw [hr]
    refine wk ?_
    exact RetH.mk rfl (Weak.refl _) ⟨⟨_, rfl, WeakL.refl _⟩, ⟨_, rfl, WeakL.refl _⟩, trivial⟩ trivial
  · by_cases h1 : 0 < after
    · have hr : RM.step ⟨cells, steps, after, dead⟩ = (true, ⟨cells, steps + 1, after - 1, dead⟩) := by unfold RM.step; rw [if_neg h0, if_pos h1]
      rw [hr]
      refine wk ?_
      exact RetH.mk rfl (Weak.refl _) ⟨⟨_, rfl, WeakL.refl _⟩, ⟨_, rfl, WeakL.refl _⟩, trivial⟩ trivial
    · have hr : RM.step ⟨cells, steps, after, dead⟩ = (true, ⟨cells, steps + 1, after, dead⟩) := by unfold RM.step; rw [if_neg h0, if_neg h1]
      rw [hr]
      refine wk ?_
      exact RetH.mk rfl (Weak.refl _) ⟨⟨_, rfl, WeakL.refl _⟩, ⟨_, rfl, WeakL.refl _⟩, trivial⟩ trivial

theorem splice_in {F new : List PV} {a k r : Nat} (h1 : a + k ≤ F.length) (h2 : r + new.length ≤ k) : splice F (a + r) new = splice F a (splice ((F.drop a).take k) r new) := by
  have hG : ((F.drop a).take k).length = k := by rw [List.length_take, List.length_drop]; omega
  have hs : (splice ((F.drop a).take k) r new).length = k := by
    unfold splice
    simp only [List.length_append, List.length_take, List.length_drop]; omega
  have e1 : F.take (a + r) = F.take a ++ ((F.drop a).take k).take r := by
    rw [List.take_add, List.take_take, Nat.min_eq_left (by omega)]
  have e2 : F.drop (a + r + new.length) = ((F.drop a).take k).drop (r + new.length) ++ F.drop (a + k) := by
    have : F.drop a = (F.drop a).take k ++ F.drop (a + k) := by rw [← List.drop_drop, List.take_append_drop]
    rw [show a + r + new.length = a + (r + new.length) by omega, ← List.drop_drop]
    conv => lhs; rw [this]
    rw [List.drop_append_of_le_length (by omega)]
  rw [splice, e1, e2, splice, hs]
  simp only [splice, List.append_assoc]
theorem splice_part {α : Type} {f : α → List PV} {k : Nat} (hk : ∀ x, (f x).length = k) {l : List α} {j r : Nat} {x : α} {new : List PV} (h : j < l.length) (hr : r + new.length ≤ k) (hx : ∀ y, l[j]? = some y → f x = splice (f y) r new) : splice (l.flatMap f) (j * k + r) new = (l.set j x).flatMap f := by
  have hj : l[j]? = some l[j] := by simp [h]
  rw [← splice_row (f := f) hk (x := x) h, hx _ hj, splice_in (k := k) ?_ hr, flatMap_row hk hj]
  rw [flatMap_len hk]
  have := Nat.mul_le_mul_right k (show j + 1 ≤ l.length from h)
  rw [Nat.succ_mul] at this; exact this
def RM.setc (D : RM) (i : Int) (c : RCell) : RM := { D with cells := D.cells.set i.toNat c }
def RM.cell (D : RM) (i : Int) : RCell := D.cells.getD i.toNat default
end Go.Proofs.Ytilcpcpmkklobaa

/- The specification's disk: Rot. -/
namespace Go.Proofs.Ytilcpcpmkklobaa
set_option linter.unusedSimpArgs false
set_option linter.unusedVariables false
set_option linter.unnecessarySimpa false
open Go.RowKit

theorem rcheck0 {D : RM} {i : Int} (h : D.check i = 0) : D.dead = false ∧ 0 ≤ i ∧ i < D.cells.length := by
  unfold RM.check at h
  split at h
  · cases h
  · split at h
    · cases h
    · rename_i h1 h2
      exact ⟨by simpa using h1, by omega, by omega⟩
def RM.rot (D : RM) (i : Int) : RM := if D.check i = 0 then D.setc i ⟨zeroSec, true, (D.cell i).opn⟩ else D
theorem rcell_bad (c : RCell) (b : Bool) : rcellL ⟨c.s, b, c.opn⟩ = splice (rcellL c) 64 [pbool b] := by
  unfold splice rcellL
  rw [List.take_append_of_le_length (by rw [secL_len]; exact Nat.le_refl _), List.take_of_length_le (by rw [secL_len]; exact Nat.le_refl _), List.drop_append, secL_len, List.drop_of_length_le (by rw [secL_len]; exact Nat.le_add_right _ _)]
  simp
theorem rcell_sec (c : RCell) (s : Sec) : rcellL ⟨s, c.bad, c.opn⟩ = splice (rcellL c) 0 (secL s) := by
  unfold splice rcellL
  rw [List.take_zero, List.nil_append, Nat.zero_add, secL_len, List.drop_append, secL_len, List.drop_of_length_le (by rw [secL_len]; exact Nat.le_refl _)]
  simp

set_option maxRecDepth 10000 in
set_option maxHeartbeats 1000000 in
theorem rc_Rot (D : RM) (i : Int) : RCalls 32 [pint i] D (pint (D.check i)) (D.rot i) := by
  refine rcalls_of_pw Try.func32 rfl rfl (by exact lw) (by simp [pint, PV.ownB]) (Nat.le_of_ble_eq_true rfl) (by exact lw) ?_
  have hck := rc_check D i 1000001 1000002 (by decide)
  by_cases h1 : D.check i = 0
  · obtain ⟨hd, hi0, hi1⟩ := rcheck0 h1
    have hr : D.rot i = D.setc i ⟨zeroSec, true, (D.cell i).opn⟩ := by unfold RM.rot; rw [if_pos h1]
    rw [hr]
    have hlen : (rC D).length = D.cells.length * 66 := flatMap_len rcellL_len _
    have hle := Nat.mul_le_mul_right 66 (show i.toNat + 1 ≤ D.cells.length by omega)
    have hget : ∀ y, D.cells[i.toNat]? = some y → D.cell i = y := fun y hy => by unfold RM.cell; rw [List.getD_eq_getElem?_getD, hy]; rfl
    refine wk ?_
    refine PWops.stB (new := [pbool true]) (out := rC (D.setc i ⟨(D.cell i).s, true, (D.cell i).opn⟩)) rfl rfl rfl rfl rfl rfl rfl rfl rfl ⟨rfl, ?_⟩ ?_ ?_
    · show 0 + i.toNat * 66 + 64 + 1 ≤ (rC D).length
      omega
    · show splice (D.cells.flatMap rcellL) (0 + i.toNat * 66 + 64) _ = (D.cells.set i.toNat _).flatMap rcellL
      rw [show 0 + i.toNat * 66 + 64 = i.toNat * 66 + 64 by omega]
      refine splice_part rcellL_len (by omega) (by decide) (fun y hy => ?_)
      rw [hget y hy]; exact rcell_bad y true
    refine wk ?_
    refine PWops.stB (new := secL zeroSec) (out := rC (D.setc i ⟨zeroSec, true, (D.cell i).opn⟩)) rfl rfl rfl rfl rfl rfl rfl rfl rfl ⟨rfl, ?_⟩ ?_ ?_
    · have h5 : (rC (D.setc i ⟨(D.cell i).s, true, (D.cell i).opn⟩)).length = D.cells.length * 66 := by
        unfold rC RM.setc; rw [flatMap_len rcellL_len, List.length_set]
      rw [h5, secL_len]; omega
    · show splice ((D.cells.set i.toNat ⟨(D.cell i).s, true, (D.cell i).opn⟩).flatMap rcellL) (0 + i.toNat * 66 + 0) (secL zeroSec) = (D.cells.set i.toNat ⟨zeroSec, true, (D.cell i).opn⟩).flatMap rcellL
      rw [show 0 + i.toNat * 66 + 0 = i.toNat * 66 + 0 by omega]
      rw [splice_part (x := ⟨zeroSec, true, (D.cell i).opn⟩) rcellL_len (by rw [List.length_set]; omega) (by rw [secL_len]; decide) (fun y hy => ?_), List.set_set]
      rw [List.getElem?_set_self (by omega)] at hy
      cases hy
      exact rcell_sec ⟨(D.cell i).s, true, (D.cell i).opn⟩ zeroSec
    refine wk ?_
    exact RetH.mk rfl (Weak.eq (by rw [h1]; rfl)) ⟨⟨_, rfl, WeakL.eq (by simp [rB, RM.setc])⟩, ⟨_, rfl, WeakL.refl _⟩, trivial⟩ trivial
  · have hr : D.rot i = D := by unfold RM.rot; rw [if_neg h1]
    rw [hr]
    refine wk ?_
    exact RetH.mk rfl (Weak.refl _) ⟨⟨_, rfl, WeakL.refl _⟩, ⟨_, rfl, WeakL.refl _⟩, trivial⟩ trivial
end Go.Proofs.Ytilcpcpmkklobaa

/- The specification's disk: Flip. -/
namespace Go.Proofs.Ytilcpcpmkklobaa
set_option linter.unusedSimpArgs false
set_option linter.unusedVariables false
set_option linter.unnecessarySimpa false
open Go.RowKit

def RM.flip (D : RM) (i b : Int) : Int × RM := if D.check i = 0 then (if b < 0 ∨ 512 ≤ b then (1, D) else (0, if (D.cell i).bad then D else D.setc i ⟨flipSec (D.cell i).s b, (D.cell i).bad, (D.cell i).opn⟩)) else (D.check i, D)
theorem rcellL_64 (c : RCell) : (rcellL c)[64]? = some (pbool c.bad) := by
  rw [rcellL, List.getElem?_append_right (by rw [secL_len]; exact Nat.le_refl _), secL_len]; rfl
theorem rcellL_byte (c : RCell) {q : Nat} (h : q < 64) : (rcellL c)[q]? = some (pbyte (c.s.1.getD q 0)) := by
  rw [rcellL, List.getElem?_append_left (by rw [secL_len]; exact h), secL, List.getElem?_map]
  have : q < c.s.1.length := by rw [c.s.2.1]; exact h
  simp [List.getElem?_eq_getElem this]
theorem rcellL_flip (c : RCell) (b : Int) (h : (b / 8).toNat < 64) : rcellL ⟨flipSec c.s b, c.bad, c.opn⟩ = (rcellL c).set (b / 8).toNat (pbyte (xbyte (c.s.1.getD (b / 8).toNat 0) b)) := by
  rw [rcellL, rcellL, List.set_append_left _ _ (by rw [secL_len]; exact h)]
  simp [secL, flipSec, List.map_set]

set_option maxRecDepth 10000 in
set_option maxHeartbeats 4000000 in
theorem rc_Flip (D : RM) (i b : Int) (hsz : D.cells.length ≤ 1000000000) : RCalls 31 [pint i, pint b] D (pint (D.flip i b).1) (D.flip i b).2 := by
  refine rcalls_of_pw Try.func31 rfl rfl (by exact lw) (by simp [pint, PV.ownB]) (Nat.le_of_ble_eq_true rfl) (.val _) ?_
  have hck := rc_check D i 1000001 1000002 (by decide)
  by_cases h1 : D.check i = 0
  · obtain ⟨hd, hi0, hi1⟩ := rcheck0 h1
    by_cases hb0 : b < 0
    · have hr : D.flip i b = (1, D) := by unfold RM.flip; rw [if_pos h1, if_pos (.inl hb0)]
      rw [hr]
      refine wk ?_
      exact RetH.mk rfl (Weak.refl _) ⟨⟨_, rfl, WeakL.refl _⟩, ⟨_, rfl, WeakL.refl _⟩, trivial⟩ trivial
    · by_cases hb1 : 512 ≤ b
      · have hr : D.flip i b = (1, D) := by unfold RM.flip; rw [if_pos h1, if_pos (.inr hb1)]
        rw [hr]
        refine wk ?_
        exact RetH.mk rfl (Weak.refl _) ⟨⟨_, rfl, WeakL.refl _⟩, ⟨_, rfl, WeakL.refl _⟩, trivial⟩ trivial
      · have hq64 : (b / 8).toNat < 64 := by omega
        cases hf : (D.cells.getD i.toNat default).bad with
        | true =>
          have hnb : (!(D.cells.getD i.toNat default).bad) = false := by rw [hf]; rfl
          have hr : D.flip i b = (0, D) := by unfold RM.flip; rw [if_pos h1, if_neg (by omega)]; unfold RM.cell; rw [hf]; rfl
          rw [hr]
          refine wk ?_
          refine PWops.ldBC (j := i.toNat) (k := 66) (r := 64) (c := pbool (D.cells.getD i.toNat default).bad) rfl rfl rfl rfl rfl rfl rfl rfl rcellL_len (by omega) (rcellL_64 _) rfl ?_
          refine wk ?_
          exact RetH.mk rfl (Weak.refl _) ⟨⟨_, rfl, WeakL.refl _⟩, ⟨_, rfl, WeakL.refl _⟩, trivial⟩ trivial
        | false =>
          have hnb : (!(D.cells.getD i.toNat default).bad) = true := by rw [hf]; rfl
          have hr : D.flip i b = (0, D.setc i ⟨flipSec (D.cells.getD i.toNat default).s b, (D.cells.getD i.toNat default).bad, (D.cells.getD i.toNat default).opn⟩) := by unfold RM.flip; rw [if_pos h1, if_neg (by omega)]; unfold RM.cell; rw [hf]; rfl
          rw [hr]
          refine wk ?_
          refine PWops.ldBC (j := i.toNat) (k := 66) (r := 64) (c := pbool (D.cells.getD i.toNat default).bad) rfl rfl rfl rfl rfl rfl rfl rfl rcellL_len (by omega) (rcellL_64 _) rfl ?_
          refine wg ?_
          refine PW.draw typeTab_ok (by kernel_rfl) (by kernel_rfl) (by kernel_rfl) ?_
          clear hr
          iterate 17 ((with_reducible refine PWops.idd ?_) ; first | (first | refine PWops.cvI rfl rfl rfl rfl (by (first | omega | (dsimp only ; omega))) (by (first | omega | (dsimp only ; omega))) rfl ?_ | refine PWops.stepA rfl ?_ | refine PWops.doneI rfl ?_ | refine PWops.boolK true rfl rfl rfl rfl (by (first | rfl | assumption | (simp only [decide_eq_true_eq, decide_eq_false_iff_not, bne_iff_ne, beq_iff_eq, beq_eq_false_iff_ne, bne_eq_false_iff_eq, ne_eq] ; omega))) rfl ?_ | refine PWops.boolK false rfl rfl rfl rfl (by (first | rfl | assumption | (simp only [decide_eq_true_eq, decide_eq_false_iff_not, bne_iff_ne, beq_iff_eq, beq_eq_false_iff_ne, bne_eq_false_iff_eq, ne_eq] ; omega))) rfl ?_ | refine PWops.fitsK rfl rfl rfl rfl (by (first | omega | (dsimp only ; omega))) (by (first | omega | (dsimp only ; omega))) rfl ?_ | refine PWops.remK rfl rfl rfl rfl (by (first | omega | (dsimp only ; omega))) rfl ?_ | refine PWops.quoK rfl rfl rfl rfl (by (first | omega | (dsimp only ; omega))) rfl ?_ | refine PWops.app rfl rfl rfl rfl rfl rfl rfl rfl (by (first | omega | (dsimp only ; omega))) (by (first | omega | (dsimp only ; omega))) (by first | rfl | exact secL_one _ | exact putL_one _ | exact one_pint _ | exact one_pstr _ | exact one_pbyte _ | exact one_pattrs _) ?_ | refine PWops.app0 rfl rfl rfl rfl rfl rfl rfl rfl (by (first | omega | (dsimp only ; omega))) (by (first | omega | (dsimp only ; omega))) (by first | rfl | exact secL_one _ | exact putL_one _ | exact one_pint _ | exact one_pstr _ | exact one_pbyte _ | exact one_pattrs _) ?_ | refine PWops.idx1 rfl rfl rfl rfl rfl rfl rfl rfl (by (first | omega | (dsimp only ; omega))) ?_ | refine PWops.idx rfl rfl rfl rfl rfl rfl rfl rfl (by (first | omega | (dsimp only ; omega))) ?_ | refine PWops.ld rfl rfl rfl rfl rfl rfl rfl (by assumption) rfl ?_ | refine PWops.ldA rfl rfl rfl rfl rfl rfl (by (first | omega | (dsimp only ; omega))) (by assumption) ?_ | refine PWops.str rfl rfl rfl rfl rfl rfl rfl rfl rfl rfl rfl ?_) | (first | refine PWops.arU rfl rfl rfl rfl rfl rfl ?_ | refine PWops.boxA rfl rfl rfl rfl rfl (by (first | rfl | exact secL_one _ | exact dcellL_one _ | exact putL_one _ | exact one_map (fun _ => rfl) _)) (by (first | rfl | exact secL_bare _ | exact dcellL_bare _ | exact putL_bare _ | exact bare_map (fun _ => rfl) _)) ?_ | refine PWops.litA rfl rfl rfl rfl rfl rfl rfl (by (first | rfl | exact secL_len _ | exact dcellL_len _ | exact putL_len _ | exact len_map (by assumption) | exact len_map rfl)) rfl rfl rfl (by (first | rfl | exact secL_one _ | exact dcellL_one _ | exact putL_one _ | exact one_map (fun _ => rfl) _)) (by (first | rfl | exact secL_bare _ | exact dcellL_bare _ | exact putL_bare _ | exact bare_map (fun _ => rfl) _)) ?_ | refine PWops.shlK rfl rfl rfl rfl rfl rfl (by (first | omega | (dsimp only ; omega) | decide)) ?_ | refine PWops.shrK rfl rfl rfl rfl rfl rfl (by (first | omega | (dsimp only ; omega) | decide)) ?_ | refine PWops.ldBC rfl rfl rfl rfl rfl rfl rfl rfl (by (first | exact secL_len | exact dcellL_len | exact putL_len | (intro; rfl))) (by (first | omega | (dsimp only ; omega))) (by (first | rfl | exact dcellL_64 _)) rfl ?_ | refine PWops.ldRB rfl rfl rfl rfl rfl rfl (by (first | exact secL_len | exact dcellL_len | exact putL_len | (intro; rfl))) (by (first | omega | (dsimp only ; omega))) (by (first | exact secL_bare | exact dcellL_bare | exact putL_bare | (intro; rfl))) ?_ | refine PWops.ldSec rfl rfl rfl rfl rfl rfl rfl (by first | with_reducible rfl | with_reducible exact dC_flat _) (by rfl) (by (first | omega | (dsimp only ; omega))) ?_ | refine PWops.ldBR rfl rfl rfl rfl rfl rfl rfl (by (first | exact secL_len | exact dcellL_len | exact putL_len | (intro; rfl))) (by (first | omega | (dsimp only ; omega))) (by (first | exact secL_bare _ | exact dcellL_bare _ | exact putL_bare _ | rfl)) ?_ | refine PWops.lkp rfl rfl rfl rfl rfl rfl rfl rfl rfl rfl rfl (by assumption) ?_ | refine PWops.ldAll rfl rfl rfl rfl rfl rfl rfl (by (first | rfl | exact secL_len _ | exact dcellL_len _ | exact putL_len _ | exact len_map (by assumption) | exact len_map rfl)) (by (first | rfl | exact secL_bare _ | exact dcellL_bare _ | exact putL_bare _ | exact bare_map (fun _ => rfl) _)) ?_ | refine PWops.stAll rfl rfl rfl rfl rfl rfl rfl rfl rfl (by (first | rfl | exact secL_len _ | exact dcellL_len _ | exact putL_len _ | exact len_map (by assumption) | exact len_map rfl)) (by (first | rfl | exact secL_len _ | exact dcellL_len _ | exact putL_len _ | exact len_map (by assumption) | exact len_map rfl)) (by (first | rfl | exact secL_one _ | exact dcellL_one _ | exact putL_one _ | exact one_map (fun _ => rfl) _)) (by (first | rfl | exact secL_bare _ | exact dcellL_bare _ | exact putL_bare _ | exact bare_map (fun _ => rfl) _)) ?_ | refine PWops.idxM rfl rfl rfl rfl rfl rfl rfl rfl (by (first | omega | (dsimp only ; omega))) ?_ | refine PWops.idxP1 rfl rfl rfl rfl rfl rfl rfl rfl (by (first | omega | (dsimp only ; omega))) ?_ | refine PWops.idxP rfl rfl rfl rfl rfl rfl rfl rfl (by (first | omega | (dsimp only ; omega))) ?_ | (refine PWops.call rfl rfl rfl (by assumption) ?_) | (refine PWops.callR rfl rfl (by assumption) (by (first | exact trivial | exact ⟨⟨rfl, rfl⟩, trivial⟩ | exact ⟨⟨rfl, rfl⟩, ⟨rfl, rfl⟩, trivial⟩ | exact ⟨⟨rfl, rfl⟩, ⟨rfl, rfl⟩, ⟨rfl, rfl⟩, trivial⟩ | exact ⟨⟨rfl, rfl⟩, ⟨rfl, rfl⟩, ⟨rfl, rfl⟩, ⟨rfl, rfl⟩, trivial⟩ | exact ⟨⟨rfl, rfl⟩, ⟨rfl, rfl⟩, ⟨rfl, rfl⟩, ⟨rfl, rfl⟩, ⟨rfl, rfl⟩, trivial⟩ | exact ⟨⟨rfl, rfl⟩, ⟨rfl, rfl⟩, ⟨rfl, rfl⟩, ⟨rfl, rfl⟩, ⟨rfl, rfl⟩, ⟨rfl, rfl⟩, trivial⟩ | exact ⟨⟨rfl, rfl⟩, ⟨rfl, rfl⟩, ⟨rfl, rfl⟩, ⟨rfl, rfl⟩, ⟨rfl, rfl⟩, ⟨rfl, rfl⟩, ⟨rfl, rfl⟩, trivial⟩ | exact ⟨⟨rfl, rfl⟩, ⟨rfl, rfl⟩, ⟨rfl, rfl⟩, ⟨rfl, rfl⟩, ⟨rfl, rfl⟩, ⟨rfl, rfl⟩, ⟨rfl, rfl⟩, ⟨rfl, rfl⟩, trivial⟩)) (by (first | exact trivial | exact ⟨⟨rfl, rfl⟩, trivial⟩ | exact ⟨⟨rfl, rfl⟩, ⟨rfl, rfl⟩, trivial⟩ | exact ⟨⟨rfl, rfl⟩, ⟨rfl, rfl⟩, ⟨rfl, rfl⟩, trivial⟩ | exact ⟨⟨rfl, rfl⟩, ⟨rfl, rfl⟩, ⟨rfl, rfl⟩, ⟨rfl, rfl⟩, trivial⟩ | exact ⟨⟨rfl, rfl⟩, ⟨rfl, rfl⟩, ⟨rfl, rfl⟩, ⟨rfl, rfl⟩, ⟨rfl, rfl⟩, trivial⟩ | exact ⟨⟨rfl, rfl⟩, ⟨rfl, rfl⟩, ⟨rfl, rfl⟩, ⟨rfl, rfl⟩, ⟨rfl, rfl⟩, ⟨rfl, rfl⟩, trivial⟩ | exact ⟨⟨rfl, rfl⟩, ⟨rfl, rfl⟩, ⟨rfl, rfl⟩, ⟨rfl, rfl⟩, ⟨rfl, rfl⟩, ⟨rfl, rfl⟩, ⟨rfl, rfl⟩, trivial⟩ | exact ⟨⟨rfl, rfl⟩, ⟨rfl, rfl⟩, ⟨rfl, rfl⟩, ⟨rfl, rfl⟩, ⟨rfl, rfl⟩, ⟨rfl, rfl⟩, ⟨rfl, rfl⟩, ⟨rfl, rfl⟩, trivial⟩)) rfl (by first | exact .inl rfl | exact .inr (fun _ _ => rfl)) ?_) | (refine PWops.callH rfl rfl (by assumption) (by (first | exact trivial | exact ⟨⟨rfl, rfl⟩, trivial⟩ | exact ⟨⟨rfl, rfl⟩, ⟨rfl, rfl⟩, trivial⟩ | exact ⟨⟨rfl, rfl⟩, ⟨rfl, rfl⟩, ⟨rfl, rfl⟩, trivial⟩ | exact ⟨⟨rfl, rfl⟩, ⟨rfl, rfl⟩, ⟨rfl, rfl⟩, ⟨rfl, rfl⟩, trivial⟩ | exact ⟨⟨rfl, rfl⟩, ⟨rfl, rfl⟩, ⟨rfl, rfl⟩, ⟨rfl, rfl⟩, ⟨rfl, rfl⟩, trivial⟩ | exact ⟨⟨rfl, rfl⟩, ⟨rfl, rfl⟩, ⟨rfl, rfl⟩, ⟨rfl, rfl⟩, ⟨rfl, rfl⟩, ⟨rfl, rfl⟩, trivial⟩ | exact ⟨⟨rfl, rfl⟩, ⟨rfl, rfl⟩, ⟨rfl, rfl⟩, ⟨rfl, rfl⟩, ⟨rfl, rfl⟩, ⟨rfl, rfl⟩, ⟨rfl, rfl⟩, trivial⟩ | exact ⟨⟨rfl, rfl⟩, ⟨rfl, rfl⟩, ⟨rfl, rfl⟩, ⟨rfl, rfl⟩, ⟨rfl, rfl⟩, ⟨rfl, rfl⟩, ⟨rfl, rfl⟩, ⟨rfl, rfl⟩, trivial⟩)) (by (first | exact trivial | exact ⟨⟨rfl, rfl⟩, trivial⟩ | exact ⟨⟨rfl, rfl⟩, ⟨rfl, rfl⟩, trivial⟩ | exact ⟨⟨rfl, rfl⟩, ⟨rfl, rfl⟩, ⟨rfl, rfl⟩, trivial⟩ | exact ⟨⟨rfl, rfl⟩, ⟨rfl, rfl⟩, ⟨rfl, rfl⟩, ⟨rfl, rfl⟩, trivial⟩ | exact ⟨⟨rfl, rfl⟩, ⟨rfl, rfl⟩, ⟨rfl, rfl⟩, ⟨rfl, rfl⟩, ⟨rfl, rfl⟩, trivial⟩ | exact ⟨⟨rfl, rfl⟩, ⟨rfl, rfl⟩, ⟨rfl, rfl⟩, ⟨rfl, rfl⟩, ⟨rfl, rfl⟩, ⟨rfl, rfl⟩, trivial⟩ | exact ⟨⟨rfl, rfl⟩, ⟨rfl, rfl⟩, ⟨rfl, rfl⟩, ⟨rfl, rfl⟩, ⟨rfl, rfl⟩, ⟨rfl, rfl⟩, ⟨rfl, rfl⟩, trivial⟩ | exact ⟨⟨rfl, rfl⟩, ⟨rfl, rfl⟩, ⟨rfl, rfl⟩, ⟨rfl, rfl⟩, ⟨rfl, rfl⟩, ⟨rfl, rfl⟩, ⟨rfl, rfl⟩, ⟨rfl, rfl⟩, trivial⟩)) rfl (by first | exact .inl rfl | exact .inr (fun _ _ => rfl)) ?_) | refine PWops.idxZ1 rfl rfl rfl rfl rfl rfl rfl rfl (by (first | omega | (dsimp only ; omega))) ?_ | refine PWops.idxZ rfl rfl rfl rfl rfl rfl rfl rfl (by (first | omega | (dsimp only ; omega))) ?_ | refine PWops.ld rfl rfl rfl rfl rfl rfl rfl rfl rfl ?_ | refine PWops.slcL rfl rfl rfl rfl rfl rfl rfl rfl (by (first | omega | (dsimp only ; omega))) ?_ | refine PWops.slcH rfl rfl rfl rfl rfl rfl rfl rfl (by (first | omega | (dsimp only ; omega))) ?_ | refine PWops.slcRL rfl rfl rfl rfl rfl rfl rfl rfl (by intro; rfl) (by (first | omega | (dsimp only ; omega))) ?_ | refine PWops.slcRH rfl rfl rfl rfl rfl rfl rfl rfl (by intro; rfl) (by (first | omega | (dsimp only ; omega))) ?_ | refine PWops.slcM rfl rfl rfl rfl rfl rfl rfl rfl rfl (by (first | omega | (dsimp only ; omega))) ?_ | refine PWops.ldM rfl rfl rfl rfl rfl rfl rfl (by (first | omega | (dsimp only ; omega))) rfl ?_ | refine PWops.ldR rfl rfl rfl rfl rfl rfl rfl (by (first | exact secL_len | exact dcellL_len | exact putL_len | (intro; rfl))) (by (first | omega | (dsimp only ; omega))) rfl rfl ?_ | refine PWops.ldRA rfl rfl rfl rfl rfl rfl (by intro; rfl) (by (first | omega | (dsimp only ; omega))) rfl ?_ | refine PWops.slcP rfl rfl rfl rfl rfl rfl rfl rfl rfl (by decide) ?_ | refine PWops.idxE1 rfl rfl rfl rfl rfl rfl rfl rfl (by (first | omega | (dsimp only ; omega))) ?_ | refine PWops.ldG rfl rfl rfl rfl rfl rfl (by (first | rfl | exact secL_len _ | exact dcellL_len _ | exact putL_len _ | exact len_map (by assumption) | exact len_map rfl)) (by (first | rfl | exact secL_bare _ | exact dcellL_bare _ | exact putL_bare _ | exact bare_map (fun _ => rfl) _)) ?_ | refine PWops.ldMB rfl rfl rfl rfl rfl rfl rfl rfl (by (first | omega | (dsimp only ; omega))) rfl rfl ?_ | refine PWops.stMB rfl rfl rfl rfl rfl rfl rfl rfl rfl rfl (by (first | omega | (dsimp only ; omega))) ?_ | refine PWops.idxV rfl rfl rfl rfl rfl rfl rfl rfl (by (first | omega | (dsimp only ; omega))) rfl ?_))
          refine PWops.ldBC (j := i.toNat) (k := 66) (r := (b / 8).toNat * 1) (c := pbyte ((D.cells.getD i.toNat default).s.1.getD (b / 8).toNat 0)) rfl rfl rfl rfl rfl rfl rfl rfl rcellL_len (by omega) (by rw [Nat.mul_one]; exact rcellL_byte _ hq64) rfl ?_
          iterate 7 ((with_reducible refine PWops.idd ?_) ; first | (first | refine PWops.cvI rfl rfl rfl rfl (by (first | omega | (dsimp only ; omega))) (by (first | omega | (dsimp only ; omega))) rfl ?_ | refine PWops.stepA rfl ?_ | refine PWops.doneI rfl ?_ | refine PWops.boolK true rfl rfl rfl rfl (by (first | rfl | assumption | (simp only [decide_eq_true_eq, decide_eq_false_iff_not, bne_iff_ne, beq_iff_eq, beq_eq_false_iff_ne, bne_eq_false_iff_eq, ne_eq] ; omega))) rfl ?_ | refine PWops.boolK false rfl rfl rfl rfl (by (first | rfl | assumption | (simp only [decide_eq_true_eq, decide_eq_false_iff_not, bne_iff_ne, beq_iff_eq, beq_eq_false_iff_ne, bne_eq_false_iff_eq, ne_eq] ; omega))) rfl ?_ | refine PWops.fitsK rfl rfl rfl rfl (by (first | omega | (dsimp only ; omega))) (by (first | omega | (dsimp only ; omega))) rfl ?_ | refine PWops.remK rfl rfl rfl rfl (by (first | omega | (dsimp only ; omega))) rfl ?_ | refine PWops.quoK rfl rfl rfl rfl (by (first | omega | (dsimp only ; omega))) rfl ?_ | refine PWops.app rfl rfl rfl rfl rfl rfl rfl rfl (by (first | omega | (dsimp only ; omega))) (by (first | omega | (dsimp only ; omega))) (by first | rfl | exact secL_one _ | exact putL_one _ | exact one_pint _ | exact one_pstr _ | exact one_pbyte _ | exact one_pattrs _) ?_ | refine PWops.app0 rfl rfl rfl rfl rfl rfl rfl rfl (by (first | omega | (dsimp only ; omega))) (by (first | omega | (dsimp only ; omega))) (by first | rfl | exact secL_one _ | exact putL_one _ | exact one_pint _ | exact one_pstr _ | exact one_pbyte _ | exact one_pattrs _) ?_ | refine PWops.idx1 rfl rfl rfl rfl rfl rfl rfl rfl (by (first | omega | (dsimp only ; omega))) ?_ | refine PWops.idx rfl rfl rfl rfl rfl rfl rfl rfl (by (first | omega | (dsimp only ; omega))) ?_ | refine PWops.ld rfl rfl rfl rfl rfl rfl rfl (by assumption) rfl ?_ | refine PWops.ldA rfl rfl rfl rfl rfl rfl (by (first | omega | (dsimp only ; omega))) (by assumption) ?_ | refine PWops.str rfl rfl rfl rfl rfl rfl rfl rfl rfl rfl rfl ?_) | (first | refine PWops.arU rfl rfl rfl rfl rfl rfl ?_ | refine PWops.boxA rfl rfl rfl rfl rfl (by (first | rfl | exact secL_one _ | exact dcellL_one _ | exact putL_one _ | exact one_map (fun _ => rfl) _)) (by (first | rfl | exact secL_bare _ | exact dcellL_bare _ | exact putL_bare _ | exact bare_map (fun _ => rfl) _)) ?_ | refine PWops.litA rfl rfl rfl rfl rfl rfl rfl (by (first | rfl | exact secL_len _ | exact dcellL_len _ | exact putL_len _ | exact len_map (by assumption) | exact len_map rfl)) rfl rfl rfl (by (first | rfl | exact secL_one _ | exact dcellL_one _ | exact putL_one _ | exact one_map (fun _ => rfl) _)) (by (first | rfl | exact secL_bare _ | exact dcellL_bare _ | exact putL_bare _ | exact bare_map (fun _ => rfl) _)) ?_ | refine PWops.shlK rfl rfl rfl rfl rfl rfl (by (first | omega | (dsimp only ; omega) | decide)) ?_ | refine PWops.shrK rfl rfl rfl rfl rfl rfl (by (first | omega | (dsimp only ; omega) | decide)) ?_ | refine PWops.ldBC rfl rfl rfl rfl rfl rfl rfl rfl (by (first | exact secL_len | exact dcellL_len | exact putL_len | (intro; rfl))) (by (first | omega | (dsimp only ; omega))) (by (first | rfl | exact dcellL_64 _)) rfl ?_ | refine PWops.ldRB rfl rfl rfl rfl rfl rfl (by (first | exact secL_len | exact dcellL_len | exact putL_len | (intro; rfl))) (by (first | omega | (dsimp only ; omega))) (by (first | exact secL_bare | exact dcellL_bare | exact putL_bare | (intro; rfl))) ?_ | refine PWops.ldSec rfl rfl rfl rfl rfl rfl rfl (by first | with_reducible rfl | with_reducible exact dC_flat _) (by rfl) (by (first | omega | (dsimp only ; omega))) ?_ | refine PWops.ldBR rfl rfl rfl rfl rfl rfl rfl (by (first | exact secL_len | exact dcellL_len | exact putL_len | (intro; rfl))) (by (first | omega | (dsimp only ; omega))) (by (first | exact secL_bare _ | exact dcellL_bare _ | exact putL_bare _ | rfl)) ?_ | refine PWops.lkp rfl rfl rfl rfl rfl rfl rfl rfl rfl rfl rfl (by assumption) ?_ | refine PWops.ldAll rfl rfl rfl rfl rfl rfl rfl (by (first | rfl | exact secL_len _ | exact dcellL_len _ | exact putL_len _ | exact len_map (by assumption) | exact len_map rfl)) (by (first | rfl | exact secL_bare _ | exact dcellL_bare _ | exact putL_bare _ | exact bare_map (fun _ => rfl) _)) ?_ | refine PWops.stAll rfl rfl rfl rfl rfl rfl rfl rfl rfl (by (first | rfl | exact secL_len _ | exact dcellL_len _ | exact putL_len _ | exact len_map (by assumption) | exact len_map rfl)) (by (first | rfl | exact secL_len _ | exact dcellL_len _ | exact putL_len _ | exact len_map (by assumption) | exact len_map rfl)) (by (first | rfl | exact secL_one _ | exact dcellL_one _ | exact putL_one _ | exact one_map (fun _ => rfl) _)) (by (first | rfl | exact secL_bare _ | exact dcellL_bare _ | exact putL_bare _ | exact bare_map (fun _ => rfl) _)) ?_ | refine PWops.idxM rfl rfl rfl rfl rfl rfl rfl rfl (by (first | omega | (dsimp only ; omega))) ?_ | refine PWops.idxP1 rfl rfl rfl rfl rfl rfl rfl rfl (by (first | omega | (dsimp only ; omega))) ?_ | refine PWops.idxP rfl rfl rfl rfl rfl rfl rfl rfl (by (first | omega | (dsimp only ; omega))) ?_ | (refine PWops.call rfl rfl rfl (by assumption) ?_) | (refine PWops.callR rfl rfl (by assumption) (by (first | exact trivial | exact ⟨⟨rfl, rfl⟩, trivial⟩ | exact ⟨⟨rfl, rfl⟩, ⟨rfl, rfl⟩, trivial⟩ | exact ⟨⟨rfl, rfl⟩, ⟨rfl, rfl⟩, ⟨rfl, rfl⟩, trivial⟩ | exact ⟨⟨rfl, rfl⟩, ⟨rfl, rfl⟩, ⟨rfl, rfl⟩, ⟨rfl, rfl⟩, trivial⟩ | exact ⟨⟨rfl, rfl⟩, ⟨rfl, rfl⟩, ⟨rfl, rfl⟩, ⟨rfl, rfl⟩, ⟨rfl, rfl⟩, trivial⟩ | exact ⟨⟨rfl, rfl⟩, ⟨rfl, rfl⟩, ⟨rfl, rfl⟩, ⟨rfl, rfl⟩, ⟨rfl, rfl⟩, ⟨rfl, rfl⟩, trivial⟩ | exact ⟨⟨rfl, rfl⟩, ⟨rfl, rfl⟩, ⟨rfl, rfl⟩, ⟨rfl, rfl⟩, ⟨rfl, rfl⟩, ⟨rfl, rfl⟩, ⟨rfl, rfl⟩, trivial⟩ | exact ⟨⟨rfl, rfl⟩, ⟨rfl, rfl⟩, ⟨rfl, rfl⟩, ⟨rfl, rfl⟩, ⟨rfl, rfl⟩, ⟨rfl, rfl⟩, ⟨rfl, rfl⟩, ⟨rfl, rfl⟩, trivial⟩)) (by (first | exact trivial | exact ⟨⟨rfl, rfl⟩, trivial⟩ | exact ⟨⟨rfl, rfl⟩, ⟨rfl, rfl⟩, trivial⟩ | exact ⟨⟨rfl, rfl⟩, ⟨rfl, rfl⟩, ⟨rfl, rfl⟩, trivial⟩ | exact ⟨⟨rfl, rfl⟩, ⟨rfl, rfl⟩, ⟨rfl, rfl⟩, ⟨rfl, rfl⟩, trivial⟩ | exact ⟨⟨rfl, rfl⟩, ⟨rfl, rfl⟩, ⟨rfl, rfl⟩, ⟨rfl, rfl⟩, ⟨rfl, rfl⟩, trivial⟩ | exact ⟨⟨rfl, rfl⟩, ⟨rfl, rfl⟩, ⟨rfl, rfl⟩, ⟨rfl, rfl⟩, ⟨rfl, rfl⟩, ⟨rfl, rfl⟩, trivial⟩ | exact ⟨⟨rfl, rfl⟩, ⟨rfl, rfl⟩, ⟨rfl, rfl⟩, ⟨rfl, rfl⟩, ⟨rfl, rfl⟩, ⟨rfl, rfl⟩, ⟨rfl, rfl⟩, trivial⟩ | exact ⟨⟨rfl, rfl⟩, ⟨rfl, rfl⟩, ⟨rfl, rfl⟩, ⟨rfl, rfl⟩, ⟨rfl, rfl⟩, ⟨rfl, rfl⟩, ⟨rfl, rfl⟩, ⟨rfl, rfl⟩, trivial⟩)) rfl (by first | exact .inl rfl | exact .inr (fun _ _ => rfl)) ?_) | (refine PWops.callH rfl rfl (by assumption) (by (first | exact trivial | exact ⟨⟨rfl, rfl⟩, trivial⟩ | exact ⟨⟨rfl, rfl⟩, ⟨rfl, rfl⟩, trivial⟩ | exact ⟨⟨rfl, rfl⟩, ⟨rfl, rfl⟩, ⟨rfl, rfl⟩, trivial⟩ | exact ⟨⟨rfl, rfl⟩, ⟨rfl, rfl⟩, ⟨rfl, rfl⟩, ⟨rfl, rfl⟩, trivial⟩ | exact ⟨⟨rfl, rfl⟩, ⟨rfl, rfl⟩, ⟨rfl, rfl⟩, ⟨rfl, rfl⟩, ⟨rfl, rfl⟩, trivial⟩ | exact ⟨⟨rfl, rfl⟩, ⟨rfl, rfl⟩, ⟨rfl, rfl⟩, ⟨rfl, rfl⟩, ⟨rfl, rfl⟩, ⟨rfl, rfl⟩, trivial⟩ | exact ⟨⟨rfl, rfl⟩, ⟨rfl, rfl⟩, ⟨rfl, rfl⟩, ⟨rfl, rfl⟩, ⟨rfl, rfl⟩, ⟨rfl, rfl⟩, ⟨rfl, rfl⟩, trivial⟩ | exact ⟨⟨rfl, rfl⟩, ⟨rfl, rfl⟩, ⟨rfl, rfl⟩, ⟨rfl, rfl⟩, ⟨rfl, rfl⟩, ⟨rfl, rfl⟩, ⟨rfl, rfl⟩, ⟨rfl, rfl⟩, trivial⟩)) (by (first | exact trivial | exact ⟨⟨rfl, rfl⟩, trivial⟩ | exact ⟨⟨rfl, rfl⟩, ⟨rfl, rfl⟩, trivial⟩ | exact ⟨⟨rfl, rfl⟩, ⟨rfl, rfl⟩, ⟨rfl, rfl⟩, trivial⟩ | exact ⟨⟨rfl, rfl⟩, ⟨rfl, rfl⟩, ⟨rfl, rfl⟩, ⟨rfl, rfl⟩, trivial⟩ | exact ⟨⟨rfl, rfl⟩, ⟨rfl, rfl⟩, ⟨rfl, rfl⟩, ⟨rfl, rfl⟩, ⟨rfl, rfl⟩, trivial⟩ | exact ⟨⟨rfl, rfl⟩, ⟨rfl, rfl⟩, ⟨rfl, rfl⟩, ⟨rfl, rfl⟩, ⟨rfl, rfl⟩, ⟨rfl, rfl⟩, trivial⟩ | exact ⟨⟨rfl, rfl⟩, ⟨rfl, rfl⟩, ⟨rfl, rfl⟩, ⟨rfl, rfl⟩, ⟨rfl, rfl⟩, ⟨rfl, rfl⟩, ⟨rfl, rfl⟩, trivial⟩ | exact ⟨⟨rfl, rfl⟩, ⟨rfl, rfl⟩, ⟨rfl, rfl⟩, ⟨rfl, rfl⟩, ⟨rfl, rfl⟩, ⟨rfl, rfl⟩, ⟨rfl, rfl⟩, ⟨rfl, rfl⟩, trivial⟩)) rfl (by first | exact .inl rfl | exact .inr (fun _ _ => rfl)) ?_) | refine PWops.idxZ1 rfl rfl rfl rfl rfl rfl rfl rfl (by (first | omega | (dsimp only ; omega))) ?_ | refine PWops.idxZ rfl rfl rfl rfl rfl rfl rfl rfl (by (first | omega | (dsimp only ; omega))) ?_ | refine PWops.ld rfl rfl rfl rfl rfl rfl rfl rfl rfl ?_ | refine PWops.slcL rfl rfl rfl rfl rfl rfl rfl rfl (by (first | omega | (dsimp only ; omega))) ?_ | refine PWops.slcH rfl rfl rfl rfl rfl rfl rfl rfl (by (first | omega | (dsimp only ; omega))) ?_ | refine PWops.slcRL rfl rfl rfl rfl rfl rfl rfl rfl (by intro; rfl) (by (first | omega | (dsimp only ; omega))) ?_ | refine PWops.slcRH rfl rfl rfl rfl rfl rfl rfl rfl (by intro; rfl) (by (first | omega | (dsimp only ; omega))) ?_ | refine PWops.slcM rfl rfl rfl rfl rfl rfl rfl rfl rfl (by (first | omega | (dsimp only ; omega))) ?_ | refine PWops.ldM rfl rfl rfl rfl rfl rfl rfl (by (first | omega | (dsimp only ; omega))) rfl ?_ | refine PWops.ldR rfl rfl rfl rfl rfl rfl rfl (by (first | exact secL_len | exact dcellL_len | exact putL_len | (intro; rfl))) (by (first | omega | (dsimp only ; omega))) rfl rfl ?_ | refine PWops.ldRA rfl rfl rfl rfl rfl rfl (by intro; rfl) (by (first | omega | (dsimp only ; omega))) rfl ?_ | refine PWops.slcP rfl rfl rfl rfl rfl rfl rfl rfl rfl (by decide) ?_ | refine PWops.idxE1 rfl rfl rfl rfl rfl rfl rfl rfl (by (first | omega | (dsimp only ; omega))) ?_ | refine PWops.ldG rfl rfl rfl rfl rfl rfl (by (first | rfl | exact secL_len _ | exact dcellL_len _ | exact putL_len _ | exact len_map (by assumption) | exact len_map rfl)) (by (first | rfl | exact secL_bare _ | exact dcellL_bare _ | exact putL_bare _ | exact bare_map (fun _ => rfl) _)) ?_ | refine PWops.ldMB rfl rfl rfl rfl rfl rfl rfl rfl (by (first | omega | (dsimp only ; omega))) rfl rfl ?_ | refine PWops.stMB rfl rfl rfl rfl rfl rfl rfl rfl rfl rfl (by (first | omega | (dsimp only ; omega))) ?_ | refine PWops.idxV rfl rfl rfl rfl rfl rfl rfl rfl (by (first | omega | (dsimp only ; omega))) rfl ?_))
          refine PWops.stB (new := [pbyte (xbyte ((D.cells.getD i.toNat default).s.1.getD (b / 8).toNat 0) b)]) (out := rC (D.setc i ⟨flipSec (D.cells.getD i.toNat default).s b, (D.cells.getD i.toNat default).bad, (D.cells.getD i.toNat default).opn⟩)) rfl rfl rfl rfl rfl rfl rfl rfl rfl ⟨rfl, ?_⟩ ?_ ?_
          · have hlen : (rC D).length = D.cells.length * 66 := flatMap_len rcellL_len _
            show 0 + i.toNat * 66 + 0 + (b / 8).toNat * 1 + 1 ≤ (rC D).length
            rw [hlen]
            have := Nat.mul_le_mul_right 66 (show i.toNat + 1 ≤ D.cells.length by omega)
            omega
          · show splice (D.cells.flatMap rcellL) (0 + i.toNat * 66 + 0 + (b / 8).toNat * 1) _ = (D.cells.set i.toNat _).flatMap rcellL
            rw [show 0 + i.toNat * 66 + 0 + (b / 8).toNat * 1 = i.toNat * 66 + (b / 8).toNat by omega]
            refine splice_cell rcellL_len (by omega) (by omega) ?_
            intro y hy
            have : D.cells.getD i.toNat default = y := by rw [List.getD_eq_getElem?_getD, hy]; rfl
            rw [this]
            exact rcellL_flip y b hq64
          · refine wk ?_
            exact RetH.mk rfl (Weak.refl _) ⟨⟨_, rfl, WeakL.eq (by simp [rB, RM.setc])⟩, ⟨_, rfl, WeakL.refl _⟩, trivial⟩ trivial
  · have hr : D.flip i b = (D.check i, D) := by unfold RM.flip; rw [if_neg h1]
    rw [hr]
    refine wk ?_
    exact RetH.mk rfl (Weak.refl _) ⟨⟨_, rfl, WeakL.refl _⟩, ⟨_, rfl, WeakL.refl _⟩, trivial⟩ trivial
end Go.Proofs.Ytilcpcpmkklobaa

/- The specification's disk: Read. -/
namespace Go.Proofs.Ytilcpcpmkklobaa
set_option linter.unusedSimpArgs false
set_option linter.unusedVariables false
set_option linter.unnecessarySimpa false
open Go.RowKit

theorem rcellL_eq (c : RCell) : rcellL c = secL c.s ++ [pbool c.bad, oB c.opn] := rfl
theorem rcellL_bare (c : RCell) : (rcellL c).map PV.bare = rcellL c := by
  rw [rcellL_eq, List.map_append, secL_bare, List.map_cons, List.map_cons, List.map_nil, oB_bare]; rfl
theorem rcellL_one (c : RCell) : (rcellL c).all PV.one = true := by
  rw [rcellL_eq, List.all_append, secL_one, List.all_cons, List.all_cons, List.all_nil, oB_one]; rfl
theorem rcellL_65 (c : RCell) : (rcellL c)[65]? = some (oB c.opn) := by
  rw [rcellL_eq, List.getElem?_append_right (by rw [secL_len]; decide), secL_len]; rfl
theorem rcellL_sec (c : RCell) : (((rcellL c).drop 0).take 64).map PV.bare = secL c.s := by
  rw [List.drop_zero, rcellL_eq, List.take_append_of_le_length (by rw [secL_len]; exact Nat.le_refl _), List.take_of_length_le (by rw [secL_len]; exact Nat.le_refl _), secL_bare]
def RM.read (D : RM) (i : Int) : Sec × Int := if D.check i = 0 then (if 0 < (D.cell i).opn.length then (lastS (D.cell i).opn, 0) else if (D.cell i).bad then (zeroSec, 221) else ((D.cell i).s, 0)) else (zeroSec, D.check i)
/-- A sector, or an error. -/
def gotL (s : Sec) (e : Int) : List PV := secL s ++ [pint e]
theorem gotL_len (s : Sec) (e : Int) : (gotL s e).length = 65 := by simp [gotL, secL_len]
theorem gotL_low (s : Sec) (e : Int) : ∀ c ∈ gotL s e, Low c := by
  intro c hc
  rcases List.mem_append.1 hc with h | h
  · exact secL_low _ _ h
  · simp at h; subst h; exact .val _
theorem gotL_one (s : Sec) (e : Int) : (gotL s e).all PV.one = true := by rw [gotL, List.all_append, secL_one]; rfl
theorem gotL_bare (s : Sec) (e : Int) : (gotL s e).map PV.bare = gotL s e := by rw [gotL, List.map_append, secL_bare]; rfl
theorem splice_got (s : Sec) : splice (List.replicate 64 (.val (.int .u8 0)) ++ [pint 0]) 0 (secL s) = gotL s 0 := by
  unfold splice
  rw [List.take_zero, List.nil_append, Nat.zero_add, secL_len]
  rfl

set_option maxRecDepth 10000 in
set_option maxHeartbeats 1000000 in
theorem rc_Read (D : RM) (i : Int) (hsz : D.cells.length ≤ 1000000000) (hop : ∀ c ∈ D.cells, c.opn.length ≤ 1000000000) : RCalls 12 [pint i] D (.agg (gotL (D.read i).1 (D.read i).2)) D := by
  refine rcalls_of_pw Try.func12 rfl rfl (by exact lw) (by simp [pint, PV.ownB]) (Nat.le_of_ble_eq_true rfl) (.agg _ (gotL_low _ _)) ?_
  have hck := rc_check D i 1000001 1000002 (by decide)
  by_cases h1 : D.check i = 0
  · obtain ⟨hd, hi0, hi1⟩ := rcheck0 h1
    have hci : D.cell i = D.cells.getD i.toNat default := rfl
    have hlc : (D.cells.getD i.toNat default).opn.length ≤ 1000000000 := by
      refine hop _ ?_
      have : i.toNat < D.cells.length := by omega
      rw [List.getD_eq_getElem?_getD, List.getElem?_eq_getElem this]; exact List.getElem_mem this
    have hr : D.read i = if 0 < (D.cell i).opn.length then (lastS (D.cell i).opn, 0) else if (D.cell i).bad then (zeroSec, 221) else ((D.cell i).s, 0) := by unfold RM.read; rw [if_pos h1]
    rw [hr, hci]
    clear hr hci
    refine wk ?_
    refine PWops.ldBR (f := rcellL) (l := D.cells) (j := i.toNat) rfl rfl rfl rfl rfl rfl rfl rcellL_len (by omega) (rcellL_bare _) ?_
    generalize D.cells.getD i.toNat default = c at *
    iterate 1 ((with_reducible refine PWops.idd ?_) ; first | (first | refine PWops.cvI rfl rfl rfl rfl (by (first | omega | (dsimp only ; omega))) (by (first | omega | (dsimp only ; omega))) rfl ?_ | refine PWops.stepA rfl ?_ | refine PWops.doneI rfl ?_ | refine PWops.boolK true rfl rfl rfl rfl (by (first | rfl | assumption | (simp only [decide_eq_true_eq, decide_eq_false_iff_not, bne_iff_ne, beq_iff_eq, beq_eq_false_iff_ne, bne_eq_false_iff_eq, ne_eq] ; omega))) rfl ?_ | refine PWops.boolK false rfl rfl rfl rfl (by (first | rfl | assumption | (simp only [decide_eq_true_eq, decide_eq_false_iff_not, bne_iff_ne, beq_iff_eq, beq_eq_false_iff_ne, bne_eq_false_iff_eq, ne_eq] ; omega))) rfl ?_ | refine PWops.fitsK rfl rfl rfl rfl (by (first | omega | (dsimp only ; omega))) (by (first | omega | (dsimp only ; omega))) rfl ?_ | refine PWops.remK rfl rfl rfl rfl (by (first | omega | (dsimp only ; omega))) rfl ?_ | refine PWops.quoK rfl rfl rfl rfl (by (first | omega | (dsimp only ; omega))) rfl ?_ | refine PWops.app rfl rfl rfl rfl rfl rfl rfl rfl (by (first | omega | (dsimp only ; omega))) (by (first | omega | (dsimp only ; omega))) (by first | rfl | exact secL_one _ | exact putL_one _ | exact one_pint _ | exact one_pstr _ | exact one_pbyte _ | exact one_pattrs _) ?_ | refine PWops.app0 rfl rfl rfl rfl rfl rfl rfl rfl (by (first | omega | (dsimp only ; omega))) (by (first | omega | (dsimp only ; omega))) (by first | rfl | exact secL_one _ | exact putL_one _ | exact one_pint _ | exact one_pstr _ | exact one_pbyte _ | exact one_pattrs _) ?_ | refine PWops.idx1 rfl rfl rfl rfl rfl rfl rfl rfl (by (first | omega | (dsimp only ; omega))) ?_ | refine PWops.idx rfl rfl rfl rfl rfl rfl rfl rfl (by (first | omega | (dsimp only ; omega))) ?_ | refine PWops.ld rfl rfl rfl rfl rfl rfl rfl (by assumption) rfl ?_ | refine PWops.ldA rfl rfl rfl rfl rfl rfl (by (first | omega | (dsimp only ; omega))) (by assumption) ?_ | refine PWops.str rfl rfl rfl rfl rfl rfl rfl rfl rfl rfl rfl ?_) | (first | refine PWops.arU rfl rfl rfl rfl rfl rfl ?_ | refine PWops.boxA rfl rfl rfl rfl rfl (by (first | rfl | exact secL_one _ | exact dcellL_one _ | exact putL_one _ | exact one_map (fun _ => rfl) _)) (by (first | rfl | exact secL_bare _ | exact dcellL_bare _ | exact putL_bare _ | exact bare_map (fun _ => rfl) _)) ?_ | refine PWops.litA rfl rfl rfl rfl rfl rfl rfl (by (first | rfl | exact secL_len _ | exact dcellL_len _ | exact putL_len _ | exact len_map (by assumption) | exact len_map rfl)) rfl rfl rfl (by (first | rfl | exact secL_one _ | exact dcellL_one _ | exact putL_one _ | exact one_map (fun _ => rfl) _)) (by (first | rfl | exact secL_bare _ | exact dcellL_bare _ | exact putL_bare _ | exact bare_map (fun _ => rfl) _)) ?_ | refine PWops.shlK rfl rfl rfl rfl rfl rfl (by (first | omega | (dsimp only ; omega) | decide)) ?_ | refine PWops.shrK rfl rfl rfl rfl rfl rfl (by (first | omega | (dsimp only ; omega) | decide)) ?_ | refine PWops.ldBC rfl rfl rfl rfl rfl rfl rfl rfl (by (first | exact secL_len | exact dcellL_len | exact putL_len | (intro; rfl))) (by (first | omega | (dsimp only ; omega))) (by (first | rfl | exact dcellL_64 _)) rfl ?_ | refine PWops.ldRB rfl rfl rfl rfl rfl rfl (by (first | exact secL_len | exact dcellL_len | exact putL_len | (intro; rfl))) (by (first | omega | (dsimp only ; omega))) (by (first | exact secL_bare | exact dcellL_bare | exact putL_bare | (intro; rfl))) ?_ | refine PWops.ldSec rfl rfl rfl rfl rfl rfl rfl (by first | with_reducible rfl | with_reducible exact dC_flat _) (by rfl) (by (first | omega | (dsimp only ; omega))) ?_ | refine PWops.ldBR rfl rfl rfl rfl rfl rfl rfl (by (first | exact secL_len | exact dcellL_len | exact putL_len | (intro; rfl))) (by (first | omega | (dsimp only ; omega))) (by (first | exact secL_bare _ | exact dcellL_bare _ | exact putL_bare _ | rfl)) ?_ | refine PWops.lkp rfl rfl rfl rfl rfl rfl rfl rfl rfl rfl rfl (by assumption) ?_ | refine PWops.ldAll rfl rfl rfl rfl rfl rfl rfl (by (first | rfl | exact secL_len _ | exact dcellL_len _ | exact putL_len _ | exact len_map (by assumption) | exact len_map rfl)) (by (first | rfl | exact secL_bare _ | exact dcellL_bare _ | exact putL_bare _ | exact bare_map (fun _ => rfl) _)) ?_ | refine PWops.stAll rfl rfl rfl rfl rfl rfl rfl rfl rfl (by (first | rfl | exact secL_len _ | exact dcellL_len _ | exact putL_len _ | exact len_map (by assumption) | exact len_map rfl)) (by (first | rfl | exact secL_len _ | exact dcellL_len _ | exact putL_len _ | exact len_map (by assumption) | exact len_map rfl)) (by (first | rfl | exact secL_one _ | exact dcellL_one _ | exact putL_one _ | exact one_map (fun _ => rfl) _)) (by (first | rfl | exact secL_bare _ | exact dcellL_bare _ | exact putL_bare _ | exact bare_map (fun _ => rfl) _)) ?_ | refine PWops.idxM rfl rfl rfl rfl rfl rfl rfl rfl (by (first | omega | (dsimp only ; omega))) ?_ | refine PWops.idxP1 rfl rfl rfl rfl rfl rfl rfl rfl (by (first | omega | (dsimp only ; omega))) ?_ | refine PWops.idxP rfl rfl rfl rfl rfl rfl rfl rfl (by (first | omega | (dsimp only ; omega))) ?_ | (refine PWops.call rfl rfl rfl (by assumption) ?_) | (refine PWops.callR rfl rfl (by assumption) (by (first | exact trivial | exact ⟨⟨rfl, rfl⟩, trivial⟩ | exact ⟨⟨rfl, rfl⟩, ⟨rfl, rfl⟩, trivial⟩ | exact ⟨⟨rfl, rfl⟩, ⟨rfl, rfl⟩, ⟨rfl, rfl⟩, trivial⟩ | exact ⟨⟨rfl, rfl⟩, ⟨rfl, rfl⟩, ⟨rfl, rfl⟩, ⟨rfl, rfl⟩, trivial⟩ | exact ⟨⟨rfl, rfl⟩, ⟨rfl, rfl⟩, ⟨rfl, rfl⟩, ⟨rfl, rfl⟩, ⟨rfl, rfl⟩, trivial⟩ | exact ⟨⟨rfl, rfl⟩, ⟨rfl, rfl⟩, ⟨rfl, rfl⟩, ⟨rfl, rfl⟩, ⟨rfl, rfl⟩, ⟨rfl, rfl⟩, trivial⟩ | exact ⟨⟨rfl, rfl⟩, ⟨rfl, rfl⟩, ⟨rfl, rfl⟩, ⟨rfl, rfl⟩, ⟨rfl, rfl⟩, ⟨rfl, rfl⟩, ⟨rfl, rfl⟩, trivial⟩ | exact ⟨⟨rfl, rfl⟩, ⟨rfl, rfl⟩, ⟨rfl, rfl⟩, ⟨rfl, rfl⟩, ⟨rfl, rfl⟩, ⟨rfl, rfl⟩, ⟨rfl, rfl⟩, ⟨rfl, rfl⟩, trivial⟩)) (by (first | exact trivial | exact ⟨⟨rfl, rfl⟩, trivial⟩ | exact ⟨⟨rfl, rfl⟩, ⟨rfl, rfl⟩, trivial⟩ | exact ⟨⟨rfl, rfl⟩, ⟨rfl, rfl⟩, ⟨rfl, rfl⟩, trivial⟩ | exact ⟨⟨rfl, rfl⟩, ⟨rfl, rfl⟩, ⟨rfl, rfl⟩, ⟨rfl, rfl⟩, trivial⟩ | exact ⟨⟨rfl, rfl⟩, ⟨rfl, rfl⟩, ⟨rfl, rfl⟩, ⟨rfl, rfl⟩, ⟨rfl, rfl⟩, trivial⟩ | exact ⟨⟨rfl, rfl⟩, ⟨rfl, rfl⟩, ⟨rfl, rfl⟩, ⟨rfl, rfl⟩, ⟨rfl, rfl⟩, ⟨rfl, rfl⟩, trivial⟩ | exact ⟨⟨rfl, rfl⟩, ⟨rfl, rfl⟩, ⟨rfl, rfl⟩, ⟨rfl, rfl⟩, ⟨rfl, rfl⟩, ⟨rfl, rfl⟩, ⟨rfl, rfl⟩, trivial⟩ | exact ⟨⟨rfl, rfl⟩, ⟨rfl, rfl⟩, ⟨rfl, rfl⟩, ⟨rfl, rfl⟩, ⟨rfl, rfl⟩, ⟨rfl, rfl⟩, ⟨rfl, rfl⟩, ⟨rfl, rfl⟩, trivial⟩)) rfl (by first | exact .inl rfl | exact .inr (fun _ _ => rfl)) ?_) | (refine PWops.callH rfl rfl (by assumption) (by (first | exact trivial | exact ⟨⟨rfl, rfl⟩, trivial⟩ | exact ⟨⟨rfl, rfl⟩, ⟨rfl, rfl⟩, trivial⟩ | exact ⟨⟨rfl, rfl⟩, ⟨rfl, rfl⟩, ⟨rfl, rfl⟩, trivial⟩ | exact ⟨⟨rfl, rfl⟩, ⟨rfl, rfl⟩, ⟨rfl, rfl⟩, ⟨rfl, rfl⟩, trivial⟩ | exact ⟨⟨rfl, rfl⟩, ⟨rfl, rfl⟩, ⟨rfl, rfl⟩, ⟨rfl, rfl⟩, ⟨rfl, rfl⟩, trivial⟩ | exact ⟨⟨rfl, rfl⟩, ⟨rfl, rfl⟩, ⟨rfl, rfl⟩, ⟨rfl, rfl⟩, ⟨rfl, rfl⟩, ⟨rfl, rfl⟩, trivial⟩ | exact ⟨⟨rfl, rfl⟩, ⟨rfl, rfl⟩, ⟨rfl, rfl⟩, ⟨rfl, rfl⟩, ⟨rfl, rfl⟩, ⟨rfl, rfl⟩, ⟨rfl, rfl⟩, trivial⟩ | exact ⟨⟨rfl, rfl⟩, ⟨rfl, rfl⟩, ⟨rfl, rfl⟩, ⟨rfl, rfl⟩, ⟨rfl, rfl⟩, ⟨rfl, rfl⟩, ⟨rfl, rfl⟩, ⟨rfl, rfl⟩, trivial⟩)) (by (first | exact trivial | exact ⟨⟨rfl, rfl⟩, trivial⟩ | exact ⟨⟨rfl, rfl⟩, ⟨rfl, rfl⟩, trivial⟩ | exact ⟨⟨rfl, rfl⟩, ⟨rfl, rfl⟩, ⟨rfl, rfl⟩, trivial⟩ | exact ⟨⟨rfl, rfl⟩, ⟨rfl, rfl⟩, ⟨rfl, rfl⟩, ⟨rfl, rfl⟩, trivial⟩ | exact ⟨⟨rfl, rfl⟩, ⟨rfl, rfl⟩, ⟨rfl, rfl⟩, ⟨rfl, rfl⟩, ⟨rfl, rfl⟩, trivial⟩ | exact ⟨⟨rfl, rfl⟩, ⟨rfl, rfl⟩, ⟨rfl, rfl⟩, ⟨rfl, rfl⟩, ⟨rfl, rfl⟩, ⟨rfl, rfl⟩, trivial⟩ | exact ⟨⟨rfl, rfl⟩, ⟨rfl, rfl⟩, ⟨rfl, rfl⟩, ⟨rfl, rfl⟩, ⟨rfl, rfl⟩, ⟨rfl, rfl⟩, ⟨rfl, rfl⟩, trivial⟩ | exact ⟨⟨rfl, rfl⟩, ⟨rfl, rfl⟩, ⟨rfl, rfl⟩, ⟨rfl, rfl⟩, ⟨rfl, rfl⟩, ⟨rfl, rfl⟩, ⟨rfl, rfl⟩, ⟨rfl, rfl⟩, trivial⟩)) rfl (by first | exact .inl rfl | exact .inr (fun _ _ => rfl)) ?_) | refine PWops.idxZ1 rfl rfl rfl rfl rfl rfl rfl rfl (by (first | omega | (dsimp only ; omega))) ?_ | refine PWops.idxZ rfl rfl rfl rfl rfl rfl rfl rfl (by (first | omega | (dsimp only ; omega))) ?_ | refine PWops.ld rfl rfl rfl rfl rfl rfl rfl rfl rfl ?_ | refine PWops.slcL rfl rfl rfl rfl rfl rfl rfl rfl (by (first | omega | (dsimp only ; omega))) ?_ | refine PWops.slcH rfl rfl rfl rfl rfl rfl rfl rfl (by (first | omega | (dsimp only ; omega))) ?_ | refine PWops.slcRL rfl rfl rfl rfl rfl rfl rfl rfl (by intro; rfl) (by (first | omega | (dsimp only ; omega))) ?_ | refine PWops.slcRH rfl rfl rfl rfl rfl rfl rfl rfl (by intro; rfl) (by (first | omega | (dsimp only ; omega))) ?_ | refine PWops.slcM rfl rfl rfl rfl rfl rfl rfl rfl rfl (by (first | omega | (dsimp only ; omega))) ?_ | refine PWops.ldM rfl rfl rfl rfl rfl rfl rfl (by (first | omega | (dsimp only ; omega))) rfl ?_ | refine PWops.ldR rfl rfl rfl rfl rfl rfl rfl (by (first | exact secL_len | exact dcellL_len | exact putL_len | (intro; rfl))) (by (first | omega | (dsimp only ; omega))) rfl rfl ?_ | refine PWops.ldRA rfl rfl rfl rfl rfl rfl (by intro; rfl) (by (first | omega | (dsimp only ; omega))) rfl ?_ | refine PWops.slcP rfl rfl rfl rfl rfl rfl rfl rfl rfl (by decide) ?_ | refine PWops.idxE1 rfl rfl rfl rfl rfl rfl rfl rfl (by (first | omega | (dsimp only ; omega))) ?_ | refine PWops.ldG rfl rfl rfl rfl rfl rfl (by (first | rfl | exact secL_len _ | exact dcellL_len _ | exact putL_len _ | exact len_map (by assumption) | exact len_map rfl)) (by (first | rfl | exact secL_bare _ | exact dcellL_bare _ | exact putL_bare _ | exact bare_map (fun _ => rfl) _)) ?_ | refine PWops.ldMB rfl rfl rfl rfl rfl rfl rfl rfl (by (first | omega | (dsimp only ; omega))) rfl rfl ?_ | refine PWops.stMB rfl rfl rfl rfl rfl rfl rfl rfl rfl rfl (by (first | omega | (dsimp only ; omega))) ?_ | refine PWops.idxV rfl rfl rfl rfl rfl rfl rfl rfl (by (first | omega | (dsimp only ; omega))) rfl ?_))
    refine PWops.stAll rfl rfl rfl rfl rfl rfl rfl rfl rfl (rcellL_len _) (by kernel_rfl) (rcellL_one _) (rcellL_bare _) ?_
    refine wk ?_
    refine PWops.ldB rfl rfl rfl rfl rfl rfl rfl rfl (rcellL_65 _) (oB_own _) ?_
    by_cases hn : c.opn = []
    · rw [oB_nil hn, hn]
      cases hb : c.bad with
      | true =>
        have h64 := rcellL_64 c
        rw [hb] at h64
        rw [if_neg (by decide), if_pos rfl]
        refine wk ?_
        refine PWops.ldB rfl rfl rfl rfl rfl rfl rfl rfl h64 rfl ?_
        refine wk ?_
        exact RetH.mk (presult1 (pres_cell rfl rfl rfl rfl rfl)) (Weak.refl _) ⟨⟨_, rfl, WeakL.refl _⟩, ⟨_, rfl, WeakL.refl _⟩, trivial⟩ trivial
      | false =>
        have h64 := rcellL_64 c
        rw [hb] at h64
        rw [if_neg (by decide), if_neg (by decide)]
        refine wk ?_
        refine PWops.ldB rfl rfl rfl rfl rfl rfl rfl rfl h64 rfl ?_
        refine wk ?_
        refine PWops.ldBA rfl rfl rfl rfl rfl rfl rfl (by rw [rcellL_len]; decide) (rcellL_sec c) ?_
        refine PWops.bldA (cs := secL c.s) (out := gotL c.s 0) rfl rfl rfl rfl rfl rfl rfl rfl (secL_len _) rfl (secL_one _) (secL_bare _) (splice_got _) ?_
        refine PWops.stAll rfl rfl rfl rfl rfl rfl rfl rfl rfl (gotL_len _ _) (by kernel_rfl) (gotL_one _ _) (gotL_bare _ _) ?_
        refine wk ?_
        exact RetH.mk (presult1 (pres_cell rfl rfl rfl (gotL_len _ _) (gotL_bare _ _))) (Weak.refl _) ⟨⟨_, rfl, WeakL.refl _⟩, ⟨_, rfl, WeakL.refl _⟩, trivial⟩ trivial
    · rw [oB_ne hn, if_pos (List.length_pos_iff.2 hn)]
      have hp := List.length_pos_iff.2 hn
      have hg : lastS c.opn = c.opn.getD ((c.opn.length : Int) - 1).toNat default := rfl
      rw [hg]
      clear hg
      refine wk ?_
      refine PWops.ldB rfl rfl rfl rfl rfl rfl rfl rfl (rcellL_65 _) (oB_own _) ?_
      rw [oB_ne hn]
      refine wk ?_
      refine PWops.ldB rfl rfl rfl rfl rfl rfl rfl rfl (rcellL_65 _) (oB_own _) ?_
      rw [oB_ne hn]
      refine wk ?_
      generalize c.opn.getD ((c.opn.length : Int) - 1).toNat default = v at *
      refine PWops.bldA (cs := secL v) (out := gotL v 0) rfl rfl rfl rfl rfl rfl rfl rfl (secL_len _) rfl (secL_one _) (secL_bare _) (splice_got _) ?_
      refine PWops.stAll rfl rfl rfl rfl rfl rfl rfl rfl rfl (gotL_len _ _) (by kernel_rfl) (gotL_one _ _) (gotL_bare _ _) ?_
      refine wk ?_
      exact RetH.mk (presult1 (pres_cell rfl rfl rfl (gotL_len _ _) (gotL_bare _ _))) (Weak.refl _) ⟨⟨_, rfl, WeakL.refl _⟩, ⟨_, rfl, WeakL.refl _⟩, trivial⟩ trivial
  · have hr : D.read i = (zeroSec, D.check i) := by unfold RM.read; rw [if_neg h1]
    rw [hr]
    refine wk ?_
    exact RetH.mk (presult1 (pres_cell rfl rfl rfl rfl rfl)) (Weak.refl _) ⟨⟨_, rfl, WeakL.refl _⟩, ⟨_, rfl, WeakL.refl _⟩, trivial⟩ trivial
end Go.Proofs.Ytilcpcpmkklobaa

/- The specification's disk: kept. -/
namespace Go.Proofs.Ytilcpcpmkklobaa
set_option linter.unusedSimpArgs false
set_option linter.unusedVariables false
set_option linter.unnecessarySimpa false
open Go.RowKit

def kept (c : RCell) (x : Int) : DCell :=
  if foundR c.opn x = 0 then ⟨c.s, c.bad⟩
  else if foundR c.opn x ≤ c.opn.length then ⟨c.opn.getD (foundR c.opn x - 1).toNat default, false⟩
  else if foundR c.opn x = c.opn.length + 1 then ⟨zeroSec, true⟩
  else ⟨mixS (lastS c.opn) (if 1 < c.opn.length then c.opn.getD (c.opn.length - 2) default else if c.bad then zeroSec else c.s), false⟩
def zero66 : List PV := List.replicate 64 (.val (.int .u8 0)) ++ [pbool false, .nilsl]
theorem splF_rc (s : Sec) : splF zero66 0 (secL s) = secL s ++ [pbool false, .nilsl] := by
  rw [splF_eq _ _ _ (by rw [secL_len]; decide)]
  unfold splice
  rw [List.take_zero, List.nil_append, Nat.zero_add, secL_len]; rfl
theorem splF_rb (s : Sec) (b : Bool) : splF (secL s ++ [pbool false, .nilsl]) 64 [pbool b] = secL s ++ [pbool b, .nilsl] := by
  rw [splF_eq _ _ _ (by simp [secL_len])]
  unfold splice
  rw [List.take_append_of_le_length (by rw [secL_len]; decide), List.take_of_length_le (by rw [secL_len]; decide), List.drop_append, secL_len, List.drop_of_length_le (by simp [secL_len])]
  simp
theorem fill_rc (s : Sec) (b : Bool) : pfill (fun i => (([(0, 64, true), (64, 1, false), (65, 1, false)] : List (Nat × Nat × Bool))[i]?).map fun x => (x.1, x.2.1)) zero66 [(0, .agg (secL s)), (1, pbool b)] = some (secL s ++ [pbool b, .nilsl]) := by
  unfold pfill
  rw [pcells_sec]
  show (if (secL s).length = 64 ∧ 0 + 64 ≤ zero66.length then _ else none) = _
  rw [if_pos ⟨secL_len s, by decide⟩, splF_rc]
  show (if [pbool b].length = 1 ∧ 64 + 1 ≤ (secL s ++ [pbool false, .nilsl]).length then some (splF (secL s ++ [pbool false, .nilsl]) 64 [pbool b]) else none) = _
  rw [if_pos ⟨rfl, by rw [List.length_append, secL_len]; decide⟩, splF_rb]
theorem splice_rc (s : Sec) : splice zero66 0 (secL s) = rcellL ⟨s, false, []⟩ := by
  rw [← splF_eq _ _ _ (by rw [secL_len]; decide), splF_rc]; rfl
/-- A sector, whose second half comes from another one, as far as it has come. -/
def mixN (a b : Sec) (i : Nat) : List Int := a.1.take 32 ++ (b.1.drop 32).take (i - 32) ++ a.1.drop i
theorem mixN_0 (a b : Sec) : (mixN a b 32).map pbyte = secL a := by
  have e : mixN a b 32 = a.1 := by
    show a.1.take 32 ++ (b.1.drop 32).take 0 ++ a.1.drop 32 = a.1
    rw [List.take_zero, List.append_nil, List.take_append_drop]
  rw [e]; rfl
theorem mixN_64 (a b : Sec) : (mixN a b 64).map pbyte = secL (mixS a b) := by
  have e : mixN a b 64 = (mixS a b).1 := by
    show a.1.take 32 ++ (b.1.drop 32).take 32 ++ a.1.drop 64 = a.1.take 32 ++ b.1.drop 32
    have ha : a.1.length = 64 := a.2.1
    have hb : b.1.length = 64 := b.2.1
    have e1 : a.1.drop 64 = [] := List.drop_of_length_le (by omega)
    have e2 : (b.1.drop 32).take 32 = b.1.drop 32 := List.take_of_length_le (by rw [List.length_drop]; omega)
    rw [e1, e2, List.append_nil]
  rw [e]; rfl
theorem mixN_len (a b : Sec) {i : Nat} (h0 : 32 ≤ i) (h : i ≤ 64) : (mixN a b i).length = 64 := by
  have ha : a.1.length = 64 := a.2.1
  have hb : b.1.length = 64 := b.2.1
  unfold mixN
  simp only [List.length_append, List.length_take, List.length_drop, ha, hb]
  omega
theorem mixN_set (a b : Sec) {i : Nat} (h0 : 32 ≤ i) (h : i < 64) : (mixN a b i).set i (b.1.getD i 0) = mixN a b (i + 1) := by
  have ha' : a.1.length = 64 := a.2.1
  have hb' : b.1.length = 64 := b.2.1
  have l1 : (a.1.take 32 ++ (b.1.drop 32).take (i - 32)).length = i := by
    simp only [List.length_append, List.length_take, List.length_drop, ha', hb']; omega
  have hb : i < b.1.length := by omega
  have ha : i < a.1.length := by omega
  have e1 : a.1.drop i = a.1[i] :: a.1.drop (i + 1) := List.drop_eq_getElem_cons ha
  have e2 : (b.1.drop 32).take (i + 1 - 32) = (b.1.drop 32).take (i - 32) ++ [b.1.getD i 0] := by
    rw [show i + 1 - 32 = (i - 32) + 1 by omega, List.take_add_one, List.getElem?_drop, show 32 + (i - 32) = i by omega, List.getD_eq_getElem?_getD, List.getElem?_eq_getElem hb]; rfl
  unfold mixN
  rw [e2, e1, List.set_append_right _ _ (by omega), l1, Nat.sub_self, List.set_cons_zero]
  simp
section
variable {P : Program} {T : Tab} {σ : PS} {o : Oper} {i base : Nat} {ops : Array Oper} {ok : Nat → Nat → Bool} {rest : List (Nat × Oper)} {K : PS → Prop}
/-- A struct of which two fields are given. -/
theorem PWops.bld2r {d f g : Nat} {out : List PV} {px py : PV} {x y : Operand} {t : TypeId} {ti : TyI} {l : List (Nat × Nat × Bool)} (hg : pguard ops σ o = some true) (hd : o.dst = some d) (hop : o.op = .build t #[(f, x), (g, y)]) (hx : pev σ x = px) (hy : pev σ y = py) (ht : T.at t = some ti) (hk : ti.kind = .struct l) (hb : σ.freeB (base + i) = true) (hf : pfill (fun i => (l[i]?).map fun x => (x.1, x.2.1)) ti.zero [(f, px), (g, py)] = some out)
    (kn : PWops P T ops base ok rest K (σ.put d (.agg out))) : PWops P T ops base ok ((i, o) :: rest) K σ := by
  refine PWops.valEq hg hd (p := .agg out) ?_ rfl hb kn
  simp only [hop, presE, pvalA, pval, ht, pbuild, hk, List.map_cons, List.map_nil, pev_only, hx, hy, hf, Option.map_some]
end
def toR (c : DCell) : RCell := ⟨c.s, c.bad, []⟩
set_option maxRecDepth 10000 in
set_option maxHeartbeats 1000000 in
theorem pw_kept (c : RCell) (x : Int) (hl : 0 < c.opn.length ∧ c.opn.length ≤ 1000000000) (hx : -9223372036854775808 ≤ x ∧ x ≤ 9223372036854775807) : PCalls Try.prog 41 [.agg (rcellL c), pint x] (· = .agg (rcellL (toR (kept c x)))) := by
  refine pcalls_of_pw typeTab_ok Try.func41 rfl (by kernel_rfl) (by intro p hp; simp at hp; rcases hp with rfl | rfl; exact .agg _ (rcellL_low _); exact .val _) (by simp [pint, PV.ownB]) (Nat.le_of_ble_eq_true rfl) ?_
  refine PW.seq ?_
  refine PW.region typeTab_ok (by kernel_rfl) ?_
  refine PWops.boxA rfl rfl rfl rfl rfl (rcellL_one _) (rcellL_bare _) ?_
  have hrr := fun l : List Sec => l
  refine wk ?_
  refine PWops.ldB rfl rfl rfl rfl rfl rfl rfl rfl (rcellL_65 _) (oB_own _) ?_
  have hne : c.opn ≠ [] := List.length_pos_iff.1 hl.1
  rw [oB_ne hne]
  refine wk ?_
  generalize hl' : c.opn = l at *
  obtain ⟨k1, k2, k3⟩ := tmod_lo x (l.length + 3) (by omega)
  generalize hr0 : x.tmod (l.length + 3) = r0 at k1 k2 k3
  refine PWops.remY (z := r0) rfl rfl rfl rfl rfl rfl (by show ((l.length : Int) + 3) ≠ 0; omega) hr0 ?_
  refine wk ?_
  have hfr : foundR l x = x % (l.length + 3) := rfl
  have hf : (r0 + l.length + 3) % ((l.length : Int) + 3) = foundR l x := by
    rw [hfr, ← k3, Int.tmod_eq_emod_of_nonneg (by omega)]; congr 1; omega
  rw [hf]
  have hf0 : 0 ≤ foundR l x ∧ foundR l x < l.length + 3 := by rw [hfr]; exact ⟨Int.emod_nonneg _ (by omega), Int.emod_lt_of_pos _ (by omega)⟩
  have hlow : ∀ d : DCell, Low (.agg (rcellL (toR d))) := fun d => .agg _ (rcellL_low _)
  unfold kept
  rw [hl']
  generalize foundR l x = r at hf0 ⊢
  clear hfr hf hr0 k3
  have stp : ∀ s : Sec, rcellL (toR ⟨s, false⟩) = rcellL ⟨s, false, []⟩ := fun _ => rfl
  by_cases c0 : r = 0
  · rw [if_pos c0]
    refine wk ?_
    refine PWops.ldBA rfl rfl rfl rfl rfl rfl rfl (by rw [rcellL_len]; decide) (rcellL_sec c) ?_
    refine wk ?_
    refine PWops.ldB rfl rfl rfl rfl rfl rfl rfl rfl (rcellL_64 _) rfl ?_
    refine PWops.bld2r rfl rfl rfl rfl rfl rfl rfl rfl (fill_rc c.s c.bad) ?_
    refine PWops.stAll rfl rfl rfl rfl rfl rfl rfl rfl rfl (rcellL_len (toR ⟨c.s, c.bad⟩)) (by kernel_rfl) (rcellL_one (toR ⟨c.s, c.bad⟩)) (rcellL_bare (toR ⟨c.s, c.bad⟩)) ?_
    refine wk ?_
    exact retP2 (presult1 (pres_cell (cs := rcellL (toR ⟨c.s, c.bad⟩)) rfl rfl rfl (rcellL_len _) (rcellL_bare _))) (hlow _) rfl
  · rw [if_neg c0]
    by_cases c1 : r ≤ l.length
    · rw [if_pos c1]
      refine wk ?_
      refine PWops.ldB rfl rfl rfl rfl rfl rfl rfl rfl (rcellL_65 _) (oB_own _) ?_
      rw [hl', oB_ne hne]
      refine wk ?_
      generalize l.getD (r - 1).toNat default = v at *
      refine PWops.bldA (cs := secL v) (out := rcellL (toR ⟨v, false⟩)) rfl rfl rfl rfl rfl rfl rfl rfl (secL_len _) rfl (secL_one _) (secL_bare _) (splice_rc v) ?_
      refine PWops.stAll rfl rfl rfl rfl rfl rfl rfl rfl rfl (rcellL_len _) (by kernel_rfl) (rcellL_one _) (rcellL_bare _) ?_
      refine wk ?_
      exact retP2 (presult1 (pres_cell rfl rfl rfl (rcellL_len _) (rcellL_bare _))) (hlow _) rfl
    · rw [if_neg c1]
      by_cases c2 : r = l.length + 1
      · rw [if_pos c2]
        refine wk ?_
        exact retP2 (presult1 (pres_cell (cs := rcellL (toR ⟨zeroSec, true⟩)) rfl rfl rfl (rcellL_len _) (rcellL_bare _))) (hlow _) rfl
      · rw [if_neg c2]
        have h64 := rcellL_64 c
        have hlast : lastS l = l.getD ((l.length : Int) - 1).toNat default := rfl
        rw [hlast]
        clear hlast
        by_cases h1 : 1 < l.length
        · have h2 : l.length - 2 = ((l.length : Int) - 2).toNat := by omega
          rw [if_pos h1, h2]
          cases hb : c.bad with
          | true =>
            rw [hb] at h64
            refine wk ?_
            refine PWops.ldB rfl rfl rfl rfl rfl rfl rfl rfl h64 rfl ?_
            refine wk ?_
            refine PWops.ldB rfl rfl rfl rfl rfl rfl rfl rfl (rcellL_65 _) (oB_own _) ?_
            rw [hl', oB_ne hne]
            refine wk ?_
            generalize l.getD ((l.length : Int) - 2).toNat default = old at *
            refine PWops.ldB rfl rfl rfl rfl rfl rfl rfl rfl (rcellL_65 _) (oB_own _) ?_
            rw [hl', oB_ne hne]
            refine wk ?_
            generalize l.getD ((l.length : Int) - 1).toNat default = last at *
            refine PW.loop (fun i : Nat => (((((((bot.setb 1 zero66).setb 9000 (secL old)).setb 14006 ((mixN last old i).map pbyte)).put 4 (.ptr 1 0)).put 7 (.ptr 9000 0)).put 8 (.ptr 14006 0)).put 9 (pint i))) (fun i => 32 ≤ i ∧ i ≤ 64) (fun i => 64 - i) 32 ⟨by decide, by decide⟩ ?_ ?_
            · have b1 := secL_low old
              have b2 := secL_low last
              try dsimp only
              rw [mixN_0]
              exact sb
            · intro i ⟨hi0, hi⟩
              have b1 := secL_low old
              have hm := mixN_len last old hi0 hi
              by_cases hlt : i < 64
              · have hs := mixN_set last old hi0 hlt
                have hol : old.1.length = 64 := old.2.1
                refine wk ?_
                refine loopP (i + 1) ⟨by omega, by omega⟩ (by omega) ?_
                try dsimp only
                rw [← hs, Int.toNat_natCast]
                exact sb
              · obtain rfl : i = 64 := by omega
                rw [mixN_64]
                have b3 := secL_low (mixS last old)
                generalize mixS last old = mx at *
                clear hm
                refine wk ?_
                refine PWops.bldA (cs := secL mx) (out := rcellL (toR ⟨mx, false⟩)) rfl rfl rfl rfl rfl rfl rfl rfl (secL_len _) rfl (secL_one _) (secL_bare _) (splice_rc mx) ?_
                refine PWops.stAll rfl rfl rfl rfl rfl rfl rfl rfl rfl (rcellL_len _) (by kernel_rfl) (rcellL_one _) (rcellL_bare _) ?_
                refine wk ?_
                exact retP2 (presult1 (pres_cell rfl rfl rfl (rcellL_len _) (rcellL_bare _))) (hlow _) rfl
          | false =>
            rw [hb] at h64
            refine wk ?_
            refine PWops.ldB rfl rfl rfl rfl rfl rfl rfl rfl h64 rfl ?_
            refine wk ?_
            refine PWops.ldBA rfl rfl rfl rfl rfl rfl rfl (by rw [rcellL_len]; decide) (rcellL_sec c) ?_
            refine wk ?_
            refine PWops.ldB rfl rfl rfl rfl rfl rfl rfl rfl (rcellL_65 _) (oB_own _) ?_
            rw [hl', oB_ne hne]
            refine wk ?_
            generalize l.getD ((l.length : Int) - 2).toNat default = old at *
            refine PWops.ldB rfl rfl rfl rfl rfl rfl rfl rfl (rcellL_65 _) (oB_own _) ?_
            rw [hl', oB_ne hne]
            refine wk ?_
            generalize l.getD ((l.length : Int) - 1).toNat default = last at *
            refine PW.loop (fun i : Nat => (((((((bot.setb 1 zero66).setb 9000 (secL old)).setb 14006 ((mixN last old i).map pbyte)).put 4 (.ptr 1 0)).put 7 (.ptr 9000 0)).put 8 (.ptr 14006 0)).put 9 (pint i))) (fun i => 32 ≤ i ∧ i ≤ 64) (fun i => 64 - i) 32 ⟨by decide, by decide⟩ ?_ ?_
            · have b1 := secL_low old
              have b2 := secL_low last
              try dsimp only
              rw [mixN_0]
              exact sb
            · intro i ⟨hi0, hi⟩
              have b1 := secL_low old
              have hm := mixN_len last old hi0 hi
              by_cases hlt : i < 64
              · have hs := mixN_set last old hi0 hlt
                have hol : old.1.length = 64 := old.2.1
                refine wk ?_
                refine loopP (i + 1) ⟨by omega, by omega⟩ (by omega) ?_
                try dsimp only
                rw [← hs, Int.toNat_natCast]
                exact sb
              · obtain rfl : i = 64 := by omega
                rw [mixN_64]
                have b3 := secL_low (mixS last old)
                generalize mixS last old = mx at *
                clear hm
                refine wk ?_
                refine PWops.bldA (cs := secL mx) (out := rcellL (toR ⟨mx, false⟩)) rfl rfl rfl rfl rfl rfl rfl rfl (secL_len _) rfl (secL_one _) (secL_bare _) (splice_rc mx) ?_
                refine PWops.stAll rfl rfl rfl rfl rfl rfl rfl rfl rfl (rcellL_len _) (by kernel_rfl) (rcellL_one _) (rcellL_bare _) ?_
                refine wk ?_
                exact retP2 (presult1 (pres_cell rfl rfl rfl (rcellL_len _) (rcellL_bare _))) (hlow _) rfl
        · rw [if_neg h1]
          cases hb : c.bad with
          | true =>
            rw [hb] at h64
            rw [if_pos rfl]
            refine wk ?_
            refine PWops.ldB rfl rfl rfl rfl rfl rfl rfl rfl h64 rfl ?_
            refine wk ?_
            refine PWops.ldB rfl rfl rfl rfl rfl rfl rfl rfl (rcellL_65 _) (oB_own _) ?_
            rw [hl', oB_ne hne]
            refine wk ?_
            generalize l.getD ((l.length : Int) - 1).toNat default = last at *
            refine PW.loop (fun i : Nat => (((((((bot.setb 1 zero66).setb 9000 (secL zeroSec)).setb 14006 ((mixN last zeroSec i).map pbyte)).put 4 (.ptr 1 0)).put 7 (.ptr 9000 0)).put 8 (.ptr 14006 0)).put 9 (pint i))) (fun i => 32 ≤ i ∧ i ≤ 64) (fun i => 64 - i) 32 ⟨by decide, by decide⟩ ?_ ?_
            · have b1 := secL_low zeroSec
              have b2 := secL_low last
              try dsimp only
              rw [mixN_0]
              exact sb
            · intro i ⟨hi0, hi⟩
              have b1 := secL_low zeroSec
              have hm := mixN_len last zeroSec hi0 hi
              by_cases hlt : i < 64
              · have hs := mixN_set last zeroSec hi0 hlt
                have hol : zeroSec.1.length = 64 := zeroSec.2.1
                refine wk ?_
                refine loopP (i + 1) ⟨by omega, by omega⟩ (by omega) ?_
                try dsimp only
                rw [← hs, Int.toNat_natCast]
                exact sb
              · obtain rfl : i = 64 := by omega
                rw [mixN_64]
                have b3 := secL_low (mixS last zeroSec)
                generalize mixS last zeroSec = mx at *
                clear hm
                refine wk ?_
                refine PWops.bldA (cs := secL mx) (out := rcellL (toR ⟨mx, false⟩)) rfl rfl rfl rfl rfl rfl rfl rfl (secL_len _) rfl (secL_one _) (secL_bare _) (splice_rc mx) ?_
                refine PWops.stAll rfl rfl rfl rfl rfl rfl rfl rfl rfl (rcellL_len _) (by kernel_rfl) (rcellL_one _) (rcellL_bare _) ?_
                refine wk ?_
                exact retP2 (presult1 (pres_cell rfl rfl rfl (rcellL_len _) (rcellL_bare _))) (hlow _) rfl
          | false =>
            rw [hb] at h64
            rw [if_neg (by decide)]
            refine wk ?_
            refine PWops.ldB rfl rfl rfl rfl rfl rfl rfl rfl h64 rfl ?_
            refine wk ?_
            refine PWops.ldBA rfl rfl rfl rfl rfl rfl rfl (by rw [rcellL_len]; decide) (rcellL_sec c) ?_
            refine wk ?_
            generalize c.s = old at *
            refine PWops.ldB rfl rfl rfl rfl rfl rfl rfl rfl (rcellL_65 _) (oB_own _) ?_
            rw [hl', oB_ne hne]
            refine wk ?_
            generalize l.getD ((l.length : Int) - 1).toNat default = last at *
            refine PW.loop (fun i : Nat => (((((((bot.setb 1 zero66).setb 9000 (secL old)).setb 14006 ((mixN last old i).map pbyte)).put 4 (.ptr 1 0)).put 7 (.ptr 9000 0)).put 8 (.ptr 14006 0)).put 9 (pint i))) (fun i => 32 ≤ i ∧ i ≤ 64) (fun i => 64 - i) 32 ⟨by decide, by decide⟩ ?_ ?_
            · have b1 := secL_low old
              have b2 := secL_low last
              try dsimp only
              rw [mixN_0]
              exact sb
            · intro i ⟨hi0, hi⟩
              have b1 := secL_low old
              have hm := mixN_len last old hi0 hi
              by_cases hlt : i < 64
              · have hs := mixN_set last old hi0 hlt
                have hol : old.1.length = 64 := old.2.1
                refine wk ?_
                refine loopP (i + 1) ⟨by omega, by omega⟩ (by omega) ?_
                try dsimp only
                rw [← hs, Int.toNat_natCast]
                exact sb
              · obtain rfl : i = 64 := by omega
                rw [mixN_64]
                have b3 := secL_low (mixS last old)
                generalize mixS last old = mx at *
                clear hm
                refine wk ?_
                refine PWops.bldA (cs := secL mx) (out := rcellL (toR ⟨mx, false⟩)) rfl rfl rfl rfl rfl rfl rfl rfl (secL_len _) rfl (secL_one _) (secL_bare _) (splice_rc mx) ?_
                refine PWops.stAll rfl rfl rfl rfl rfl rfl rfl rfl rfl (rcellL_len _) (by kernel_rfl) (rcellL_one _) (rcellL_bare _) ?_
                refine wk ?_
                exact retP2 (presult1 (pres_cell rfl rfl rfl (rcellL_len _) (rcellL_bare _))) (hlow _) rfl
end Go.Proofs.Ytilcpcpmkklobaa

/- The specification's disk: New, Write. -/
namespace Go.Proofs.Ytilcpcpmkklobaa
set_option linter.unusedSimpArgs false
set_option linter.unusedVariables false
set_option linter.unnecessarySimpa false
open Go.RowKit

def RM.write (D : RM) (i : Int) (s : Sec) : Int × RM := if D.check i = 0 then (if D.step.1 = true then (0, D.step.2.setc i ⟨(D.cell i).s, (D.cell i).bad, (D.cell i).opn ++ [s]⟩) else (220, D.step.2)) else (D.check i, D)
theorem rcell_opn (c : RCell) (l : List Sec) : rcellL ⟨c.s, c.bad, l⟩ = splice (rcellL c) 65 [oB l] := by
  unfold splice
  rw [rcellL_eq, rcellL_eq, List.take_append, secL_len, List.take_of_length_le (by rw [secL_len]; decide), List.drop_of_length_le (by simp [secL_len])]
  simp

theorem asSrc_oB (l : List Sec) : asSrc 64 (oB l) = some (l.length, l.flatMap secL) := by
  unfold oB
  split
  · rename_i h; subst h; rfl
  · rfl
section
variable {P : Program} {T : Tab} {σ : PS} {o : Oper} {i base : Nat} {ops : Array Oper} {ok : Nat → Nat → Bool} {rest : List (Nat × Oper)} {K : PS → Prop}
/-- An append of what may be nil to what is one's own. -/
theorem PWops.appS {d s n m k e by_ : Nat} {cs ds zr : List PV} {x : Operand} {t : TypeId} {sz : Nat} {ag : Bool} {zz : List PV} {es : List SK} (hg : pguard ops σ o = some true) (hd : o.dst = some d) (hop : o.op = .call { callee := .builtin .append, args := #[.tmp s, x], argTypes := #[t, t] }) (hs : σ.t s = .sl n k cs (some e)) (ht : T.at t = some ⟨sz, ag, .slice e k by_ zr, zz, es⟩) (hb : σ.freeB (base + i) = true) (he : Nat.blt e 1000000 = true) {q : PV} (hq : pev σ x = q) (hx : asSrc k q = some (m, ds))
    (h1 : (n + m) * by_ ≤ 140737488355328) (h2 : n + m ≤ 140737488355328) (hone : ds.all PV.one = true) (kn : PWops P T ops base ok rest K ((σ.put s (.sl n k cs none)).put d (.sl (n + m) k (cs ++ ds) (some e)))) : PWops P T ops base ok ((i, o) :: rest) K σ := by
  refine PWops.step hg (E := ⟨.sl (n + m) k (cs ++ ds) (some e), [], some s, []⟩) ?_ hb ?_
  · have how : ownPV (σ.only (ok i)) (.tmp s) = .sl n k cs (some e) := hs
    simp [hop, presE, how, pev_only, hq, hx, ht, pappend, asOwn, h1, h2, disOf, fullB, (by simpa [Nat.blt_eq] using he : e < 1000000)]
    simpa using hone
  · rw [hd]
    simp only [PS.app, hs, List.foldl_nil, List.foldl_cons]
    exact kn
/-- A slice of one's own is stored into a variable. -/
theorem PWops.stBO {id off s n k E : Nat} {bs cs : List PV} {x : Operand} {t : TypeId} {ti : TyI} (hg : pguard ops σ o = some true) (hd : o.dst = none) (hop : o.op = .store t x (.tmp s)) (hx : pev σ x = .ptr id off) (hs : σ.t s = .sl n k cs (some E)) (ht : T.at t = some ti) (hsz : ti.size = 1) (hb : σ.freeB (base + i) = true) (hbs : (σ.only (ok i)).b id = some bs) (hl : off + 1 ≤ bs.length)
    (kn : PWops P T ops base ok rest K ((σ.put s (.sl n k cs none)).setb id (bs.set off (.sl n k cs (some E))))) : PWops P T ops base ok ((i, o) :: rest) K σ := by
  have how : ownPV (σ.only (ok i)) (.tmp s) = .sl n k cs (some E) := hs
  refine PWops.step hg (E := ⟨.tup [], [(id, bs.set off (.sl n k cs (some E)))], some s, []⟩) ?_ hb ?_
  · simp only [hop, presE, pev_only, hx, how, PV.ownB, if_true, hbs, ht, hsz, hl, and_self, disOf]
  · rw [hd]
    simp only [PS.app, hs]
    exact kn
end
theorem WeakL.set {p q : PV} (h : Weak p q) : ∀ (l : List PV) (j : Nat), WeakL (l.set j p) (l.set j q)
  | [], _ => .nil
  | a :: l, 0 => .cons h (WeakL.refl l)
  | a :: l, j + 1 => .cons (Weak.refl a) (WeakL.set h l j)

set_option maxRecDepth 10000 in
set_option maxHeartbeats 1000000 in
theorem rc_Write (D : RM) (i : Int) (s : Sec) (h : 0 ≤ D.steps ∧ D.steps ≤ 1000000000 ∧ -1 ≤ D.after) (h2 : D.after ≤ 9223372036854775807) (hop : ∀ c ∈ D.cells, c.opn.length ≤ 1000000000) : RCalls 27 [pint i, psec s] D (pint (D.write i s).1) (D.write i s).2 := by
  refine rcalls_of_pw Try.func27 rfl rfl (by intro p hp; simp at hp; rcases hp with rfl | rfl; exact .val _; exact psec_low _) (by simp [pint, psec, PV.ownB]) (Nat.le_of_ble_eq_true rfl) (.val _) ?_
  have hck := rc_check D i 1000001 1000002 (by decide)
  have hst := rc_step D h h2 1000001 1000002 (by decide)
  by_cases h1 : D.check i = 0
  · obtain ⟨hd, hi0, hi1⟩ := rcheck0 h1
    by_cases h3 : D.step.1 = true
    · have hr : D.write i s = (0, D.step.2.setc i ⟨(D.step.2.cell i).s, (D.step.2.cell i).bad, (D.step.2.cell i).opn ++ [s]⟩) := by
        have : D.step.2.cell i = D.cell i := by unfold RM.step RM.cell; split <;> rfl
        unfold RM.write
        rw [if_pos h1, if_pos h3, this]
      have hsc : D.step.2.cells = D.cells := by unfold RM.step; split <;> rfl
      rw [hr]
      rw [← hsc] at hi1 hop
      generalize D.step.2 = D1 at *
      have hlc : (D1.cells.getD i.toNat default).opn.length ≤ 1000000000 := by
        refine hop _ ?_
        have : i.toNat < D1.cells.length := by omega
        rw [List.getD_eq_getElem?_getD, List.getElem?_eq_getElem this]; exact List.getElem_mem this
      rw [h3] at hst
      clear hr hsc h3 hop h h2
      refine wk ?_
      refine PWops.ldBC (f := rcellL) (j := i.toNat) (k := 66) (r := 65) (c := oB (D1.cells.getD i.toNat default).opn) rfl rfl rfl rfl rfl rfl rfl rfl rcellL_len (by omega) (rcellL_65 _) (oB_own _) ?_
      generalize hcc : D1.cells.getD i.toNat default = c at *
      refine PWops.appS rfl rfl rfl rfl rfl rfl rfl (oB_bare c.opn) (asSrc_oB c.opn) (by omega) (by omega) (secs_one _) ?_
      refine wk ?_
      have hle := Nat.mul_le_mul_right 66 (show i.toNat + 1 ≤ D1.cells.length by omega)
      have hlen : (rC D1).length = D1.cells.length * 66 := flatMap_len rcellL_len _
      have hci : D1.cell i = c := hcc
      have hoo : PV.sl (0 + c.opn.length + 1) 64 ([] ++ List.flatMap secL c.opn ++ secL s) none = oB (c.opn ++ [s]) := by
        rw [oB_ne (by simp), psecs]; simp
      have hout : (rC D1).set (0 + i.toNat * 66 + 65) (oB (c.opn ++ [s])) = rC (D1.setc i ⟨c.s, c.bad, c.opn ++ [s]⟩) := by
        rw [← splice_one (by omega)]
        show splice (D1.cells.flatMap rcellL) (0 + i.toNat * 66 + 65) _ = (D1.cells.set i.toNat _).flatMap rcellL
        rw [show 0 + i.toNat * 66 + 65 = i.toNat * 66 + 65 by omega]
        refine splice_part rcellL_len (by omega) (Nat.le_refl 66) (fun y hy => ?_)
        have : c = y := by rw [← hcc, List.getD_eq_getElem?_getD, hy]; rfl
        rw [← this]
        exact rcell_opn c _
      refine PWops.stBO rfl rfl rfl rfl rfl rfl rfl rfl rfl (by show 0 + i.toNat * 66 + 65 + 1 ≤ (rC D1).length; omega) ?_
      rw [hci]
      refine wk ?_
      exact RetH.mk rfl (Weak.refl _) ⟨⟨_, rfl, WeakL.eq (by simp [rB, RM.setc])⟩, ⟨_, rfl, by rw [← hout, ← hoo]; exact WeakL.set (Weak.sl (WeakL.refl _)) _ _⟩, trivial⟩ trivial
    · have h3' : D.step.1 = false := by simpa using h3
      have hr : D.write i s = (220, D.step.2) := by unfold RM.write; rw [if_pos h1, if_neg h3]
      rw [hr]
      rw [h3'] at hst
      refine wk ?_
      exact RetH.mk rfl (Weak.refl _) ⟨⟨_, rfl, WeakL.refl _⟩, ⟨_, rfl, WeakL.refl _⟩, trivial⟩ trivial
  · have hr : D.write i s = (D.check i, D) := by unfold RM.write; rw [if_neg h1]
    rw [hr]
    refine wk ?_
    exact RetH.mk rfl (Weak.refl _) ⟨⟨_, rfl, WeakL.refl _⟩, ⟨_, rfl, WeakL.refl _⟩, trivial⟩ trivial
end Go.Proofs.Ytilcpcpmkklobaa

/- The specification's disk: Sync. -/
namespace Go.Proofs.Ytilcpcpmkklobaa
set_option linter.unusedSimpArgs false
set_option linter.unusedVariables false
set_option linter.unnecessarySimpa false
open Go.RowKit

theorem pcells_rc (c : RCell) : pcells (.agg (rcellL c)) = some (rcellL c) := by simp only [pcells, rcellL_one, if_true, rcellL_bare]
def rsyn (c : RCell) : RCell := if c.opn = [] then c else ⟨lastS c.opn, false, []⟩
/-- The first sectors are synced. -/
def rsynN (l : List RCell) (i : Nat) : List RCell := (l.take i).map rsyn ++ l.drop i
theorem rsynN_len (l : List RCell) (i : Nat) : (rsynN l i).length = l.length := by
  unfold rsynN
  simp only [List.length_append, List.length_map, List.length_take, List.length_drop]; omega
theorem rsynN_get {l : List RCell} {i : Nat} (h : i < l.length) : (rsynN l i).getD i default = l.getD i default := by
  unfold rsynN
  have hl : ((l.take i).map rsyn).length = i := by rw [List.length_map, List.length_take]; omega
  rw [List.getD_eq_getElem?_getD, List.getElem?_append_right (by omega), hl, Nat.sub_self, List.getElem?_drop, Nat.add_zero, List.getD_eq_getElem?_getD]
theorem rsynN_set {l : List RCell} {i : Nat} (h : i < l.length) : (rsynN l i).set i (rsyn (l.getD i default)) = rsynN l (i + 1) := by
  have hl : ((l.take i).map rsyn).length = i := by rw [List.length_map, List.length_take]; omega
  have e : l.getD i default = l[i] := by rw [List.getD_eq_getElem?_getD, List.getElem?_eq_getElem h]; rfl
  unfold rsynN
  rw [List.set_append_right _ _ (by omega), hl, Nat.sub_self, List.drop_eq_getElem_cons h, List.set_cons_zero, List.take_add_one, List.getElem?_eq_getElem h, e]
  simp only [Option.toList, List.map_append, List.map_cons, List.map_nil, List.append_assoc, List.cons_append, List.nil_append]
theorem rsynN_skip {l : List RCell} {i : Nat} (h : i < l.length) (he : (l.getD i default).opn = []) : rsynN l i = rsynN l (i + 1) := by
  rw [← rsynN_set h]
  have e : rsyn (l.getD i default) = l.getD i default := if_pos he
  rw [e, ← rsynN_get h]
  have hl : i < (rsynN l i).length := by rw [rsynN_len]; exact h
  have e2 : (rsynN l i).getD i default = (rsynN l i)[i] := by rw [List.getD_eq_getElem?_getD, List.getElem?_eq_getElem hl]; rfl
  rw [e2, List.set_getElem_self]
theorem rsynN_all (l : List RCell) : rsynN l l.length = l.map rsyn := by
  unfold rsynN
  rw [List.take_length, List.drop_length, List.append_nil]
theorem rsynN_zero (l : List RCell) : rsynN l 0 = l := by unfold rsynN; simp
def RM.synced (D : RM) : RM := { D with cells := D.cells.map rsyn }
def RM.sync (D : RM) : Int × RM := if D.dead = true then (220, D) else if D.step.1 = true then (0, D.step.2.synced) else (220, D.step.2)
def RM.cut (D : RM) (i : Nat) : RM := { D with cells := rsynN D.cells i }

set_option maxRecDepth 10000 in
set_option maxHeartbeats 2000000 in
theorem rc_Sync (D : RM) (h : 0 ≤ D.steps ∧ D.steps ≤ 1000000000 ∧ -1 ≤ D.after) (h2 : D.after ≤ 9223372036854775807) (hsz : D.cells.length ≤ 1000000000) (hop : ∀ c ∈ D.cells, c.opn.length ≤ 1000000000) : RCalls 28 [] D (pint D.sync.1) D.sync.2 := by
  refine rcalls_of_pw Try.func28 rfl rfl (by simp) (by simp) (Nat.le_of_ble_eq_true rfl) (.val _) ?_
  have hst := rc_step D h h2 1000001 1000002 (by decide)
  obtain ⟨cells, steps, after, dead⟩ := D
  cases dead with
  | true =>
    have hr : RM.sync ⟨cells, steps, after, true⟩ = (220, ⟨cells, steps, after, true⟩) := rfl
    rw [hr]
    refine wk ?_
    exact RetH.mk rfl (Weak.refl _) ⟨⟨_, rfl, WeakL.refl _⟩, ⟨_, rfl, WeakL.refl _⟩, trivial⟩ trivial
  | false =>
    by_cases h3 : (RM.step ⟨cells, steps, after, false⟩).1 = true
    · have hr : RM.sync ⟨cells, steps, after, false⟩ = (0, (RM.step ⟨cells, steps, after, false⟩).2.synced) := by unfold RM.sync; rw [if_neg (by simp), if_pos h3]
      have hsc : (RM.step ⟨cells, steps, after, false⟩).2.cells = cells := by unfold RM.step; split <;> rfl
      dsimp only at hsz hop
      rw [hr]
      rw [h3] at hst
      rw [← hsc] at hsz hop
      clear hr h3 h h2
      generalize (RM.step ⟨cells, steps, after, false⟩).2 = D1 at *
      clear hsc
      refine wk ?_
      refine PW.loop (fun i : Nat => (((((bot.setb 1000001 (rB 1000002 D1)).setb 1000002 ((rsynN D1.cells i).flatMap rcellL)).put 0 (.ptr 1000001 0)).put 2 (pint 0)).put 4 (pint i))) (fun i => i ≤ D1.cells.length) (fun i => D1.cells.length - i) 0 (Nat.zero_le _) ?_ ?_
      · try dsimp only
        rw [rsynN_zero]
        have b1 : ∀ c ∈ D1.cells.flatMap rcellL, Low c := flat_low rcellL_low _
        exact sb
      · intro i hi
        have hln := rsynN_len D1.cells i
        by_cases hlt : i < D1.cells.length
        · have hlt' : i < (rsynN D1.cells i).length := by rw [hln]; exact hlt
          have hg := rsynN_get hlt
          have hs := rsynN_set hlt
          have hsk := rsynN_skip hlt
          have hlc : (D1.cells.getD i default).opn.length ≤ 1000000000 := by
            refine hop _ ?_
            rw [List.getD_eq_getElem?_getD, List.getElem?_eq_getElem hlt]; exact List.getElem_mem hlt
          clear hop
          have b1 : ∀ c ∈ (rsynN D1.cells (i + 1)).flatMap rcellL, Low c := flat_low rcellL_low _
          generalize rsynN D1.cells i = X at *
          generalize D1.cells.getD i default = c at *
          refine wk ?_
          rw [Int.toNat_natCast]
          refine PWops.ldBC (f := rcellL) (j := i) (k := 66) (r := 65) (c := oB (X.getD i default).opn) rfl rfl rfl rfl rfl rfl rfl rfl rcellL_len hlt' (rcellL_65 _) (oB_own _) ?_
          rw [hg]
          by_cases hn : c.opn = []
          · rw [oB_nil hn]
            refine wk ?_
            refine loopP (i + 1) (by omega) (by omega) ?_
            try dsimp only
            rw [← hsk hn] at b1 ⊢
            exact sb
          · rw [oB_ne hn]
            have hp := List.length_pos_iff.2 hn
            refine wk ?_
            rw [Int.toNat_natCast]
            refine PWops.ldBC (f := rcellL) (j := i) (k := 66) (r := 65) (c := oB (X.getD i default).opn) rfl rfl rfl rfl rfl rfl rfl rfl rcellL_len hlt' (rcellL_65 _) (oB_own _) ?_
            rw [hg, oB_ne hn]
            have hrs : rsyn c = ⟨c.opn.getD ((c.opn.length : Int) - 1).toNat default, false, []⟩ := if_neg hn
            rw [hrs] at hs
            clear hrs hsk
            refine wk ?_
            generalize c.opn.getD ((c.opn.length : Int) - 1).toNat default = v at *
            refine PWops.bldA (cs := secL v) (out := rcellL ⟨v, false, []⟩) rfl rfl rfl rfl rfl rfl rfl rfl (secL_len _) rfl (secL_one _) (secL_bare _) (splice_rc v) ?_
            refine wk ?_
            rw [Int.toNat_natCast]
            refine PWops.stBR (f := rcellL) (v := ⟨v, false, []⟩) rfl rfl rfl rfl rfl (by exact (pcells_rc _)) rfl rfl rfl rcellL_len hlt' rfl ?_
            refine wk ?_
            refine loopP (i + 1) (by omega) (by omega) ?_
            try dsimp only
            rw [← hs] at b1 ⊢
            exact sb
        · obtain rfl : i = D1.cells.length := by omega
          rw [rsynN_all]
          refine wk ?_
          exact RetH.mk rfl (Weak.refl _) ⟨⟨_, rfl, WeakL.eq (by simp [rB, RM.synced])⟩, ⟨_, rfl, WeakL.refl _⟩, trivial⟩ trivial
    · have h3' : (RM.step ⟨cells, steps, after, false⟩).1 = false := by simpa using h3
      have hr : RM.sync ⟨cells, steps, after, false⟩ = (220, (RM.step ⟨cells, steps, after, false⟩).2) := by unfold RM.sync; rw [if_neg (by simp), if_neg h3]
      rw [hr]
      rw [h3'] at hst
      refine wk ?_
      exact RetH.mk rfl (Weak.refl _) ⟨⟨_, rfl, WeakL.refl _⟩, ⟨_, rfl, WeakL.refl _⟩, trivial⟩ trivial
end Go.Proofs.Ytilcpcpmkklobaa

/- The specification's disk: New, Open. -/
namespace Go.Proofs.Ytilcpcpmkklobaa
set_option linter.unusedSimpArgs false
set_option linter.unusedVariables false
set_option linter.unnecessarySimpa false
open Go.RowKit

def zeroR : RCell := ⟨zeroSec, false, []⟩
def newR (n : Nat) : RM := ⟨List.replicate n zeroR, 0, -1, false⟩
theorem newR_cells (n : Nat) : (List.replicate n zero66).flatten = rC (newR n) := by
  have z : rcellL zeroR = zero66 := rfl
  show _ = (List.replicate n zeroR).flatMap rcellL
  induction n with
  | zero => rfl
  | succ n ih => rw [List.replicate_succ, List.replicate_succ, List.flatten_cons, List.flatMap_cons, ih, z]

set_option maxRecDepth 10000 in
set_option maxHeartbeats 1000000 in
theorem rc_New1 (n : Int) (h : 1 ≤ n ∧ n ≤ 65536) : HCalls Try.prog 9 [pint n] [] [] (.ptr 3003 0) (rG 3003 3001 (newR n.toNat)) [] := by
  refine hcalls_of_pw typeTab_ok Try.func9 rfl rfl (by simp [pint, PV.ownB]) (Nat.le_of_ble_eq_true rfl) (by simp [ResIds]) (by simp [ResIds]) ⟨by intro p hp; simp at hp; subst hp; exact .val _, by simp, by simp, .ptr _ _ (by simp [ResIds, rG]), fun x hx => ?_, by simp, by simp, by simp⟩ ?_
  · simp only [rG, List.mem_cons, List.not_mem_nil, or_false] at hx
    rcases hx with rfl | rfl
    · exact rB_lowI (by simp [ResIds, rG]) _
    · exact fun p hp => (rC_low _ p hp).lowI
  refine wk ?_
  refine PWops.mkS (out := rC (newR n.toNat)) rfl rfl rfl rfl rfl rfl rfl rfl ?_ (newR_cells _) ?_
  · refine ⟨by omega, ?_, by omega⟩
    omega
  refine wk ?_
  exact RetH.mk rfl (Weak.refl _) ⟨⟨_, rfl, WeakL.eq (by simp [rB, newR]; exact ⟨rfl, rfl, rfl⟩)⟩, ⟨_, rfl, WeakL.refl _⟩, trivial⟩ trivial
theorem rc_New (n : Int) (h : 1 ≤ n ∧ n ≤ 65536) (d c : Nat) (hnd : ([d, c] : List Nat).Nodup) : HCalls Try.prog 9 [pint n] [] [] (.ptr d 0) (rG d c (newR n.toNat)) [] := by
  refine (rc_New1 n h).at [(3003, d), (3001, c)] (by simpa using hnd) (by simp [ResIds, rG]) (by simp) (by simp) (.cons (.low _ (.val _)) .nil) .nil .nil (.ptr 3003 0 (by simp [ResIds, rG])) (.cons 3003 _ _ _ _ (.cons (.msl 3001 0 _ _ (by simp [ResIds, rG])) (.cons (.low _ (.val _)) (.cons (.low _ (.val _)) (.cons (.low _ (.val _)) .nil)))) (.cons 3001 _ _ _ _ (.low (rC_low _)) .nil)) .nil

/-- The sectors of the open writes, as they are listed. -/
def ropenN (l : List RCell) : Nat → List Int
  | 0 => []
  | i + 1 => ropenN l i ++ List.replicate (l.getD i default).opn.length (i : Int)
def RM.openL (D : RM) : List Int := ropenN D.cells D.cells.length
theorem ropenN_le (l : List RCell) : ∀ {i j : Nat}, i ≤ j → (ropenN l i).length ≤ (ropenN l j).length
  | i, 0, h => by obtain rfl : i = 0 := by omega
                  exact Nat.le_refl _
  | i, j + 1, h => by
    by_cases e : i = j + 1
    · subst e; exact Nat.le_refl _
    · have := ropenN_le l (i := i) (j := j) (by omega)
      show _ ≤ (ropenN l j ++ _).length
      rw [List.length_append]; omega

set_option maxRecDepth 10000 in
set_option maxHeartbeats 2000000 in
theorem rc_Open (D : RM) (hsz : D.cells.length ≤ 1000000000) (htot : D.openL.length ≤ 1000000000) : RCalls 33 [] D (pints D.openL) D := by
  refine rcalls_of_pw Try.func33 rfl rfl (by simp) (by simp) (Nat.le_of_ble_eq_true rfl) (.sl _ _ _ _ (low_map (fun _ => Low.val _) _)) ?_
  have c1 := rC_low D
  refine wk ?_
  refine PW.loop (fun n : Nat => (((((bot.setb 1000001 (rB 1000002 D)).setb 1000002 (rC D)).put 0 (.ptr 1000001 0)).put 3 (.sl (ropenN D.cells n).length 1 ((ropenN D.cells n).map pint) (some 3))).put 4 (pint n)))
    (fun n => n ≤ D.cells.length) (fun n => D.cells.length - n) 0 (Nat.zero_le _) ?_ ?_
  · have e0 : ropenN D.cells 0 = [] := rfl
    try dsimp only
    rw [e0]
    exact sb
  · intro n hn
    by_cases hlt : n < D.cells.length
    · have hs : ropenN D.cells (n + 1) = ropenN D.cells n ++ List.replicate (D.cells.getD n default).opn.length (n : Int) := rfl
      have hle := ropenN_le D.cells (i := n + 1) (j := D.cells.length) hlt
      have hle' : (ropenN D.cells (n + 1)).length ≤ 1000000000 := Nat.le_trans hle htot
      clear hle
      rw [hs, List.length_append, List.length_replicate] at hle'
      refine wk ?_
      refine PW.loop (fun k : Nat => ((((((bot.setb 1000001 (rB 1000002 D)).setb 1000002 (rC D)).put 0 (.ptr 1000001 0)).put 3 (.sl ((ropenN D.cells n).length + k) 1 ((ropenN D.cells n ++ List.replicate k (n : Int)).map pint) (some 3))).put 4 (pint n)).put 5 (pint k)))
        (fun k => k ≤ (D.cells.getD n default).opn.length) (fun k => (D.cells.getD n default).opn.length - k) 0 (Nat.zero_le _) ?_ ?_
      · try dsimp only
        rw [List.replicate_zero, List.append_nil, Nat.add_zero]
        exact sb
      · intro k hk
        refine wk ?_
        rw [Int.toNat_natCast]
        refine PWops.ldBC (f := rcellL) (j := n) (k := 66) (r := 65) (c := oB (D.cells.getD n default).opn) rfl rfl rfl rfl rfl rfl rfl rfl rcellL_len hlt (rcellL_65 _) (oB_own _) ?_
        by_cases hk2 : k < (D.cells.getD n default).opn.length
        · rw [oB_ne (fun e => by rw [e] at hk2; simp at hk2)]
          refine wk ?_
          refine loopP (k + 1) (by omega) (by omega) ?_
          try dsimp only
          have hq : (.sl ((ropenN D.cells n).length + k + 1) 1 ((ropenN D.cells n ++ List.replicate k (n : Int)).map pint ++ [pint n]) (some 3) : PV) = .sl ((ropenN D.cells n).length + (k + 1)) 1 ((ropenN D.cells n ++ List.replicate (k + 1) (n : Int)).map pint) (some 3) := by
            rw [List.replicate_succ', ← List.append_assoc, List.map_append (l₂ := [(n : Int)])]; rfl
          rw [← hq]
          have b2 : Low (.sl ((ropenN D.cells n).length + k + 1) 1 ((ropenN D.cells n ++ List.replicate k (n : Int)).map pint ++ [pint n]) (some 3)) := by
            rw [hq]; exact .sl _ _ _ _ (low_map (fun _ => Low.val _) _)
          exact sb
        · obtain rfl : k = (D.cells.getD n default).opn.length := by omega
          have hq : (.sl ((ropenN D.cells n).length + (D.cells.getD n default).opn.length) 1 ((ropenN D.cells n ++ List.replicate (D.cells.getD n default).opn.length (n : Int)).map pint) (some 3) : PV) = .sl (ropenN D.cells (n + 1)).length 1 ((ropenN D.cells (n + 1)).map pint) (some 3) := by
            rw [hs, List.length_append, List.length_replicate]
          rw [hq]
          clear hq hs hle'
          by_cases hn0 : (D.cells.getD n default).opn = []
          · rw [oB_nil hn0]
            have hl0 : (D.cells.getD n default).opn.length = 0 := by rw [hn0]; rfl
            rw [hl0]
            clear hk2
            refine wk ?_
            refine loopP (n + 1) (by omega) (by omega) ?_
            exact sb
          · rw [oB_ne hn0]
            refine wk ?_
            refine loopP (n + 1) (by omega) (by omega) ?_
            exact sb
    · obtain rfl : n = D.cells.length := by omega
      refine wk ?_
      exact RetH.mk rfl (Weak.refl _) ⟨⟨_, rfl, WeakL.refl _⟩, ⟨_, rfl, WeakL.refl _⟩, trivial⟩ trivial
end Go.Proofs.Ytilcpcpmkklobaa

/- The specification's disk: Crash. -/
namespace Go.Proofs.Ytilcpcpmkklobaa
set_option linter.unusedSimpArgs false
set_option linter.unusedVariables false
set_option linter.unnecessarySimpa false
open Go.RowKit

/-- What a failure leaves: the first sectors of the new disk, and how many of them had open writes. -/
def rcrN (l : List RCell) (keep : List Int) : Nat → List RCell × Nat
  | 0 => (List.replicate l.length zeroR, 0)
  | i + 1 => if (l.getD i default).opn = [] then ((rcrN l keep i).1.set i (l.getD i default), (rcrN l keep i).2) else ((rcrN l keep i).1.set i (toR (kept (l.getD i default) (keepAt keep (rcrN l keep i).2))), (rcrN l keep i).2 + 1)
def RM.crash (D : RM) (keep : List Int) : RM := ⟨(rcrN D.cells keep D.cells.length).1, 0, -1, false⟩
theorem rcrN_len (l : List RCell) (keep : List Int) : ∀ i, (rcrN l keep i).1.length = l.length ∧ (rcrN l keep i).2 ≤ i
  | 0 => ⟨List.length_replicate, Nat.le_refl _⟩
  | i + 1 => by
    obtain ⟨h1, h2⟩ := rcrN_len l keep i
    unfold rcrN
    split
    · exact ⟨by rw [List.length_set, h1], by simp only; omega⟩
    · exact ⟨by rw [List.length_set, h1], by simp only; omega⟩
def rcrG (d c d2 c2 : Nat) (D D2 : RM) : List (Nat × List PV) := [(d, rB c D), (c, rC D), (d2, rB c2 D2), (c2, rC D2)]

set_option maxRecDepth 10000 in
set_option maxHeartbeats 4000000 in
theorem rc_Crash1 (D : RM) (keep : List Int) (hsz : 1 ≤ D.cells.length ∧ D.cells.length ≤ 65536) (hop : ∀ c ∈ D.cells, c.opn.length ≤ 1000000000) (hk : keep.length ≤ 1000000000000000) (hki : ∀ x ∈ keep, -9223372036854775808 ≤ x ∧ x ≤ 9223372036854775807) :
    HCalls Try.prog 30 [.ptr 1000001 0, pints keep] (rG 1000001 1000002 D) [] (.ptr 1007 0) (rcrG 1000001 1000002 1007 1005 D (D.crash keep)) [] := by
  have c1 := rC_low D
  have c3 := rC_low (D.crash keep)
  refine hcalls_of_pw typeTab_ok Try.func30 rfl rfl (by simp [PV.ownB, pints]) (Nat.le_of_ble_eq_true rfl) (by simp [ResIds, rG]) (by simp [ResIds, rG]) ⟨li_cons (.ptr _ _ (by simp [ResIds, rG])) (li_cons (Low.lowI (by exact lw)) li_nil), lb_cons (rB_lowI (by simp [ResIds, rG]) _) (lb_cons (li_low c1) lb_nil), lm_nil, .ptr _ _ (by simp [ResIds, rcrG]), lb_cons (rB_lowI (by simp [ResIds, rcrG]) _) (lb_cons (li_low c1) (lb_cons (rB_lowI (by simp [ResIds, rcrG]) _) (lb_cons (li_low c3) lb_nil))), lm_nil, by simp [rcrG, rG], by simp⟩ ?_
  refine wk ?_
  refine PWops.mkS (out := rC (newR D.cells.length)) rfl rfl rfl rfl rfl rfl rfl rfl ⟨by omega, by omega, by omega⟩ (newR_cells _) ?_
  refine wk ?_
  have hlen : (D.crash keep).cells.length = D.cells.length := (rcrN_len D.cells keep _).1
  refine PW.loop (fun i : Nat => ((((((((bot.setb 1000001 (rB 1000002 D)).setb 1000002 (rC D)).setb 1007 (rB 1005 (D.crash keep))).setb 1005 ((rcrN D.cells keep i).1.flatMap rcellL)).put 0 (.ptr 1000001 0)).put 1 (pints keep)).put 5 (.ptr 1007 0)).put 6 (pint (rcrN D.cells keep i).2)).put 7 (pint i)) (fun i => i ≤ D.cells.length) (fun i => D.cells.length - i) 0 (Nat.zero_le _) ?_ ?_
  · have e1 : (rcrN D.cells keep 0).1.flatMap rcellL = rC (newR D.cells.length) := rfl
    have e2 : rB 1005 (D.crash keep) = [.msl 1005 0 D.cells.length 66, pint 0, pint (-1), pbool false] := by
      unfold rB
      rw [hlen]; rfl
    try dsimp only
    rw [e1, e2]
    have b1 := rC_low (newR D.cells.length)
    exact sb
  · intro i hi
    obtain ⟨hcl, hcn⟩ := rcrN_len D.cells keep i
    by_cases hlt : i < D.cells.length
    · have hst : rcrN D.cells keep (i + 1) = if (D.cells.getD i default).opn = [] then ((rcrN D.cells keep i).1.set i (D.cells.getD i default), (rcrN D.cells keep i).2) else ((rcrN D.cells keep i).1.set i (toR (kept (D.cells.getD i default) (keepAt keep (rcrN D.cells keep i).2))), (rcrN D.cells keep i).2 + 1) := rfl
      have hlc : (D.cells.getD i default).opn.length ≤ 1000000000 := by
        refine hop _ ?_
        rw [List.getD_eq_getElem?_getD, List.getElem?_eq_getElem hlt]; exact List.getElem_mem hlt
      have b1 : ∀ c ∈ (rcrN D.cells keep (i + 1)).1.flatMap rcellL, Low c := flat_low rcellL_low _
      clear hop
      generalize hX : rcrN D.cells keep i = X at *
      obtain ⟨X, m⟩ := X
      dsimp only at hcl hcn hst ⊢
      refine wk ?_
      rw [Int.toNat_natCast]
      refine PWops.ldBC (f := rcellL) (j := i) (k := 66) (r := 65) (c := oB (D.cells.getD i default).opn) rfl rfl rfl rfl rfl rfl rfl rfl rcellL_len hlt (rcellL_65 _) (oB_own _) ?_
      by_cases hn : (D.cells.getD i default).opn = []
      · rw [if_pos hn] at hst
        rw [oB_nil hn]
        refine wk ?_
        rw [Int.toNat_natCast]
        refine PWops.ldBR (f := rcellL) (l := D.cells) (j := i) rfl rfl rfl rfl rfl rfl rfl rcellL_len hlt (rcellL_bare _) ?_
        refine wk ?_
        try rw [Int.toNat_natCast]
        refine PWops.stBR (f := rcellL) (v := D.cells.getD i default) rfl rfl rfl rfl rfl (by exact (pcells_rc _)) rfl rfl rfl rcellL_len (by omega) rfl ?_
        refine wk ?_
        refine loopP (i + 1) (by omega) (by omega) ?_
        try dsimp only
        rw [hst] at b1 ⊢
        exact sb
      · rw [if_neg hn] at hst
        rw [oB_ne hn]
        have hp := List.length_pos_iff.2 hn
        by_cases hk0 : keep = []
        · have hka : keepAt keep m = 0 := by rw [keepAt, if_pos hk0]
          have hf := pw_kept (D.cells.getD i default) 0 ⟨hp, hlc⟩ (by omega)
          rw [hka] at hst
          have hkl : keep.length = 0 := by rw [hk0]; rfl
          refine wk ?_
          rw [Int.toNat_natCast]
          refine PWops.ldBR (f := rcellL) (l := D.cells) (j := i) rfl rfl rfl rfl rfl rfl rfl rcellL_len hlt (rcellL_bare _) ?_
          refine wk ?_
          try rw [Int.toNat_natCast]
          refine PWops.stBR (f := rcellL) (v := toR (kept (D.cells.getD i default) 0)) rfl rfl rfl rfl rfl (by exact (pcells_rc _)) rfl rfl rfl rcellL_len (by omega) rfl ?_
          refine wk ?_
          refine loopP (i + 1) (by omega) (by omega) ?_
          try dsimp only
          rw [hst] at b1 ⊢
          exact sb
        · have hkl : 0 < keep.length := List.length_pos_iff.2 hk0
          have hka : keepAt keep m = keep.getD (m % keep.length) default := by rw [keepAt, if_neg hk0]
          have hkr : -9223372036854775808 ≤ keep.getD (m % keep.length) default ∧ keep.getD (m % keep.length) default ≤ 9223372036854775807 := by
            refine hki _ ?_
            rw [List.getD_eq_getElem?_getD, List.getElem?_eq_getElem (Nat.mod_lt _ hkl)]; exact List.getElem_mem _
          have hf := pw_kept (D.cells.getD i default) _ ⟨hp, hlc⟩ hkr
          rw [hka] at hst
          have hmod := Nat.mod_lt m hkl
          have hrem : ((m : Int)).tmod keep.length = ((m % keep.length : Nat) : Int) := rfl
          generalize m % keep.length = q at *
          refine wk ?_
          refine PWops.remY (z := (q : Int)) rfl rfl rfl rfl rfl rfl (by omega) hrem ?_
          refine wk ?_
          rw [Int.toNat_natCast]
          refine PWops.ldBR (f := rcellL) (l := D.cells) (j := i) rfl rfl rfl rfl rfl rfl rfl rcellL_len hlt (rcellL_bare _) ?_
          refine wk ?_
          try rw [Int.toNat_natCast]
          refine PWops.stBR (f := rcellL) (v := toR (kept (D.cells.getD i default) (keep.getD q default))) rfl rfl rfl rfl rfl (by exact (pcells_rc _)) rfl rfl rfl rcellL_len (by omega) rfl ?_
          refine wk ?_
          refine loopP (i + 1) (by omega) (by omega) ?_
          try dsimp only
          rw [hst] at b1 ⊢
          exact sb
    · obtain rfl : i = D.cells.length := by omega
      refine wk ?_
      exact RetH.mk rfl (Weak.refl _) ⟨⟨_, rfl, WeakL.refl _⟩, ⟨_, rfl, WeakL.refl _⟩, ⟨_, rfl, WeakL.refl _⟩, ⟨_, rfl, WeakL.refl _⟩, trivial⟩ trivial
theorem rc_Crash (D : RM) (keep : List Int) (hsz : 1 ≤ D.cells.length ∧ D.cells.length ≤ 65536) (hop : ∀ c ∈ D.cells, c.opn.length ≤ 1000000000) (hk : keep.length ≤ 1000000000000000) (hki : ∀ x ∈ keep, -9223372036854775808 ≤ x ∧ x ≤ 9223372036854775807) (d c d2 c2 : Nat) (hd : ([d, c, d2, c2] : List Nat).Nodup) :
    HCalls Try.prog 30 [.ptr d 0, pints keep] (rG d c D) [] (.ptr d2 0) (rcrG d c d2 c2 D (D.crash keep)) [] := by
  refine (rc_Crash1 D keep hsz hop hk hki).at [(1000001, d), (1000002, c), (1007, d2), (1005, c2)] (by simpa using hd) (by simp [ResIds, rcrG]) (by simp [rcrG, rG]) (by simp) (.cons (.ptr _ _ (by simp [ResIds, rG])) (.cons (.low _ (by exact lw)) .nil)) (.cons _ _ _ _ _ (.cons (.msl 1000002 0 _ _ (by simp [ResIds, rG])) (.cons (.low _ (.val _)) (.cons (.low _ (.val _)) (.cons (.low _ (.val _)) .nil)))) (.cons _ _ _ _ _ (.low (rC_low _)) .nil)) .nil (.ptr 1007 0 (by simp [ResIds, rcrG])) (.cons _ _ _ _ _ (.cons (.msl 1000002 0 _ _ (by simp [ResIds, rcrG])) (.cons (.low _ (.val _)) (.cons (.low _ (.val _)) (.cons (.low _ (.val _)) .nil)))) (.cons _ _ _ _ _ (.low (rC_low _)) (.cons _ _ _ _ _ (.cons (.msl 1005 0 _ _ (by simp [ResIds, rcrG])) (.cons (.low _ (.val _)) (.cons (.low _ (.val _)) (.cons (.low _ (.val _)) .nil)))) (.cons _ _ _ _ _ (.low (rC_low _)) .nil)))) .nil
end Go.Proofs.Ytilcpcpmkklobaa

/- law22: disks on which nothing is open; what bits do. -/
namespace Go.Proofs.Ytilcpcpmkklobaa
set_option linter.unusedSimpArgs false
set_option linter.unusedVariables false
set_option linter.unnecessarySimpa false
open Go.RowKit

theorem xbyte_all : ((List.range 256).all fun x => (List.range 8).all fun r => decide (xbyte (xbyte (x : Nat) (r : Nat)) (r : Nat) = (x : Nat))) = true := by kernel_rfl
theorem xbyte_mod (x b : Int) : xbyte x b = xbyte x ((b % 8).toNat : Nat) := by
  unfold xbyte
  have : ((b % 8).toNat : Int) % 8 = b % 8 := by omega
  rw [this]
theorem xbyte_twice {x b : Int} (hx : 0 ≤ x ∧ x < 256) : xbyte (xbyte x b) b = x := by
  rw [xbyte_mod x b, xbyte_mod _ b]
  have h1 := List.all_eq_true.1 xbyte_all x.toNat (by simp; omega)
  have h2 := List.all_eq_true.1 h1 (b % 8).toNat (by simp; omega)
  have e : ((x.toNat : Nat) : Int) = x := by omega
  have h3 := of_decide_eq_true h2
  rw [e] at h3
  exact h3
theorem flip_twice (s : Sec) {b : Int} (hb : 0 ≤ b ∧ b < 512) : flipSec (flipSec s b) b = s := by
  apply Subtype.ext
  have hl : (b / 8).toNat < s.1.length := by rw [s.2.1]; omega
  show (s.1.set (b / 8).toNat (xbyte (s.1.getD (b / 8).toNat 0) b)).set (b / 8).toNat (xbyte ((s.1.set (b / 8).toNat (xbyte (s.1.getD (b / 8).toNat 0) b)).getD (b / 8).toNat 0) b) = s.1
  rw [List.set_set, gset hl, if_pos rfl]
  have hm : s.1.getD (b / 8).toNat 0 = s.1[(b / 8).toNat] := by rw [List.getD_eq_getElem?_getD, List.getElem?_eq_getElem hl]; rfl
  rw [xbyte_twice (by rw [hm]; exact s.2.2 _ (List.getElem_mem hl)), hm]
  exact List.set_getElem_self hl

theorem secL_at (s : Sec) {q : Nat} (h : q < 64) : (secL s)[q]? = some (pbyte (s.1.getD q 0)) := by
  rw [secL, List.getElem?_map]
  have : q < s.1.length := by rw [s.2.1]; exact h
  simp [List.getElem?_eq_getElem this]
theorem secL_flip (s : Sec) (b : Int) (h : (b / 8).toNat < 64) : splice (secL s) (b / 8).toNat [pbyte (xbyte (s.1.getD (b / 8).toNat 0) b)] = secL (flipSec s b) := by
  rw [splice_one (by rw [secL_len]; exact h)]
  simp [secL, flipSec, List.map_set]

/-- A disk on which nothing is open. -/
structure Clean (n k : Nat) (D : DM) (f : Nat → DCell) : Prop where
  ok : OkD n k D
  op : D.op = []
  cell : ∀ q : Nat, q < n → D.cell q = f q
def fset (f : Nat → DCell) (i : Nat) (c : DCell) : Nat → DCell := fun q => if q = i then c else f q
variable {n k : Nat} {D : DM} {f : Nat → DCell}
theorem Clean.get (h : Clean n k D f) (q : Int) : D.get q = [] := by rw [get_find, h.op]; rfl
theorem Clean.read (h : Clean n k D f) {q : Nat} (hq : q < n) : D.read q = if (f q).bad then (zeroSec, 221) else ((f q).s, 0) := by
  rw [h.ok.read (by omega) (by omega), h.get, if_neg (by simp), h.cell q hq]
theorem setc_cell {D : DM} {i q : Nat} {c : DCell} (hi : i < D.cells.length) : (D.setc i c).cell q = if q = i then c else D.cell q := by
  show (D.cells.set (i : Int).toNat c).getD (q : Int).toNat default = if q = i then c else D.cells.getD (q : Int).toNat default
  rw [Int.toNat_natCast, Int.toNat_natCast, gset hi]
theorem Clean.setc (h : Clean n k D f) {i : Nat} (hi : i < n) (c : DCell) : Clean n k (D.setc i c) (fset f i c) := by
  have hl : i < D.cells.length := by rw [h.ok.len]; exact hi
  refine ⟨⟨h.ok.dead, h.ok.after, by rw [← h.ok.len]; exact List.length_set .., h.ok.steps, h.ok.op, h.ok.room⟩, h.op, fun q hq => ?_⟩
  rw [setc_cell hl, h.cell q hq]; rfl
theorem Clean.flip (h : Clean n k D f) {i : Nat} (hi : i < n) {b : Int} (hb : 0 ≤ b ∧ b < 512) : D.flip i b = (0, D.setc i ((f i).flip b)) ∧ Clean n k (D.setc i ((f i).flip b)) (fset f i ((f i).flip b)) := by
  refine ⟨?_, h.setc hi _⟩
  unfold DM.flip
  rw [if_pos (h.ok.check0 (by omega) (by omega)), if_neg (by omega), h.cell i hi]
theorem Clean.rot (h : Clean n k D f) {i : Nat} (hi : i < n) : D.check i = 0 ∧ Clean n k (D.rot i) (fset f i ⟨zeroSec, true⟩) := by
  have hc := h.ok.check0 (i := (i : Int)) (by omega) (by omega)
  refine ⟨hc, ?_⟩
  unfold DM.rot
  rw [if_pos hc]
  exact h.setc hi _
theorem Clean.crash (h : Clean n k D f) (keep : List Int) : Clean n 0 (D.crash keep) f := by
  have hk : D.keys.length = 0 := by rw [keys_len, h.op]; rfl
  have hcs : (D.crash keep).cells = D.cells := by
    show crashL D keep D.keys.length = D.cells
    rw [hk]; rfl
  refine ⟨⟨rfl, rfl, by rw [hcs]; exact h.ok.len, ⟨Int.le_refl _, Int.le_refl _⟩, ⟨List.nodup_nil, by simp [DM.crash]⟩, by simp [DM.crash]⟩, rfl, fun q hq => ?_⟩
  unfold DM.cell
  rw [hcs]; exact h.cell q hq
theorem WOk.clean {s : WS} (h : WOk k s) (ho : s.D.op = []) : Clean 16 k s.D (fun q => ⟨s.sure.getD q default, false⟩) := ⟨h.ok, ho, h.cell⟩
theorem wr_last (l : List ROp) (hl : l.length ≤ 1000) : (wr l.length l l.length).D.op = [] := by
  cases hn : l.length with
  | zero => rfl
  | succ n =>
    have h1 := ((wr_ok ((n + 1 : Nat) : Int) l n (by omega)).wr (by omega) (l.getD n default)).2
    have e : wr ((n + 1 : Nat) : Int) l (n + 1) = synW (putW (wr ((n + 1 : Nat) : Int) l n) (l.getD n default)) := by
      show (if (n : Int) + 1 = ((n + 1 : Nat) : Int) then _ else _) = _
      rw [if_pos (by omega)]
    rw [e]
    show (putW _ _).D.sync.2.op = []
    exact (h1.ok.sync_ok (by decide)).2.2.2
end Go.Proofs.Ytilcpcpmkklobaa

/- law22: what a failure leaves. -/
namespace Go.Proofs.Ytilcpcpmkklobaa
set_option linter.unusedSimpArgs false
set_option linter.unusedVariables false
set_option linter.unnecessarySimpa false
open Go.RowKit

theorem crashL_at {n k : Nat} {D : DM} (h : OkD n k D) (hk : k ≤ 1000000000) (keep : List Int) {q : Nat} (hq : q < n) : ∀ m, m ≤ D.keys.length → if (q : Int) ∈ D.keys.take m then ∃ x, (crashL D keep m).getD q default = found (D.cell q) (D.get q) x else (crashL D keep m).getD q default = D.cell q
  | 0, _ => by
    rw [List.take_zero, if_neg (by simp)]
    show D.cells.getD q default = D.cells.getD (q : Int).toNat default
    rw [Int.toNat_natCast]
  | m + 1, hm => by
    have ih := crashL_at h hk keep hq m (by omega)
    have hop : opOK D.cells.length D.op := by rw [h.len]; exact h.op
    obtain ⟨k1, k2, -⟩ := keys_at hop (n := m) (by omega)
    have ht : D.keys.take (m + 1) = D.keys.take m ++ [D.keys.getD m default] := by
      rw [List.take_add_one, List.getD_eq_getElem?_getD, List.getElem?_eq_getElem (by omega)]; rfl
    rw [ht, crashL, gset (by rw [crashL_len]; omega)]
    generalize D.keys.getD m default = key at *
    by_cases e : q = key.toNat
    · have e' : (q : Int) = key := by omega
      rw [if_pos e, if_pos (by rw [e']; simp), ← e']
      exact ⟨_, rfl⟩
    · have e' : (q : Int) ≠ key := by omega
      rw [if_neg e]
      by_cases c : (q : Int) ∈ D.keys.take m
      · rw [if_pos c] at ih
        rw [if_pos (List.mem_append.2 (.inl c))]
        exact ih
      · rw [if_neg c] at ih
        rw [if_neg (by simp only [List.mem_append, List.mem_singleton, not_or]; exact ⟨c, e'⟩)]
        exact ih
theorem get_key {n k : Nat} {D : DM} (h : OkD n k D) (q : Int) : q ∈ D.keys ↔ D.get q ≠ [] := by
  rw [keys_mem]
  have hf := opFind_get h q
  constructor
  · intro hm e
    obtain ⟨x, hx, rfl⟩ := List.mem_map.1 hm
    obtain ⟨j, hj⟩ := List.getElem?_of_mem hx
    rw [opFind_at h.op.1 hj, if_pos e] at hf
    cases hf
  · intro hne
    by_cases c : q ∈ D.op.map (·.2.1)
    · exact c
    · rw [opFind_none c, if_neg hne] at hf
      cases hf
theorem crash_cell {n k : Nat} {D : DM} (h : OkD n k D) (hk : k ≤ 1000000000) (keep : List Int) {q : Nat} (hq : q < n) : if D.get q = [] then (D.crash keep).cell q = D.cell q else ∃ x, (D.crash keep).cell q = found (D.cell q) (D.get q) x := by
  have h1 := crashL_at h hk keep hq D.keys.length (Nat.le_refl _)
  rw [List.take_length] at h1
  have e : (D.crash keep).cell q = (crashL D keep D.keys.length).getD q default := by
    show (crashL D keep D.keys.length).getD (q : Int).toNat default = _
    rw [Int.toNat_natCast]
  rw [e]
  by_cases c : D.get q = []
  · rw [if_pos c]
    rw [if_neg (fun hm => (get_key h q).1 hm c)] at h1
    exact h1
  · rw [if_neg c]
    rw [if_pos ((get_key h q).2 c)] at h1
    exact h1
theorem opOK_len {n : Nat} {op : List (Nat × Int × List Sec)} (h : opOK n op) : op.length ≤ n := by
  have h1 : (op.map (·.2.1)).length ≤ ((List.range n).map (fun i : Nat => (i : Int))).length := by
    refine List.Nodup.length_le_of_subset h.1 (fun x hx => ?_)
    obtain ⟨e, he, rfl⟩ := List.mem_map.1 hx
    obtain ⟨q0, q1, -⟩ := h.2 e he
    exact List.mem_map.2 ⟨e.2.1.toNat, List.mem_range.2 (by omega), by omega⟩
  simpa using h1
theorem crash_ok {n k : Nat} {D : DM} (h : OkD n k D) (keep : List Int) : OkD n 0 (D.crash keep) :=
  ⟨rfl, rfl, by show (crashL D keep _).length = n; rw [crashL_len]; exact h.len, ⟨Int.le_refl _, Int.le_refl _⟩, ⟨List.nodup_nil, by simp [DM.crash]⟩, by simp [DM.crash]⟩
theorem crash_get (D : DM) (keep : List Int) (q : Int) : (D.crash keep).get q = [] := by rw [get_find]; rfl
/-- What is found of a sector may be found. -/
theorem found_poss (sure : Sec) (l : List Sec) (hl : l ≠ []) (x : Int) : let c := found ⟨sure, false⟩ l x
    possB (if c.bad then (zeroSec, (221 : Int)) else (c.s, 0)).1 (if c.bad then (zeroSec, (221 : Int)) else (c.s, 0)).2 sure l = true := by
  have hpos : 0 < l.length := List.length_pos_iff.2 hl
  have hr : 0 ≤ foundR l x ∧ foundR l x < l.length + 3 := by
    unfold foundR
    have h3 : (0 : Int) < (l.length : Int) + 3 := by omega
    exact ⟨Int.emod_nonneg _ (by omega), Int.emod_lt_of_pos _ h3⟩
  have any : ∀ s ∈ l, possI s sure l l.length = true := by
    intro s hs
    unfold possI
    rw [List.take_length, Bool.or_eq_true]
    exact .inr (List.any_eq_true.2 ⟨s, hs, decide_eq_true rfl⟩)
  have got : ∀ j, j < l.length → l.getD j default ∈ l := by
    intro j hj
    rw [List.getD_eq_getElem?_getD, List.getElem?_eq_getElem hj]; exact List.getElem_mem hj
  have last : lastS l ∈ l := got _ (by omega)
  unfold found
  by_cases h0 : foundR l x = 0
  · simp only [h0, if_true]
    simp [possB, possI]
  · by_cases h1 : foundR l x ≤ l.length
    · simp only [h0, h1, if_true, if_false]
      have := any _ (got (foundR l x - 1).toNat (by omega))
      simp only [possB, Bool.false_eq_true, if_false, this, Bool.true_or]
      rw [if_neg (by decide)]
    · by_cases h2 : foundR l x = l.length + 1
      · simp only [if_neg h0, if_neg h1, if_pos h2]
        simp [possB]
      · simp only [if_neg h0, if_neg h1, if_neg h2]
        by_cases h3 : (beforeS ⟨sure, false⟩ l).1 = (lastS l).1
        · simp only [if_pos h3]
          have := any _ last
          simp [possB, this]
        · simp only [if_neg h3]
          simp [possB]
theorem keeps_read {k : Nat} {W : WS} (h : WOk k W) (hk : k ≤ 1000000000) (keep : List Int) {q : Nat} (hq : q < 16) :
    (W.op.getD q default = [] → (W.D.crash keep).read q = (W.sure.getD q default, 0)) ∧ (W.op.getD q default ≠ [] → possB ((W.D.crash keep).read q).1 ((W.D.crash keep).read q).2 (W.sure.getD q default) (W.op.getD q default) = true ∧ (((W.D.crash keep).read q).2 = 221 ∨ ((W.D.crash keep).read q).2 = 0) ∧ W.D.read q = (lastS (W.op.getD q default), 0)) := by
  have hc := crash_cell h.ok hk keep hq
  have hr := (crash_ok h.ok keep).read (q := (q : Int)) (by omega) (by omega)
  rw [crash_get, if_neg (by simp)] at hr
  rw [h.get q hq, h.cell q hq] at hc
  refine ⟨fun e => ?_, fun e => ?_⟩
  · rw [if_pos e] at hc
    rw [hr, hc]; rfl
  · rw [if_neg e] at hc
    obtain ⟨x, hx⟩ := hc
    rw [hr, hx]
    refine ⟨found_poss _ _ e x, ?_, ?_⟩
    · split
      · exact .inl rfl
      · exact .inr rfl
    · rw [h.ok.read (by omega) (by omega), h.get q hq, if_pos (List.length_pos_iff.2 e)]
end Go.Proofs.Ytilcpcpmkklobaa

/- Maps from numbers. -/
namespace Go.Proofs.Ytilcpcpmkklobaa
set_option linter.unusedSimpArgs false
set_option linter.unusedVariables false
set_option linter.unnecessarySimpa false
open Go.RowKit

structure IM (V : Type) where
  es : List (Nat × Int × V)
  clock : Nat
section
variable {V : Type}
def imIdx (k : Int) : List (Nat × Int × V) → Nat → Option Nat
  | [], _ => none
  | (_, k', _) :: l, n => if k = k' then some n else imIdx k l (n + 1)
def imFind (k : Int) : List (Nat × Int × V) → Option V
  | [] => none
  | (_, k', v) :: l => if k = k' then some v else imFind k l
def imE (f : V → PV) (e : Nat × Int × V) : Nat × PV × PV := (e.1, pint e.2.1, f e.2.2)
def imL (f : V → PV) (m : IM V) : PMap := .map (m.es.map (imE f)) m.clock
def IM.get (m : IM V) (k : Int) : Option V := imFind k m.es
def IM.put (m : IM V) (k : Int) (v : V) : IM V := match imIdx k m.es 0 with
  | some j => ⟨match m.es[j]? with | some e => m.es.set j (e.1, k, v) | none => m.es, m.clock⟩
  | none => ⟨m.es ++ [(m.clock, k, v)], m.clock + 1⟩
def IM.ok (m : IM V) : Prop := (m.es.map (·.2.1)).Nodup
def imNil : IM V := ⟨[], 0⟩
theorem imIdx_find (f : V → PV) (k : Int) : ∀ (l : List (Nat × Int × V)) (n : Nat), mfind .int (.int .i64 k) (l.map (imE f)) n = some (imIdx k l n)
  | [], n => rfl
  | (s, k', v) :: l, n => by
    simp only [List.map_cons, imE, pint, mfind, veq, if_true, imIdx]
    by_cases h : k = k'
    · subst h; simp
    · have : (k == k') = false := by simpa using h
      rw [this, if_neg h]
      exact imIdx_find f k l (n + 1)
theorem imIdx_lt {k : Int} : ∀ {l : List (Nat × Int × V)} {n j : Nat}, imIdx k l n = some j → n ≤ j ∧ j < n + l.length ∧ ∃ s v, l[j - n]? = some (s, k, v)
  | [], n, j, h => by simp [imIdx] at h
  | (s, k', v) :: l, n, j, h => by
    simp only [imIdx] at h
    split at h
    · rename_i e; subst e; cases h; exact ⟨Nat.le_refl _, by simp, s, v, by simp⟩
    · obtain ⟨h1, h2, s', v', h3⟩ := imIdx_lt h
      refine ⟨by omega, by simp; omega, s', v', ?_⟩
      rw [show j - n = (j - (n + 1)) + 1 by omega]; simpa using h3
theorem imFind_idx {k : Int} : ∀ (l : List (Nat × Int × V)) (n : Nat), (∀ j, imIdx k l n = some j → ∃ s v, l[j - n]? = some (s, k, v) ∧ imFind k l = some v) ∧ (imIdx k l n = none → imFind k l = none)
  | [], n => ⟨fun j h => by simp [imIdx] at h, fun _ => rfl⟩
  | (s, k', v) :: l, n => by
    simp only [imIdx, imFind]
    by_cases h : k = k'
    · subst h
      simp only [if_true]
      exact ⟨fun j hj => by cases hj; exact ⟨s, v, by simp, rfl⟩, fun h => by cases h⟩
    · simp only [if_neg h]
      obtain ⟨h1, h2⟩ := imFind_idx (k := k) l (n + 1)
      refine ⟨fun j hj => ?_, h2⟩
      obtain ⟨s', v', h3, h4⟩ := h1 j hj
      have := (imIdx_lt hj).1
      exact ⟨s', v', by rw [show j - n = (j - (n + 1)) + 1 by omega]; simpa using h3, h4⟩
theorem im_mput (f : V → PV) (m : IM V) (k : Int) (v : V) {ki : TyI} (hk : ki.kind = .int .i64) : mput ki (m.es.map (imE f)) m.clock (.int .i64 k) (f v) = some (imL f (m.put k v)) := by
  unfold mput IM.put imL
  simp only [hk, keyOK, skT, decide_true, if_true, imIdx_find]
  cases h : imIdx k m.es 0 with
  | none => simp [imE, pint]
  | some j =>
    obtain ⟨-, -, s, w, h3⟩ := imIdx_lt h
    simp only [Nat.sub_zero] at h3
    simp only [List.getElem?_map, h3, Option.map_some, imE, List.map_set]
    rfl
theorem im_mget (f : V → PV) (m : IM V) (k : Int) {ki ei : TyI} {z : PV} (hk : ki.kind = .int .i64) (hz : zeroPV ei = some z) (hzb : z.bare = z) (hf : ∀ v, (f v).bare = f v) : mget ki ei (m.es.map (imE f)) (.int .i64 k) = some (match m.get k with | some v => f v | none => z, (m.get k).isSome) := by
  unfold mget IM.get
  simp only [hk, keyOK, skT, decide_true, if_true, imIdx_find]
  obtain ⟨h1, h2⟩ := imFind_idx (k := k) m.es 0
  cases h : imIdx k m.es 0 with
  | none => simp only [h2 h, hz, Option.map_some, hzb]; rfl
  | some j =>
    obtain ⟨s, v, h3, h4⟩ := h1 j h
    simp only [Nat.sub_zero] at h3
    simp only [List.getElem?_map, h3, Option.map_some, imE, h4, hf]; rfl
theorem imFind_set {k q : Int} {v : V} : ∀ {l : List (Nat × Int × V)} {n j s : Nat}, imIdx k l n = some j → imFind q (l.set (j - n) (s, k, v)) = if q = k then some v else imFind q l
  | [], n, j, s, h => by simp [imIdx] at h
  | (a, k', b) :: l, n, j, s, h => by
    simp only [imIdx] at h
    by_cases e : k = k'
    · rw [if_pos e] at h
      cases h
      subst e
      simp only [Nat.sub_self, List.set_cons_zero, imFind]
      split <;> rfl
    · rw [if_neg e] at h
      have h0 := (imIdx_lt h).1
      have ih := imFind_set (q := q) (v := v) (s := s) h
      rw [show j - n = (j - (n + 1)) + 1 by omega, List.set_cons_succ]
      simp only [imFind, ih]
      by_cases e1 : q = k'
      · rw [if_pos e1, if_neg (fun e2 => e (by rw [← e2, e1])), if_pos e1]
      · rw [if_neg e1, if_neg e1]
theorem imFind_snoc {q k : Int} {v : V} {s : Nat} : ∀ {l : List (Nat × Int × V)}, imFind k l = none → imFind q (l ++ [(s, k, v)]) = if q = k then some v else imFind q l
  | [], _ => rfl
  | (a, k', b) :: l, h => by
    simp only [imFind] at h
    by_cases e : k = k'
    · rw [if_pos e] at h; cases h
    · rw [if_neg e] at h
      simp only [List.cons_append, imFind, imFind_snoc (q := q) h]
      by_cases e1 : q = k'
      · rw [if_pos e1, if_neg (fun e2 => e (by rw [← e2, e1])), if_pos e1]
      · rw [if_neg e1, if_neg e1]
theorem IM.get_put (m : IM V) (k : Int) (v : V) (q : Int) : (m.put k v).get q = if q = k then some v else m.get q := by
  unfold IM.put IM.get
  obtain ⟨h1, h2⟩ := imFind_idx (k := k) m.es 0
  cases h : imIdx k m.es 0 with
  | none => exact imFind_snoc (h2 h)
  | some j =>
    obtain ⟨s, w, h3, -⟩ := h1 j h
    simp only [Nat.sub_zero] at h3
    simp only [h3]
    exact imFind_set (n := 0) h
theorem imFind_none {k : Int} : ∀ {l : List (Nat × Int × V)}, imFind k l = none → k ∉ l.map (·.2.1)
  | [], h => by simp
  | (a, k', b) :: l, h => by
    simp only [imFind] at h
    split at h
    · cases h
    · rename_i hne
      simp only [List.map_cons, List.mem_cons, not_or]
      exact ⟨hne, imFind_none h⟩
theorem imFind_mem {k : Int} {v : V} {s : Nat} : ∀ {l : List (Nat × Int × V)}, (l.map (·.2.1)).Nodup → (s, k, v) ∈ l → imFind k l = some v
  | [], _, h => by simp at h
  | (a, k', b) :: l, hn, h => by
    simp only [List.map_cons, List.nodup_cons] at hn
    rcases List.mem_cons.1 h with e | e
    · cases e; simp [imFind]
    · have hne : k ≠ k' := by
        rintro rfl
        exact hn.1 (List.mem_map.2 ⟨_, e, rfl⟩)
      simp only [imFind, if_neg hne]
      exact imFind_mem hn.2 e
theorem imFind_some {k : Int} {v : V} : ∀ {l : List (Nat × Int × V)}, imFind k l = some v → ∃ s, (s, k, v) ∈ l
  | [], h => by cases h
  | (a, k', b) :: l, h => by
    simp only [imFind] at h
    split at h
    · rename_i e; subst e; cases h; exact ⟨a, by simp⟩
    · obtain ⟨s, hs⟩ := imFind_some h; exact ⟨s, List.mem_cons_of_mem _ hs⟩
theorem IM.put_ok {m : IM V} (h : m.ok) (k : Int) (v : V) : (m.put k v).ok := by
  unfold IM.put IM.ok at *
  obtain ⟨h1, h2⟩ := imFind_idx (k := k) m.es 0
  cases hj : imIdx k m.es 0 with
  | none =>
    simp only [List.map_append, List.map_cons, List.map_nil, List.nodup_append, List.nodup_cons, List.not_mem_nil, not_false_eq_true, List.nodup_nil, and_true, List.mem_cons, or_false, true_and]
    refine ⟨h, fun a ha b hb => ?_⟩
    subst hb
    rintro rfl
    exact imFind_none (h2 hj) ha
  | some j =>
    obtain ⟨s, w, h3, -⟩ := h1 j hj
    simp only [Nat.sub_zero] at h3
    simp only [h3]
    have : (m.es.set j (s, k, v)).map (·.2.1) = m.es.map (·.2.1) := by
      rw [List.map_set]
      apply List.ext_getElem?
      intro q
      rw [List.getElem?_set]
      split
      · rename_i e; subst e; rw [List.getElem?_map, h3]; simp [(List.getElem?_eq_some_iff.1 h3).1]
      · rfl
    rw [this]; exact h
theorem imL_low {f : V → PV} (hf : ∀ v, Low (f v)) (m : IM V) : ∀ e ∈ m.es.map (imE f), Low e.2.1 ∧ Low e.2.2 := by
  intro e he
  obtain ⟨x, -, rfl⟩ := List.mem_map.1 he
  exact ⟨.val _, hf _⟩
end
end Go.Proofs.Ytilcpcpmkklobaa

/- law22: a disk that stops after some steps. -/
namespace Go.Proofs.Ytilcpcpmkklobaa
set_option linter.unusedSimpArgs false
set_option linter.unusedVariables false
set_option linter.unnecessarySimpa false
open Go.RowKit

/-- A disk's sectors and open writes, and nothing else. -/
def DM.base (D : DM) : DM := { D with dead := false, after := -1, steps := 0 }
theorem base_addW {D E : DM} (h : D.base = E.base) (i : Int) (s : Sec) : (addW D i s).base = (addW E i s).base := by
  obtain ⟨c, o, k, a, b, d⟩ := D
  obtain ⟨c', o', k', a', b', d'⟩ := E
  simp only [DM.base, DM.mk.injEq, and_true] at h
  obtain ⟨rfl, rfl, rfl⟩ := h
  unfold addW
  simp only
  split <;> rfl
theorem get_base {D E : DM} (h : D.base = E.base) (q : Int) : D.get q = E.get q := by
  show D.base.get q = E.base.get q
  rw [h]
theorem cell_base {D E : DM} (h : D.base = E.base) (q : Int) : D.cell q = E.cell q := by
  show D.base.cell q = E.base.cell q
  rw [h]
theorem OkD.base {n k : Nat} {D : DM} (h : OkD n k D) : OkD n k D.base := ⟨rfl, rfl, h.len, ⟨Int.le_refl _, by simp [DM.base]⟩, h.op, h.room⟩
theorem crashL_base (D : DM) (keep : List Int) : ∀ n, crashL D.base keep n = crashL D keep n
  | 0 => rfl
  | n + 1 => by
    rw [crashL, crashL, crashL_base D keep n]; rfl
theorem crash_base (D : DM) (keep : List Int) : D.base.crash keep = D.crash keep := by
  unfold DM.crash
  rw [crashL_base]; rfl

/-- What is there and what is open, put together. -/
def pour (no su : Int → Option Sec) (q : Int) : Option Sec := match no q with | some s => some s | none => su q
structure SI (n i : Nat) (D : DM) (su no : Int → Option Sec) : Prop where
  ok : OkD 16 i D.base
  dead : D.dead = decide (n < i)
  after : D.after = if i ≤ n then (n : Int) - i else 0
  steps : D.steps = (min i n : Nat)
  get : ∀ q : Nat, q < 16 → no q = if D.get q = [] then none else some (lastS (D.get q))
  cell : ∀ q : Nat, q < 16 → D.cell q = ⟨(su q).getD zeroSec, false⟩
variable {n i : Nat} {D : DM} {su no : Int → Option Sec}
theorem SI.len (h : SI n i D su no) : D.cells.length = 16 := h.ok.len
theorem SI.check (h : SI n i D su no) (hi : i ≤ n) {q : Int} (h0 : 0 ≤ q) (h1 : q < 16) : D.check q = 0 := by
  unfold DM.check
  rw [h.dead, decide_eq_false (by omega), if_neg (by simp), h.len, if_neg (by omega)]
theorem SI.check_down (h : SI n i D su no) (hi : n < i) (q : Int) : D.check q = 220 := by
  unfold DM.check
  rw [h.dead, decide_eq_true hi, if_pos rfl]
theorem SI.step (h : SI n i D su no) (hi : i < n) : D.step = (0, { D with steps := D.steps + 1, after := D.after - 1 }) := by
  have ha := h.after
  rw [if_pos (by omega)] at ha
  unfold DM.step
  rw [if_neg (by omega), if_pos (by omega)]
theorem SI.step_down (h : SI n i D su no) (hi : i = n) : D.step = (220, { D with dead := true }) := by
  have ha := h.after
  rw [if_pos (by omega)] at ha
  unfold DM.step
  rw [if_pos (by omega)]
theorem SI.sync_up (h : SI n i D su no) (hi : i < n) : D.sync.1 = 0 ∧ SI n (i + 1) D.sync.2 (pour no su) (fun _ => none) := by
  have e : D.sync = (0, DM.synced { D with steps := D.steps + 1, after := D.after - 1 }) := by
    unfold DM.sync
    rw [if_pos (h.check (by omega) (by omega) (by omega)), h.step hi, if_pos rfl]
  have eb : (DM.synced { D with steps := D.steps + 1, after := D.after - 1 }).base = D.base.sync.2.base := by
    rw [h.ok.sync (by decide)]; rfl
  have ha := h.after
  rw [if_pos (by omega)] at ha
  rw [e]
  refine ⟨rfl, by rw [eb]; exact (h.ok.sync_ok (by decide)).2.1.base, ?_, ?_, ?_, fun q hq => ?_, fun q hq => ?_⟩
  · show D.dead = _
    rw [h.dead, decide_eq_false (by omega), decide_eq_false (by omega)]
  · show D.after - 1 = _
    rw [if_pos (by omega)]; omega
  · show D.steps + 1 = _
    rw [h.steps]; omega
  · rw [get_base eb, get_find, (h.ok.sync_ok (by decide)).2.2.2]; rfl
  · rw [cell_base eb, sync_cell h.ok (by decide) hq]
    have e1 : D.base.get q = D.get q := rfl
    have e2 : D.base.cell q = D.cell q := rfl
    unfold pour
    rw [e1, e2, h.get q hq, h.cell q hq]
    by_cases c : D.get q = []
    · rw [if_pos c, if_pos c]
    · rw [if_neg c, if_neg c]; rfl
theorem SI.write_up (h : SI n i D su no) (hi : i < n) (hn : n ≤ 1000) {k : Nat} (hk : k < 16) (s : Sec) : (D.write k s).1 = 0 ∧ SI n (i + 1) (D.write k s).2 su (fun q => if q = k then some s else no q) := by
  have e : D.write k s = (0, addW { D with steps := D.steps + 1, after := D.after - 1 } k s) := by
    unfold DM.write
    rw [if_pos (h.check (by omega) (by omega) (by omega)), h.step hi, if_pos rfl]
  have eb : (addW { D with steps := D.steps + 1, after := D.after - 1 } k s).base = (addW D.base k s).base := base_addW (D := { D with steps := D.steps + 1, after := D.after - 1 }) (E := D.base) rfl _ _
  have ha := h.after
  rw [if_pos (by omega)] at ha
  obtain ⟨c1, c2, c3, c4⟩ := addW_cells { D with steps := D.steps + 1, after := D.after - 1 } k s
  obtain ⟨o1, o2⟩ := addW_op h.ok (i := (k : Int)) (by omega) (by omega) (by omega) s
  rw [e]
  refine ⟨rfl, ?_, ?_, ?_, ?_, fun q hq => ?_, fun q hq => ?_⟩
  · rw [eb]
    exact ⟨rfl, rfl, by rw [← h.ok.len]; exact congrArg List.length (addW_cells D.base k s).1, ⟨Int.le_refl _, by simp [DM.base]; omega⟩, o1, o2⟩
  · show (addW _ _ _).dead = _
    rw [c4]
    show D.dead = _
    rw [h.dead, decide_eq_false (by omega), decide_eq_false (by omega)]
  · show (addW _ _ _).after = _
    rw [c3, if_pos (by omega)]
    show D.after - 1 = _
    omega
  · show (addW _ _ _).steps = _
    rw [c2]
    show D.steps + 1 = _
    rw [h.steps]; omega
  · rw [get_base eb, get_addW h.ok]
    have e1 : D.base.get q = D.get q := rfl
    have e2 : D.base.get k = D.get k := rfl
    rw [e1, e2, h.get q hq]
    by_cases c : (q : Int) = k
    · rw [if_pos c, if_pos c, if_neg (by simp), lastS_snoc]
    · rw [if_neg c, if_neg c]
  · rw [cell_base eb]
    have := (addW_cells D.base k s).1
    unfold DM.cell
    rw [this]
    exact h.cell q hq
def stopD (n i : Nat) (D : DM) : DM := if i = n then { D with dead := true } else D
theorem SI.stop (h : SI n i D su no) (hi : n ≤ i) : SI n (i + 1) (stopD n i D) su no := by
  unfold stopD
  have hb : (if i = n then { D with dead := true } else D).base = D.base := by split <;> rfl
  refine ⟨by rw [hb]; exact h.ok.mono (by omega), ?_, ?_, ?_, fun q hq => by rw [get_base hb]; exact h.get q hq, fun q hq => by rw [cell_base hb]; exact h.cell q hq⟩
  · by_cases c : i = n
    · rw [if_pos c, decide_eq_true (show n < i + 1 by omega)]
    · rw [if_neg c, h.dead, decide_eq_true (show n < i by omega), decide_eq_true (show n < i + 1 by omega)]
  · have ha := h.after
    by_cases c : i = n
    · rw [if_pos c]
      rw [if_pos (by omega)] at ha
      show D.after = if i + 1 ≤ n then _ else 0
      rw [if_neg (show ¬ (i + 1 ≤ n) by omega)]
      omega
    · rw [if_neg c]
      rw [if_neg (by omega)] at ha
      rw [if_neg (show ¬ (i + 1 ≤ n) by omega)]
      exact ha
  · have hs := h.steps
    by_cases c : i = n
    · rw [if_pos c]
      show D.steps = _
      omega
    · rw [if_neg c]; omega
theorem SI.sync_down (h : SI n i D su no) (hi : n ≤ i) : D.sync = (220, stopD n i D) := by
  unfold DM.sync
  by_cases c : i = n
  · rw [if_pos (h.check (by omega) (by omega) (by omega)), h.step_down c]; unfold stopD; rw [if_pos c]; rfl
  · rw [h.check_down (by omega), if_neg (by decide)]; unfold stopD; rw [if_neg c]
theorem SI.write_down (h : SI n i D su no) (hi : n ≤ i) {k : Nat} (hk : k < 16) (s : Sec) : D.write k s = (220, stopD n i D) := by
  unfold DM.write
  by_cases c : i = n
  · rw [if_pos (h.check (by omega) (by omega) (by omega)), h.step_down c]; unfold stopD; rw [if_pos c]; rfl
  · rw [h.check_down (by omega), if_neg (by decide)]; unfold stopD; rw [if_neg c]
theorem SI.read (h : SI n i D su no) {q : Nat} (hq : q < 16) : (D.read q).2 = if n < i then 220 else 0 := by
  unfold DM.read
  by_cases c : n < i
  · rw [h.check_down c, if_neg (by decide), if_pos c]
  · rw [h.check (by omega) (by omega) (by omega), if_pos rfl, if_neg c]
    split
    · rfl
    · rw [h.cell q hq]; rfl
theorem SI.crash_read (h : SI n i D su no) (hi : i ≤ 1000) (keep : List Int) {q : Nat} (hq : q < 16) (hno : no q = none) : (D.crash keep).read q = ((su q).getD zeroSec, 0) := by
  rw [← crash_base]
  have hc := crash_cell h.ok (by omega) keep hq
  have hr := (crash_ok h.ok keep).read (q := (q : Int)) (by omega) (by omega)
  rw [crash_get, if_neg (by simp)] at hr
  have hg := h.get q hq
  rw [hno] at hg
  have hge : D.base.get q = [] := by
    show D.get q = []
    by_cases c : D.get q = []
    · exact c
    · rw [if_neg c] at hg; cases hg
  rw [if_pos hge] at hc
  have e2 : D.base.cell q = D.cell q := rfl
  rw [hr, hc, e2, h.cell q hq]; rfl
theorem SI.start (hn : n ≤ 1000) : SI n 0 { newD 16 with after := maxI n (-1) } (fun _ => none) (fun _ => none) := by
  refine ⟨(newD_ok 16).base, rfl, ?_, rfl, fun q hq => ?_, fun q hq => ?_⟩
  · show maxI n (-1) = _
    unfold maxI
    rw [if_neg (by omega), if_pos (by omega)]; omega
  · have : DM.get { newD 16 with after := maxI n (-1) } q = [] := by rw [get_find]; rfl
    rw [this]; rfl
  · show (List.replicate 16 (⟨zeroSec, false⟩ : DCell)).getD _ default = _
    rw [Int.toNat_natCast, getD_rep _ _ _ _ hq]; rfl
/-- The calls of the law, one after the other. -/
def opS (D : DM) (x : ROp) : Int × DM := if x.kind.tmod 3 = 0 then D.sync else D.write (kAt x.a) (fillB x.b)
def stD (n : Nat) (l : List ROp) : Nat → DM
  | 0 => { newD 16 with after := maxI n (-1) }
  | i + 1 => (opS (stD n l i) (l.getD i default)).2
theorem SI.op (h : SI n i D su no) (hn : n ≤ 1000) (x : ROp) : (opS D x).1 = (if i < n then 0 else 220) ∧ SI n (i + 1) (opS D x).2 (if i < n ∧ x.kind.tmod 3 = 0 then (pour no su) else su) (if i < n then (if x.kind.tmod 3 = 0 then (fun _ => none) else (fun q => if q = kAt x.a then some (fillB x.b) else no q)) else no) := by
  unfold opS
  have hk := kAt_lt x.a
  by_cases hi : i < n
  · by_cases c : x.kind.tmod 3 = 0
    · rw [if_pos c, if_pos hi, if_pos ⟨hi, c⟩, if_pos hi, if_pos c]
      exact h.sync_up hi
    · rw [if_neg c, if_pos hi, if_neg (fun h : i < n ∧ _ => c h.2), if_pos hi, if_neg c]
      exact h.write_up hi hn hk _
  · have hst := h.stop (by omega)
    by_cases c : x.kind.tmod 3 = 0
    · rw [if_pos c, h.sync_down (by omega), if_neg hi, if_neg (fun h => hi h.1), if_neg hi]
      exact ⟨rfl, hst⟩
    · rw [if_neg c, h.write_down (by omega) hk, if_neg hi, if_neg (fun h => hi h.1), if_neg hi]
      exact ⟨rfl, hst⟩
end Go.Proofs.Ytilcpcpmkklobaa

/- law22: the disk and the specification's disk do the same. -/
namespace Go.Proofs.Ytilcpcpmkklobaa
set_option linter.unusedSimpArgs false
set_option linter.unusedVariables false
set_option linter.unnecessarySimpa false
open Go.RowKit

/-- The disk is as the specification's disk. -/
structure RelD (k : Nat) (D : DM) (R : RM) : Prop where
  len : D.cells.length = R.cells.length
  ok : OkD D.cells.length k D.base
  cell : ∀ q : Nat, q < D.cells.length → D.cell q = ⟨(R.cell q).s, (R.cell q).bad⟩
  get : ∀ q : Nat, q < D.cells.length → D.get q = (R.cell q).opn
  steps : D.steps = R.steps
  after : D.after = R.after
  dead : D.dead = R.dead
  bad : ∀ q : Nat, q < D.cells.length → (R.cell q).bad = true → (R.cell q).s = zeroSec
  st : 0 ≤ D.steps ∧ D.steps ≤ k
  af : -1 ≤ D.after ∧ D.after ≤ 9223372036854775807
variable {k : Nat} {D : DM} {R : RM}
theorem RelD.mono {k' : Nat} (h : RelD k D R) (hk : k ≤ k') : RelD k' D R := ⟨h.len, h.ok.mono hk, h.cell, h.get, h.steps, h.after, h.dead, h.bad, ⟨h.st.1, by have := h.st.2; omega⟩, h.af⟩
theorem RelD.check (h : RelD k D R) (i : Int) : D.check i = R.check i := by
  unfold DM.check RM.check
  rw [h.dead, h.len]
theorem RelD.step (h : RelD k D R) : D.step.1 = (if R.step.1 = true then 0 else 220) ∧ D.step.2.base = D.base ∧ R.step.2.cells = R.cells ∧ RelD (k + 1) D.step.2 R.step.2 := by
  have ha := h.after
  have hb := h.af
  have hc := h.st
  by_cases c : D.after = 0
  · have e1 : D.step = (220, { D with dead := true }) := by unfold DM.step; rw [if_pos c]
    have e2 : R.step = (false, { R with dead := true }) := by unfold RM.step; rw [if_pos (by omega)]
    rw [e1, e2]
    exact ⟨rfl, rfl, rfl, h.len, h.ok.mono (Nat.le_succ k), h.cell, h.get, h.steps, h.after, rfl, h.bad, ⟨hc.1, by show D.steps ≤ _; omega⟩, h.af⟩
  · have e1 : D.step = (0, { D with steps := D.steps + 1, after := if 0 < D.after then D.after - 1 else D.after }) := by unfold DM.step; rw [if_neg c]
    have e2 : R.step = (true, { R with steps := R.steps + 1, after := if 0 < R.after then R.after - 1 else R.after }) := by unfold RM.step; rw [if_neg (by omega)]
    rw [e1, e2]
    refine ⟨rfl, rfl, rfl, h.len, h.ok.mono (Nat.le_succ k), h.cell, h.get, ?_, ?_, h.dead, h.bad, ⟨?_, ?_⟩, ?_⟩
    · show D.steps + 1 = R.steps + 1
      rw [h.steps]
    · show (if 0 < D.after then D.after - 1 else D.after) = (if 0 < R.after then R.after - 1 else R.after)
      rw [ha]
    · show 0 ≤ D.steps + 1
      omega
    · show D.steps + 1 ≤ _
      omega
    · show -1 ≤ (if 0 < D.after then D.after - 1 else D.after) ∧ (if 0 < D.after then D.after - 1 else D.after) ≤ _
      split <;> omega
theorem RelD.read (h : RelD k D R) (i : Int) : D.read i = R.read i := by
  unfold DM.read RM.read
  rw [h.check]
  by_cases c : R.check i = 0
  · rw [if_pos c, if_pos c]
    obtain ⟨-, h0, h1⟩ := rcheck0 c
    have hq : i.toNat < D.cells.length := by rw [h.len]; omega
    have e : ((i.toNat : Nat) : Int) = i := by omega
    have hg := h.get _ hq
    have hc := h.cell _ hq
    rw [e] at hg hc
    rw [hg, hc]
  · rw [if_neg c, if_neg c]
theorem rcell_setc {R : RM} {i q : Nat} {c : RCell} (hi : i < R.cells.length) : (R.setc i c).cell q = if q = i then c else R.cell q := by
  show (R.cells.set (i : Int).toNat c).getD (q : Int).toNat default = if q = i then c else R.cells.getD (q : Int).toNat default
  rw [Int.toNat_natCast, Int.toNat_natCast, gset hi]
theorem RelD.write (h : RelD k D R) (hk : k < 1000000) (i : Int) (s : Sec) : (D.write i s).1 = (R.write i s).1 ∧ RelD (k + 1) (D.write i s).2 (R.write i s).2 := by
  obtain ⟨s1, s2, s3, s4⟩ := h.step
  unfold DM.write RM.write
  rw [h.check]
  by_cases c : R.check i = 0
  · rw [if_pos c, if_pos c]
    obtain ⟨-, h0, h1⟩ := rcheck0 c
    obtain ⟨j, rfl⟩ : ∃ j : Nat, i = j := ⟨i.toNat, by omega⟩
    have hj : j < D.cells.length := by rw [h.len]; omega
    by_cases c2 : R.step.1 = true
    · rw [if_pos c2] at s1
      rw [if_pos s1, if_pos c2]
      have eb : (addW D.step.2 j s).base = (addW D.base j s).base := base_addW (by rw [s2]; rfl) _ _
      obtain ⟨a1, a2, a3, a4⟩ := addW_cells D.step.2 j s
      obtain ⟨o1, o2⟩ := addW_op h.ok (i := (j : Int)) (by omega) (by omega) (by omega) s
      have hcl : D.step.2.cells = D.cells := by have := congrArg DM.cells s2; exact this
      have hl : (addW D.step.2 j s).cells.length = D.cells.length := by rw [a1, hcl]
      have hjr : j < R.step.2.cells.length := by rw [s3]; omega
      have hrc : ∀ q : Nat, R.step.2.cell q = R.cell q := fun q => by unfold RM.cell; rw [s3]
      have lR : (R.step.2.setc j ⟨(R.cell j).s, (R.cell j).bad, (R.cell j).opn ++ [s]⟩).cells.length = R.cells.length := by
        show (R.step.2.cells.set _ _).length = _
        rw [List.length_set, s3]
      refine ⟨rfl, by rw [hl, lR]; exact h.len, ?_, fun q hq => ?_, fun q hq => ?_, ?_, ?_, ?_, fun q hq => ?_, ?_, ?_⟩
      · rw [hl, eb]
        exact ⟨rfl, rfl, by show (addW D.base j s).cells.length = _; rw [(addW_cells D.base j s).1]; rfl, ⟨Int.le_refl _, by simp [DM.base]; omega⟩, o1, o2⟩
      · rw [hl] at hq
        rw [cell_base eb, rcell_setc hjr, hrc]
        have e : (addW D.base j s).cell q = D.cell q := by unfold DM.cell; rw [(addW_cells D.base j s).1]; rfl
        rw [e, h.cell q hq]
        by_cases e2 : q = j
        · subst e2; rw [if_pos rfl]
        · rw [if_neg e2]
      · rw [hl] at hq
        rw [get_base eb, get_addW h.ok, rcell_setc hjr, hrc]
        have e1 : D.base.get q = D.get q := rfl
        have e2 : D.base.get j = D.get j := rfl
        rw [e1, e2, h.get q hq, h.get j hj]
        by_cases e2 : q = j
        · subst e2; rw [if_pos rfl, if_pos rfl]
        · rw [if_neg (by omega), if_neg e2]
      · rw [a2]; exact s4.steps
      · rw [a3]; exact s4.after
      · rw [a4]; exact s4.dead
      · rw [hl] at hq
        rw [rcell_setc hjr, hrc]
        by_cases e2 : q = j
        · subst e2; rw [if_pos rfl]; exact h.bad q hq
        · rw [if_neg e2]; exact h.bad q hq
      · rw [a2]; exact s4.st
      · rw [a3]; exact s4.af
    · rw [if_neg c2] at s1
      rw [if_neg (by rw [s1]; decide), if_neg c2]
      exact ⟨s1, s4⟩
  · rw [if_neg c, if_neg c]
    exact ⟨rfl, h.mono (Nat.le_succ k)⟩
theorem RelD.sync (h : RelD k D R) (hn : 0 < D.cells.length) : D.sync.1 = R.sync.1 ∧ RelD (k + 1) D.sync.2 R.sync.2 := by
  obtain ⟨s1, s2, s3, s4⟩ := h.step
  unfold DM.sync RM.sync
  have hc : D.check 0 = if R.dead = true then 220 else 0 := by
    unfold DM.check
    rw [h.dead]
    by_cases c : R.dead = true
    · rw [if_pos c, if_pos c]
    · rw [if_neg c, if_neg c, if_neg (by omega)]
  by_cases c : R.dead = true
  · rw [if_pos c] at hc
    rw [hc, if_neg (by decide), if_pos c]
    exact ⟨rfl, h.mono (Nat.le_succ k)⟩
  · rw [if_neg c] at hc
    rw [if_pos hc, if_neg c]
    by_cases c2 : R.step.1 = true
    · rw [if_pos c2] at s1
      rw [if_pos s1, if_pos c2]
      have eb : D.step.2.synced.base = D.base.sync.2.base := by
        rw [h.ok.sync hn]
        have e1 : D.step.2.cells = D.cells := by have := congrArg DM.cells s2; exact this
        have e2 : D.step.2.op = D.op := by have := congrArg DM.op s2; exact this
        have e3 : D.step.2.clock = D.clock := by have := congrArg DM.clock s2; exact this
        unfold DM.synced DM.base
        simp only [e1, e2, e3]
      have hl : D.step.2.synced.cells.length = D.cells.length := by
        show (synced D.step.2.cells D.step.2.op).length = _
        rw [synced_len]
        have := congrArg (fun d => d.cells.length) s2
        exact this
      have hrc : ∀ q : Nat, q < D.cells.length → R.step.2.synced.cell q = rsyn (R.cell q) := fun q hq => by
        show (R.step.2.cells.map rsyn).getD (q : Int).toNat default = rsyn (R.cells.getD (q : Int).toNat default)
        have hq' : q < R.cells.length := by rw [← h.len]; exact hq
        rw [s3, Int.toNat_natCast, List.getD_eq_getElem?_getD, List.getD_eq_getElem?_getD, List.getElem?_map, List.getElem?_eq_getElem hq']; rfl
      refine ⟨rfl, by rw [hl]; show _ = (R.step.2.cells.map rsyn).length; rw [List.length_map, s3]; exact h.len, ?_, fun q hq => ?_, fun q hq => ?_, s4.steps, s4.after, s4.dead, fun q hq => ?_, s4.st, s4.af⟩
      · rw [hl, eb]; exact (h.ok.sync_ok hn).2.1.base
      · rw [hl] at hq
        rw [cell_base eb, sync_cell h.ok hn hq, hrc q hq]
        have e1 : D.base.get q = D.get q := rfl
        have e2 : D.base.cell q = D.cell q := rfl
        rw [e1, e2, h.get q hq, h.cell q hq]
        unfold rsyn
        by_cases e3 : (R.cell q).opn = []
        · rw [if_pos e3, if_pos e3]
        · rw [if_neg e3, if_neg e3]
      · rw [hl] at hq
        rw [get_base eb, get_find, (h.ok.sync_ok hn).2.2.2, hrc q hq]
        unfold rsyn
        by_cases e3 : (R.cell q).opn = []
        · rw [if_pos e3, e3]; rfl
        · rw [if_neg e3]; rfl
      · rw [hl] at hq
        rw [hrc q hq]
        unfold rsyn
        by_cases e3 : (R.cell q).opn = []
        · rw [if_pos e3]; exact h.bad q hq
        · rw [if_neg e3]; intro hb; cases hb
    · rw [if_neg c2] at s1
      rw [if_neg (by rw [s1]; decide), if_neg c2]
      exact ⟨s1, s4⟩
end Go.Proofs.Ytilcpcpmkklobaa

/- law22: the disk and the specification's disk do the same: the rest. -/
namespace Go.Proofs.Ytilcpcpmkklobaa
set_option linter.unusedSimpArgs false
set_option linter.unusedVariables false
set_option linter.unnecessarySimpa false
open Go.RowKit

variable {k : Nat} {D : DM} {R : RM}
theorem RelD.setc (h : RelD k D R) {j : Nat} (hj : j < D.cells.length) {c : DCell} {r : RCell} (hc : c = ⟨r.s, r.bad⟩) (ho : r.opn = (R.cell j).opn) (hb : r.bad = true → r.s = zeroSec) : RelD k (D.setc j c) (R.setc j r) := by
  have hl : (D.setc j c).cells.length = D.cells.length := List.length_set
  have hjr : j < R.cells.length := by rw [← h.len]; exact hj
  refine ⟨by rw [hl]; show _ = (R.cells.set _ _).length; rw [List.length_set]; exact h.len, ?_, fun q hq => ?_, fun q hq => ?_, h.steps, h.after, h.dead, fun q hq => ?_, h.st, h.af⟩
  · rw [hl]
    exact ⟨rfl, rfl, hl, ⟨Int.le_refl _, by simp [DM.base]⟩, h.ok.op, h.ok.room⟩
  · rw [hl] at hq
    rw [setc_cell hj, rcell_setc hjr, h.cell q hq]
    by_cases e : q = j
    · rw [if_pos e, if_pos e, hc]
    · rw [if_neg e, if_neg e]
  · rw [hl] at hq
    have e1 : (D.setc j c).get q = D.get q := rfl
    rw [e1, rcell_setc hjr, h.get q hq]
    by_cases e : q = j
    · rw [if_pos e, ho, e]
    · rw [if_neg e]
  · rw [hl] at hq
    rw [rcell_setc hjr]
    by_cases e : q = j
    · rw [if_pos e]; exact hb
    · rw [if_neg e]; exact h.bad q hq
theorem RelD.arm (h : RelD k D R) (n : Int) (hn : n ≤ 9223372036854775807) : RelD k { D with after := maxI n (-1) } { R with after := maxI n (-1) } :=
  ⟨h.len, h.ok, h.cell, h.get, h.steps, rfl, h.dead, h.bad, h.st, by show -1 ≤ maxI n (-1) ∧ maxI n (-1) ≤ _; unfold maxI; split <;> omega⟩
theorem RelD.rot (h : RelD k D R) (i : Int) : RelD k (D.rot i) (R.rot i) := by
  unfold DM.rot RM.rot
  rw [h.check]
  by_cases c : R.check i = 0
  · rw [if_pos c, if_pos c]
    obtain ⟨-, h0, h1⟩ := rcheck0 c
    obtain ⟨j, rfl⟩ : ∃ j : Nat, i = j := ⟨i.toNat, by omega⟩
    exact h.setc (by rw [h.len]; omega) rfl rfl (fun _ => rfl)
  · rw [if_neg c, if_neg c]; exact h
theorem setc_self {D : DM} {j : Nat} (hj : j < D.cells.length) : D.setc j (D.cell j) = D := by
  unfold DM.setc DM.cell
  rw [Int.toNat_natCast, List.getD_eq_getElem?_getD, List.getElem?_eq_getElem hj]
  show ({ D with cells := D.cells.set j D.cells[j] } : DM) = D
  rw [List.set_getElem_self]
theorem RelD.flip (h : RelD k D R) (i b : Int) : (D.flip i b).1 = (R.flip i b).1 ∧ RelD k (D.flip i b).2 (R.flip i b).2 := by
  unfold DM.flip RM.flip
  rw [h.check]
  by_cases c : R.check i = 0
  · rw [if_pos c, if_pos c]
    obtain ⟨-, h0, h1⟩ := rcheck0 c
    obtain ⟨j, rfl⟩ : ∃ j : Nat, i = j := ⟨i.toNat, by omega⟩
    have hj : j < D.cells.length := by rw [h.len]; omega
    by_cases hb : b < 0 ∨ 512 ≤ b
    · rw [if_pos hb, if_pos hb]; exact ⟨rfl, h⟩
    · rw [if_neg hb, if_neg hb]
      refine ⟨rfl, ?_⟩
      have hc := h.cell j hj
      by_cases hbad : (R.cell j).bad = true
      · rw [if_pos hbad]
        have hz := h.bad j hj hbad
        have e : (D.cell j).flip b = D.cell j := by
          unfold DCell.flip
          rw [if_pos (by unfold DCell.spoilt; rw [hc, hz, hbad]; rfl)]
        show RelD k (D.setc j ((D.cell j).flip b)) R
        rw [e, setc_self hj]; exact h
      · rw [if_neg hbad]
        have hbf : (R.cell j).bad = false := by simpa using hbad
        have e : (D.cell j).flip b = ⟨flipSec (R.cell j).s b, (R.cell j).bad⟩ := by
          unfold DCell.flip
          rw [if_neg (by unfold DCell.spoilt; rw [hc, hbf]; simp), hc]
        show RelD k (D.setc j ((D.cell j).flip b)) _
        rw [e]
        exact h.setc hj rfl rfl (fun hb => by rw [hbf] at hb; cases hb)
  · rw [if_neg c, if_neg c]
    exact ⟨rfl, h⟩
/-- The numbers with open writes, one after the other. -/
def opnP (R : RM) (q : Nat) : Bool := decide ((R.cell q).opn ≠ [])
def keysF (R : RM) (n : Nat) : List Int := ((List.range n).filter (opnP R)).map fun q : Nat => (q : Int)
theorem RelD.keys (h : RelD k D R) : D.keys = keysF R D.cells.length := by
  have hm : ∀ x : Int, x ∈ D.keys ↔ x ∈ keysF R D.cells.length := by
    intro x
    have h1 : x ∈ D.keys ↔ D.get x ≠ [] := get_key h.ok x
    rw [h1]
    constructor
    · intro hx
      have hk := (get_key h.ok x).2 hx
      rw [keys_mem] at hk
      obtain ⟨e, he, rfl⟩ := List.mem_map.1 hk
      obtain ⟨q0, q1, -⟩ := h.ok.op.2 e he
      refine List.mem_map.2 ⟨e.2.1.toNat, List.mem_filter.2 ⟨List.mem_range.2 (by omega), ?_⟩, by omega⟩
      have hg := h.get e.2.1.toNat (by omega)
      rw [show ((e.2.1.toNat : Nat) : Int) = e.2.1 by omega] at hg
      unfold opnP
      rw [show ((e.2.1.toNat : Nat) : Int) = e.2.1 by omega, ← hg]
      exact decide_eq_true hx
    · intro hx
      obtain ⟨q, hq, rfl⟩ := List.mem_map.1 hx
      obtain ⟨q1, q2⟩ := List.mem_filter.1 hq
      rw [h.get q (List.mem_range.1 q1)]
      exact of_decide_eq_true q2
  have hs1 : D.keys.Pairwise (fun a b => a ≤ b) := sortI_sorted _
  have hp2 : (keysF R D.cells.length).Pairwise (fun a b => a < b) := by
    unfold keysF
    rw [List.pairwise_map]
    exact ((List.pairwise_lt_range (n := D.cells.length)).filter _).imp (fun hab => by omega)
  have hn1 : D.keys.Nodup := (sortI_perm _).nodup_iff.2 h.ok.op.1
  have hn2 : (keysF R D.cells.length).Nodup := hp2.imp (fun hab => by omega)
  exact List.Perm.eq_of_pairwise (fun a b _ _ h1 h2 => by omega) hs1 (hp2.imp (fun hab => by omega)) ((List.perm_ext_iff_of_nodup hn1 hn2).2 hm)
theorem keysF_succ (R : RM) (n : Nat) : keysF R (n + 1) = if (R.cell n).opn = [] then keysF R n else keysF R n ++ [(n : Int)] := by
  unfold keysF
  rw [List.range_succ, List.filter_append, List.map_append]
  by_cases c : (R.cell n).opn = []
  · rw [if_pos c]
    have : opnP R n = false := decide_eq_false (fun h => h c)
    simp [this]
  · rw [if_neg c]
    have : opnP R n = true := decide_eq_true c
    simp [this]
theorem RelD.openL (h : RelD k D R) : D.openL = R.openL := by
  unfold DM.openL RM.openL
  rw [h.keys, ← h.len]
  have : ∀ n, n ≤ D.cells.length → ((keysF R n).flatMap fun i => List.replicate (D.get i).length i) = ropenN R.cells n := by
    intro n
    induction n with
    | zero => intro _; rfl
    | succ n ih =>
      intro hn
      have ih := ih (by omega)
      have hg := h.get n (by omega)
      have hr : R.cells.getD n default = R.cell n := by unfold RM.cell; rw [Int.toNat_natCast]
      rw [keysF_succ]
      show _ = ropenN R.cells n ++ List.replicate (R.cells.getD n default).opn.length (n : Int)
      rw [hr]
      by_cases c : (R.cell n).opn = []
      · rw [if_pos c, ih, c]; simp
      · rw [if_neg c, List.flatMap_append, ih]
        simp [hg]
  exact this _ (Nat.le_refl _)
theorem kept_found (c : RCell) (x : Int) (hb : c.bad = true → c.s = zeroSec) : found ⟨c.s, c.bad⟩ c.opn x = kept c x := by
  unfold found kept
  by_cases c0 : foundR c.opn x = 0
  · rw [if_pos c0, if_pos c0]
  · rw [if_neg c0, if_neg c0]
    by_cases c1 : foundR c.opn x ≤ c.opn.length
    · rw [if_pos c1, if_pos c1]
    · rw [if_neg c1, if_neg c1]
      by_cases c2 : foundR c.opn x = c.opn.length + 1
      · rw [if_pos c2, if_pos c2]
      · rw [if_neg c2, if_neg c2]
        have e : beforeS ⟨c.s, c.bad⟩ c.opn = (if 1 < c.opn.length then c.opn.getD (c.opn.length - 2) default else if c.bad then zeroSec else c.s) := by
          unfold beforeS
          by_cases c3 : 1 < c.opn.length
          · rw [if_pos c3, if_pos c3]
          · rw [if_neg c3, if_neg c3]
            by_cases c4 : c.bad = true
            · rw [if_pos c4]; exact hb c4
            · rw [if_neg c4]
        rw [← e]
        generalize beforeS ⟨c.s, c.bad⟩ c.opn = o
        by_cases c5 : o.1 = (lastS c.opn).1
        · rw [if_pos c5]
          have : mixS (lastS c.opn) o = lastS c.opn := by
            apply Subtype.ext
            show (lastS c.opn).1.take 32 ++ o.1.drop 32 = _
            rw [c5, List.take_append_drop]
          rw [this]
        · rw [if_neg c5]
/-- Where a number with open writes stands. -/
def cntP (R : RM) (q : Nat) : Nat := ((List.range q).filter (opnP R)).length
theorem cntP_succ (R : RM) (q : Nat) : cntP R (q + 1) = if (R.cell q).opn = [] then cntP R q else cntP R q + 1 := by
  unfold cntP
  rw [List.range_succ, List.filter_append]
  by_cases c : (R.cell q).opn = []
  · rw [if_pos c]
    have : opnP R q = false := decide_eq_false (fun h => h c)
    simp [this]
  · rw [if_neg c]
    have : opnP R q = true := decide_eq_true c
    simp [this]
theorem keysF_len (R : RM) (n : Nat) : (keysF R n).length = cntP R n := by unfold keysF cntP; rw [List.length_map]
theorem keysF_at (R : RM) {q : Nat} (hq : (R.cell q).opn ≠ []) : ∀ {n : Nat}, q < n → (keysF R n)[cntP R q]? = some (q : Int)
  | 0, h => by omega
  | n + 1, h => by
    rw [keysF_succ]
    by_cases e : q = n
    · subst e
      rw [if_neg hq, List.getElem?_append_right (by rw [keysF_len]; exact Nat.le_refl _), keysF_len, Nat.sub_self]; rfl
    · have ih := keysF_at R hq (n := n) (by omega)
      by_cases c : (R.cell n).opn = []
      · rw [if_pos c]; exact ih
      · rw [if_neg c, List.getElem?_append_left (List.getElem?_eq_some_iff.1 ih).1]; exact ih
/-- What a failure leaves of a sector with open writes, by its place. -/
theorem crashL_key {n : Nat} {D : DM} (h : OkD n k D.base) (keep : List Int) {j : Nat} (hj : j < D.keys.length) : ∀ m, j < m → m ≤ D.keys.length → (crashL D keep m).getD (D.keys.getD j default).toNat default = found (D.cell (D.keys.getD j default)) (D.get (D.keys.getD j default)) (keepAt keep j)
  | 0, h1, _ => by omega
  | m + 1, h1, h2 => by
    have hop : opOK D.cells.length D.op := by
      have : D.cells.length = n := h.len
      rw [this]; exact h.op
    obtain ⟨k1, k2, -⟩ := keys_at hop (n := m) (by omega)
    obtain ⟨k3, k4, -⟩ := keys_at hop hj
    rw [crashL, gset (by rw [crashL_len]; omega)]
    by_cases e : j = m
    · subst e
      rw [if_pos rfl]
    · have hn : D.keys.Nodup := (sortI_perm _).nodup_iff.2 hop.1
      have hne : D.keys.getD j default ≠ D.keys.getD m default := by
        intro e2
        rw [List.getD_eq_getElem?_getD, List.getD_eq_getElem?_getD, List.getElem?_eq_getElem hj, List.getElem?_eq_getElem (show m < D.keys.length by omega)] at e2
        exact e ((List.getElem_inj hn).1 e2)
      rw [if_neg (by omega)]
      exact crashL_key h keep hj m (by omega) (by omega)
theorem rcrN_get (R : RM) (keep : List Int) : ∀ i, i ≤ R.cells.length → (rcrN R.cells keep i).2 = cntP R i ∧ ∀ q, q < i → (rcrN R.cells keep i).1.getD q default = if (R.cell q).opn = [] then R.cell q else toR (kept (R.cell q) (keepAt keep (cntP R q)))
  | 0, _ => ⟨rfl, fun q hq => by omega⟩
  | i + 1, hi => by
    obtain ⟨h1, h2⟩ := rcrN_get R keep i (by omega)
    have hl := (rcrN_len R.cells keep i).1
    have hr : R.cells.getD i default = R.cell i := by unfold RM.cell; rw [Int.toNat_natCast]
    unfold rcrN
    rw [hr, h1, cntP_succ]
    by_cases c : (R.cell i).opn = []
    · rw [if_pos c, if_pos c]
      refine ⟨rfl, fun q hq => ?_⟩
      show ((rcrN R.cells keep i).1.set i (R.cell i)).getD q default = _
      rw [gset (by omega)]
      by_cases e : q = i
      · subst e; rw [if_pos rfl, if_pos c]
      · rw [if_neg e]; exact h2 q (by omega)
    · rw [if_neg c, if_neg c]
      refine ⟨rfl, fun q hq => ?_⟩
      show ((rcrN R.cells keep i).1.set i (toR (kept (R.cell i) (keepAt keep (cntP R i))))).getD q default = _
      rw [gset (by omega)]
      by_cases e : q = i
      · subst e; rw [if_pos rfl, if_neg c]
      · rw [if_neg e]; exact h2 q (by omega)
theorem kept_bad (c : RCell) (x : Int) (hb : c.bad = true → c.s = zeroSec) : (kept c x).bad = true → (kept c x).s = zeroSec := by
  unfold kept
  split
  · exact hb
  · split
    · intro h; cases h
    · split
      · intro _; rfl
      · intro h; cases h
theorem RelD.crash (h : RelD k D R) (hk : k ≤ 1000000000) (keep : List Int) : RelD 0 (D.crash keep) (R.crash keep) := by
  have hcl : (D.crash keep).cells.length = D.cells.length := crashL_len D keep _
  have hrl : (R.crash keep).cells.length = R.cells.length := (rcrN_len R.cells keep _).1
  have hrc : ∀ q : Nat, q < D.cells.length → (R.crash keep).cell q = if (R.cell q).opn = [] then R.cell q else toR (kept (R.cell q) (keepAt keep (cntP R q))) := fun q hq => by
    show (rcrN R.cells keep R.cells.length).1.getD (q : Int).toNat default = _
    rw [Int.toNat_natCast]
    exact (rcrN_get R keep _ (Nat.le_refl _)).2 q (by rw [← h.len]; exact hq)
  refine ⟨by rw [hcl, hrl]; exact h.len, ?_, fun q hq => ?_, fun q hq => ?_, rfl, rfl, rfl, fun q hq => ?_, ⟨Int.le_refl _, Int.le_refl _⟩, by show (-1 : Int) ≤ -1 ∧ (-1 : Int) ≤ _; decide⟩
  · rw [hcl, ← crash_base]
    exact (crash_ok h.ok keep).base
  · rw [hcl] at hq
    have hc := crash_cell h.ok hk keep hq
    rw [crash_base] at hc
    rw [hrc q hq]
    have e1 : D.base.get q = D.get q := rfl
    have e2 : D.base.cell q = D.cell q := rfl
    rw [e1, e2, h.get q hq, h.cell q hq] at hc
    by_cases c : (R.cell q).opn = []
    · rw [if_pos c] at hc ⊢
      exact hc
    · rw [if_neg c]
      have hat := keysF_at R c hq
      rw [← h.keys] at hat
      have hj := (List.getElem?_eq_some_iff.1 hat).1
      have hgd : D.keys.getD (cntP R q) default = (q : Int) := by rw [List.getD_eq_getElem?_getD, hat]; rfl
      have hcr := crashL_key h.ok keep hj D.keys.length hj (Nat.le_refl _)
      rw [hgd, Int.toNat_natCast, h.get q hq, h.cell q hq, kept_found _ _ (h.bad q hq)] at hcr
      show (crashL D keep D.keys.length).getD (q : Int).toNat default = _
      rw [Int.toNat_natCast, hcr]; rfl
  · rw [hcl] at hq
    rw [crash_get, hrc q hq]
    by_cases c : (R.cell q).opn = []
    · rw [if_pos c, c]
    · rw [if_neg c]; rfl
  · rw [hcl] at hq
    rw [hrc q hq]
    by_cases c : (R.cell q).opn = []
    · rw [if_pos c]; exact h.bad q hq
    · rw [if_neg c]; exact kept_bad _ _ (h.bad q hq)
theorem newR_cell {n q : Nat} (hq : q < n) : (newR n).cell q = zeroR := by
  show (List.replicate n zeroR).getD (q : Int).toNat default = _
  rw [Int.toNat_natCast, getD_rep _ _ _ _ hq]
theorem RelD.start (n : Nat) (hn : 0 < n) : RelD 0 (newD n) (newR n) := by
  have hl : (newD n).cells.length = n := List.length_replicate
  refine ⟨by rw [hl]; exact List.length_replicate.symm, by rw [hl]; exact (newD_ok n).base, fun q hq => ?_, fun q hq => ?_, rfl, rfl, rfl, fun q hq => ?_, ⟨Int.le_refl _, Int.le_refl _⟩, by show (-1 : Int) ≤ -1 ∧ (-1 : Int) ≤ _; decide⟩
  · rw [hl] at hq
    rw [newR_cell hq]
    show (List.replicate n (⟨zeroSec, false⟩ : DCell)).getD (q : Int).toNat default = _
    rw [Int.toNat_natCast, getD_rep _ _ _ _ hq]; rfl
  · rw [hl] at hq
    rw [newR_cell hq, get_find]; rfl
  · rw [hl] at hq
    rw [newR_cell hq]
    intro hb; cases hb
end Go.Proofs.Ytilcpcpmkklobaa

/- Regions that draw their order, where an operation is told what it does not look at. -/
namespace Go.Proofs.Ytilcpcpmkklobaa
set_option linter.unusedSimpArgs false
set_option linter.unusedVariables false
set_option linter.unnecessarySimpa false
open Go.RowKit

/-- What an operation may look at; some it is told not to. -/
def okF (env : Nat → Option Nat) (ban : Nat → Nat → Bool) (ops : List Oper) (base i id : Nat) : Bool := okD (clos ops) base ops.length i id && ((match (ops[i]?).bind (tgtOf env base ops) with | some k => Nat.beq id k | none => true) && !ban i id)
def sepF (env : Nat → Option Nat) (ban : Nat → Nat → Bool) (base : Nat) (ops : List Oper) (iy ix : Nat) (y x : Oper) : Bool :=
  (match tgtOf env base ops y with | some k => !okF env ban ops base ix k | none => false) || (match tgtOf env base ops x with | some k => !okF env ban ops base iy k | none => false)
theorem sepF_ok {env : Nat → Option Nat} {ban : Nat → Nat → Bool} {ops : List Oper} {base iy ix : Nat} {y x : Oper} (hy : ops[iy]? = some y) (hx : ops[ix]? = some x) (hs : sepF env ban base ops iy ix y x = true) (j : Nat) (h1 : okF env ban ops base iy j = true) (h2 : okF env ban ops base ix j = true) : False := by
  have res : ∀ (i : Nat) o k, ops[i]? = some o → okF env ban ops base i j = true → tgtOf env base ops o = some k → j = k := by
    intro i o k ho h hr
    simp only [okF, ho, Option.bind_some, hr, Bool.and_eq_true] at h
    exact Nat.eq_of_beq_eq_true h.2.1
  simp only [sepF, Bool.or_eq_true] at hs
  rcases hs with hs | hs
  · cases hr : tgtOf env base ops y with
    | none => rw [hr] at hs; cases hs
    | some k =>
      rw [hr] at hs
      have e := res iy y k hy h1 hr
      subst e
      simp [h2] at hs
  · cases hr : tgtOf env base ops x with
    | none => rw [hr] at hs; cases hs
    | some k =>
      rw [hr] at hs
      have e := res ix x k hx h2 hr
      subst e
      simp [h1] at hs

def indF (env : Nat → Option Nat) (ban : Nat → Nat → Bool) (base : Nat) (ops : Array Oper) (iy ix : Nat) (y x : Oper) : Bool :=
  (match y.dst, x.dst with | some a, some b => a != b | _, _ => true) &&
  (match y.dst with | some a => !(tmpsOf x.op.operands.toList).contains a && !(guardT ops x).contains a | none => true) &&
  (match x.dst with | some b => !(tmpsOf y.op.operands.toList).contains b && !(guardT ops y).contains b | none => true) &&
  (takesB (headB ops y.dst) y).all (fun s => !(takesB (headB ops x.dst) x).contains s) &&
  (!(mapW (headB ops y.dst) y && mapU x) && !(mapW (headB ops x.dst) x && mapU y)) &&
  ((!(storeB y && usesBox x) && !(storeB x && usesBox y) && !(isStore (headB ops y.dst) y && isStore (headB ops x.dst) x)) || sepF env ban base ops.toList iy ix y x)

def drawF (env : Nat → Option Nat) (ban : Nat → Nat → Bool) (base : Nat) (ops : List Oper) : Bool :=
  let cl := clos ops
  (indexed 0 ops).all fun x => x.2.after.toList.all (fun e => !Region.binds .any e || decide (e.on < x.1)) &&
    (indexed 0 ops).all fun y => !decide (y.1 < x.1) || (cl.getD x.1 []).contains y.1 || indF env ban base ops.toArray y.1 x.1 y.2 x.2

section
variable {P : Program} {T : Tab} {σ : PS} {ops : Array Oper} {base : Nat} {ok : Nat → Nat → Bool}
theorem ind_partsF {env : Nat → Option Nat} {ban : Nat → Nat → Bool} {eb : Nat} {iy ix : Nat} {y x : Oper} (h : indF env ban eb ops iy ix y x = true) : Ind ops (sepF env ban eb ops.toList iy ix y x = true) y x := by
  simp only [indF, Bool.and_eq_true, Bool.not_eq_true', Bool.or_eq_true (_ && _) (sepF _ _ _ _ _ _ _ _)] at h
  obtain ⟨⟨⟨⟨⟨h1, h2⟩, h3⟩, h4⟩, h6⟩, h5⟩ := h
  refine ⟨?_, ?_, ?_, ?_, ?_, ?_, ?_, ?_, ?_⟩
  · intro a b ea eb
    rw [ea, eb] at h1
    simpa using h1
  · intro a ea
    rw [ea] at h2
    simpa using h2
  · intro a ea
    rw [ea] at h3
    simpa using h3
  · intro s hs
    have := List.all_eq_true.1 h4 s hs
    simpa using this
  · intro e1 e2
    rcases h5 with h5 | h5
    · simp only [e1, e2, Bool.and_eq_true, Bool.not_eq_true', Bool.and_true, Bool.true_and] at h5
      simp at h5
    · exact h5
  · intro e1 e2
    rcases h5 with h5 | h5
    · simp only [e1, e2, Bool.and_eq_true, Bool.not_eq_true', Bool.and_true, Bool.true_and] at h5
      simp at h5
    · exact h5
  · intro e1 e2
    rcases h5 with h5 | h5
    · simp only [e1, e2, Bool.and_eq_true, Bool.not_eq_true', Bool.and_true, Bool.true_and] at h5
      simp at h5
    · exact h5
  · intro e1 e2
    have := h6.1
    rw [e1, e2] at this; cases this
  · intro e1 e2
    have := h6.2
    rw [e1, e2] at this; cases this
end
theorem PWops.bubbleF {P : Program} {T : Tab} {ops : Array Oper} {base : Nat} {ok : Nat → Nat → Bool} {env : Nat → Option Nat} {ban : Nat → Nat → Bool} {eb : Nat} {ix : Nat} {x : Oper} {post : List (Nat × Oper)} {Q : PS → Prop} : ∀ (pre : List (Nat × Oper)) (σ : PS), (∀ y ∈ pre, (indF env ban eb ops y.1 ix y.2 x = true ∧ (sepF env ban eb ops.toList y.1 ix y.2 x = true → ∀ j, ok y.1 j = true → ok ix j = true → False)) ∧ y.1 ≠ ix ∧ ok ix (base + y.1) = false ∧ ok y.1 (base + ix) = false) →
    PWops P T ops base ok (pre ++ (ix, x) :: post) Q σ → PWops P T ops base ok ((ix, x) :: (pre ++ post)) Q σ
  | [], σ, _, h => h
  | (iy, y) :: pre, σ, hall, h => by
    obtain ⟨h1, h2, h3, h4⟩ := hall (iy, y) (by simp)
    have ih := PWops.bubbleF (P := P) (T := T) (ops := ops) (base := base) (ok := ok) (env := env) (ban := ban) (eb := eb) (ix := ix) (x := x) (post := post) (Q := Q) pre
    have : PWop P T ops base ok iy y (PWop P T ops base ok ix x (PWops P T ops base ok (pre ++ post) Q)) σ :=
      PWop.mono (fun σ' h' => ih σ' (fun z hz => hall z (by simp [hz])) h') h
    exact PWop.swap (ind_partsF h1.1) h1.2 h2 h3 h4 this

theorem draw_partsF {env : Nat → Option Nat} {ban : Nat → Nat → Bool} {eb : Nat} {ops : List Oper} (h : drawF env ban eb ops = true) : (∀ (i : Nat) o, ops[i]? = some o → ∀ e ∈ o.after.toList, Region.binds .any e = true → e.on < i) ∧
    (∀ (i j : Nat) x y, ops[i]? = some x → ops[j]? = some y → j < i → j ∈ (clos ops).getD i [] ∨ indF env ban eb ops.toArray j i y x = true) := by
  have hm : ∀ (i : Nat) o, ops[i]? = some o → (i, o) ∈ indexed 0 ops := by
    have : ∀ (l : List Oper) (k i : Nat) o, l[i]? = some o → (k + i, o) ∈ indexed k l := by
      intro l
      induction l with
      | nil => intro k i o h; simp at h
      | cons p l ih =>
        intro k i o h
        cases i with
        | zero => simp at h; subst h; simp [indexed]
        | succ i =>
          simp at h
          have := ih (k+1) i o h
          simp only [indexed, List.mem_cons]
          right
          rw [show k + (i + 1) = k + 1 + i by omega]; exact this
    intro i o h
    have := this ops 0 i o h
    rwa [Nat.zero_add] at this
  simp only [drawF] at h
  have h' := List.all_eq_true.1 h
  refine ⟨fun i o ho e he hb => ?_, fun i j x y hx hy hji => ?_⟩
  · have := h' _ (hm i o ho)
    simp only [Bool.and_eq_true] at this
    have := List.all_eq_true.1 this.1 e he
    simpa [hb] using this
  · have := h' _ (hm i x hx)
    simp only [Bool.and_eq_true] at this
    have := List.all_eq_true.1 this.2 _ (hm j y hy)
    simp only [hji, decide_true, Bool.not_true, Bool.false_or, Bool.or_eq_true, List.contains_iff_mem] at this
    exact this

section
variable {Φ0 : Ent} {W : World} {M : Nat} {P : Program} {T : Tab} {ops : List Oper} {base : Nat} {env : Nat → Option Nat} {ban : Nat → Nat → Bool}

theorem any_soundF (hT : T = tabOf P) (hbase : base + ops.toArray.size ≤ 1000000) (hall : ∀ (j : Nat) o, ops.toArray[j]? = some o → dstB M o = true) (hdraw : drawF env ban base ops = true) {Q : PS → Prop} {Q' : Exit → Act → World → Prop} (hQ : ∀ σ a w, Q σ → Rel Φ0 W M σ a w → Q' .normal a w) :
    ∀ (fuel : Nat) (listed : Array Bool) (σ : PS) (a : Act) (w : World), unlisted listed ≤ fuel → listed.size = ops.length → (∀ (i : Nat) o, ops[i]? = some o → listed.getD i false = true → ∀ j, depO o j = true → listed.getD j false = true) →
      PWops P T ops.toArray base (okF env ban ops base) ((indexed 0 ops).filter fun x => !listed.getD x.1 false) Q σ → Rel Φ0 W M σ a w → wpAny P .any ops.toArray Q' fuel listed a w := by
  obtain ⟨hE, hI⟩ := draw_partsF hdraw
  have hsz : ∀ listed : Array Bool, listed.size = ops.length → listed.size = ops.toArray.size := fun l h => by simpa using h
  have fin : ∀ (listed : Array Bool) (σ : PS) (a : Act) (w : World), listed.size = ops.length → (∀ i, i < ops.length → listed.getD i false = true) →
      PWops P T ops.toArray base (okF env ban ops base) ((indexed 0 ops).filter fun x => !listed.getD x.1 false) Q σ → Rel Φ0 W M σ a w → Q' .normal a w := by
    intro listed σ a w hs hl h hr
    have : ((indexed 0 ops).filter fun x => !listed.getD x.1 false) = [] := by
      rw [List.filter_eq_nil_iff]
      intro x hx
      obtain ⟨-, h2⟩ := indexed_mem 0 ops x hx
      have : x.1 < ops.length := by have := (List.getElem?_eq_some_iff.1 h2).1; omega
      simp [hl x.1 this]
    rw [this] at h
    exact hQ σ a w h hr
  have alls : ∀ listed : Array Bool, listed.size = ops.length → Region.ready .any ops.toArray listed = [] → ∀ i, i < ops.length → listed.getD i false = true := by
    intro listed hs hr i
    induction i using Nat.strongRecOn with
    | _ i ih =>
      intro hi
      have ho : ops.toArray[i]? = some ops[i] := by simp [hi]
      cases hl : listed.getD i false with
      | true => rfl
      | false =>
        have : i ∈ Region.ready .any ops.toArray listed := (mem_ready (hsz listed hs)).2 ⟨ops[i], ho, hl, fun j hj => by
          obtain ⟨e, he, hb, rfl⟩ := depO_iff.1 hj
          have := hE i ops[i] (by simp [hi]) e he hb
          exact ih e.on this (by omega)⟩
        rw [hr] at this; cases this
  intro fuel
  induction fuel with
  | zero =>
    intro listed σ a w hu hs hcl h hr
    have hl := unlisted_zero (Nat.le_zero.1 hu)
    rw [hs] at hl
    refine ⟨?_, fin listed σ a w hs hl h hr⟩
    apply List.eq_nil_iff_forall_not_mem.2
    intro i hi
    obtain ⟨o, ho, h1, _⟩ := (mem_ready (hsz listed hs)).1 hi
    rw [hl i (by have := (Array.getElem?_eq_some_iff.1 ho).1; simpa using this)] at h1
    cases h1
  | succ fuel ih =>
    intro listed σ a w hu hs hcl h hr
    refine ⟨fun hrd => fin listed σ a w hs (alls listed hs hrd) h hr, fun i hi => ?_⟩
    obtain ⟨o, ho, h1, h2⟩ := (mem_ready (hsz listed hs)).1 hi
    have ho' : ops[i]? = some o := by simpa using ho
    have hil : i < ops.length := (List.getElem?_eq_some_iff.1 ho').1
    have hmem : (i, o) ∈ (indexed 0 ops).filter fun x => !listed.getD x.1 false := by
      rw [List.mem_filter]
      refine ⟨?_, by simp [h1]⟩
      have : ∀ (l : List Oper) (k i : Nat) o, l[i]? = some o → (k + i, o) ∈ indexed k l := by
        intro l
        induction l with
        | nil => intro k i o h; simp at h
        | cons p l ih =>
          intro k i o h
          cases i with
          | zero => simp at h; subst h; simp [indexed]
          | succ i =>
            simp at h
            have := ih (k+1) i o h
            simp only [indexed, List.mem_cons]
            right
            rw [show k + (i + 1) = k + 1 + i by omega]; exact this
      have := this ops 0 i o ho'
      rwa [Nat.zero_add] at this
    obtain ⟨pre, post, hL⟩ := List.append_of_mem hmem
    have hsort : ((indexed 0 ops).filter fun x => !listed.getD x.1 false).Pairwise (fun a b => a.1 < b.1) := (indexed_sorted 0 ops).filter _
    rw [hL] at h hsort
    rw [List.pairwise_append] at hsort
    obtain ⟨-, hs2, hs3⟩ := hsort
    rw [List.pairwise_cons] at hs2
    have hpre : ∀ y ∈ pre, y.1 < i := fun y hy => hs3 y hy (i, o) (by simp)
    have hpost : ∀ y ∈ post, i < y.1 := fun y hy => hs2.1 y hy
    have hprem : ∀ y ∈ pre, ops[y.1]? = some y.2 ∧ listed.getD y.1 false = false := by
      intro y hy
      have : y ∈ (indexed 0 ops).filter fun x => !listed.getD x.1 false := by rw [hL]; simp [hy]
      rw [List.mem_filter] at this
      obtain ⟨-, q⟩ := indexed_mem 0 ops y this.1
      exact ⟨by simpa using q, by simpa using this.2⟩
    have hb := PWops.bubbleF (P := P) (T := T) (base := base) (ok := okF env ban ops base) (env := env) (ban := ban) (eb := base) (ix := i) (x := o) (post := post) (Q := Q) pre σ (by
      intro y hy
      obtain ⟨q1, q2⟩ := hprem y hy
      have hlt := hpre y hy
      have hnc : y.1 ∉ (clos ops).getD i [] := fun hc => by
        rw [clos_listed hE hcl i o ho' h2 y.1 hc] at q2; cases q2
      have hyl : y.1 < ops.length := (List.getElem?_eq_some_iff.1 q1).1
      refine ⟨⟨by simpa using (hI i y.1 o y.2 ho' q1 hlt).resolve_left hnc, fun hs j hj1 hj2 => sepF_ok (ops := ops) q1 ho' (by simpa using hs) j hj1 hj2⟩, by omega, ?_, ?_⟩
      · rw [okF, Bool.and_eq_false_iff]; left
        simp only [okD, Bool.or_eq_false_iff, decide_eq_false_iff_not]
        refine ⟨⟨by omega, by omega⟩, ?_⟩
        rw [Nat.add_sub_cancel_left]
        simpa using hnc
      · rw [okF, Bool.and_eq_false_iff]; left
        simp only [okD, Bool.or_eq_false_iff, decide_eq_false_iff_not]
        refine ⟨⟨by omega, by omega⟩, ?_⟩
        rw [Nat.add_sub_cancel_left]
        have : i ∉ (clos ops).getD y.1 [] := fun hc => by have := clos_lt hE y.1 y.2 q1 i hc; omega
        simpa using this) h
    have hset : listed.getD i false = false := h1
    have hlt : i < listed.size := by rw [hs]; exact hil
    have hrem : pre ++ post = (indexed 0 ops).filter fun x => !(listed.setIfInBounds i true).getD x.1 false := by
      have e1 : ((indexed 0 ops).filter fun x => !(listed.setIfInBounds i true).getD x.1 false) = ((indexed 0 ops).filter fun x => !listed.getD x.1 false).filter (fun x => !decide (x.1 = i)) := by
        rw [List.filter_filter]
        congr 1
        funext x
        rw [getD_set _ _ _ hlt]
        cases listed.getD x.1 false <;> simp
      rw [e1, hL, List.filter_append, List.filter_cons]
      have e2 : pre.filter (fun x => !decide (x.1 = i)) = pre := List.filter_eq_self.2 (fun y hy => by have := hpre y hy; simp; omega)
      have e3 : post.filter (fun x => !decide (x.1 = i)) = post := List.filter_eq_self.2 (fun y hy => by have := hpost y hy; simp; omega)
      rw [e2, e3]
      simp
    have hcl' : ∀ (k : Nat) p, ops[k]? = some p → (listed.setIfInBounds i true).getD k false = true → ∀ j, depO p j = true → (listed.setIfInBounds i true).getD j false = true := by
      intro k p hp hk j hj
      rw [getD_set _ _ _ hlt] at hk ⊢
      simp only [Bool.or_eq_true, decide_eq_true_eq] at hk ⊢
      rcases hk with rfl | hk
      · rw [ho'] at hp; cases hp; exact .inr (h2 j hj)
      · exact .inr (hcl k p hp hk j hj)
    have hstep := op_sound (Φ0 := Φ0) (W := W) (M := M) hT hall (base := base) hbase ho (K' := wpAny P .any ops.toArray Q' fuel (listed.setIfInBounds i true)) (Q' := Q') (fun σ' a' w' hk hr' => ih (listed.setIfInBounds i true) σ' a' w' (by have := unlisted_set listed i hlt hset; omega) (by simpa using hs) hcl' (by rw [← hrem]; exact hk) hr') hb hr
    unfold wpOp
    rw [ho]
    simp only
    split
    · rename_i hw; rw [if_pos hw] at hstep; exact .inl hstep
    · rename_i hw; rw [if_neg hw] at hstep; exact hstep

/-- A region that draws its order. -/
theorem PW.drawF (ban : Nat → Nat → Bool) {Q : Exit → PS → Prop} {σ : PS} (hT : T = tabOf P) (hm : P.follows .mixedOrders = true) {id : Nat} (hall2 : (ops.all (dstB M) && Nat.ble (1000 * id + ops.length) 1000000) = true) (hd : drawF (envOf σ) ban (1000 * id) ops = true)
    (h : PWops P T ops.toArray (1000 * id) (okF (envOf σ) ban ops (1000 * id)) (indexed 0 ops) (Q .normal) σ) : PW P M (.region id ops.toArray true) Q σ := by
  intro Φ0 W a w hr
  have hall2' := hall2
  simp only [Bool.and_eq_true] at hall2'
  obtain ⟨hall, hb0⟩ := hall2'
  have hbase := Nat.le_of_ble_eq_true hb0
  refine wp_region_any hm ?_
  obtain ⟨Φ, μ, ω, hg⟩ := hr
  refine any_soundF (Φ0 := Φ0) (W := W) (M := M) (base := 1000 * id) (env := envOf σ) (ban := ban) (Q := Q .normal) hT (by simpa using hbase) (by
    intro j o hj
    exact List.all_eq_true.1 hall o (mem_of_get (by simpa using hj))) hd (fun σ a w hq hrel => ⟨_, hq, hrel⟩) _ _ σ a _ ?_ (by simp) ?_ ?_ ⟨Φ, μ, ω, hg.drew⟩
  · unfold unlisted
    exact Nat.le_trans List.countP_le_length (by simp)
  · intro i o ho hl
    simp [Array.getD_eq_getD_getElem?, Array.getElem?_replicate] at hl
    split at hl <;> simp_all
  · have : ((indexed 0 ops).filter fun x => !(Array.replicate ops.toArray.size false).getD x.1 false) = indexed 0 ops := by
      rw [List.filter_eq_self]
      intro x _
      simp [Array.getD_eq_getD_getElem?, Array.getElem?_replicate]
      split <;> rfl
    rw [this]
    exact h
end
end Go.Proofs.Ytilcpcpmkklobaa

/- law22: a call on both disks. -/
namespace Go.Proofs.Ytilcpcpmkklobaa
set_option linter.unusedSimpArgs false
set_option linter.unusedVariables false
set_option linter.unnecessarySimpa false
open Go.RowKit

def bothG (d c m r e : Nat) (D : DM) (R : RM) : List (Nat × List PV) := [(d, dB c m D), (c, dC D), (r, rB e R), (e, rC R)]
/-- What a call comes to. -/
def sameR (D : DM) (R : RM) (x : ROp) : DM × RM :=
  if x.kind = 0 then ((D.write x.a (fillB x.b)).2, (R.write x.a (fillB x.b)).2)
  else if x.kind = 1 then (D.sync.2, R.sync.2)
  else if x.kind = 3 then ({ D with after := maxI x.b (-1) }, { R with after := maxI x.b (-1) })
  else if x.kind = 5 then ((D.flip x.a x.b).2, (R.flip x.a x.b).2)
  else if x.kind = 6 then (D.rot x.a, R.rot x.a)
  else (D, R)
def smR (d r : Nat) : PV := .tup [.ptr d 0, .ptr r 0, pbool true]
theorem gotL_sec (s : Sec) (e : Int) : (((gotL s e).drop 0).take 64).map PV.bare = secL s := by
  rw [List.drop_zero, gotL, List.take_append_of_le_length (by rw [secL_len]; exact Nat.le_refl _), List.take_of_length_le (by rw [secL_len]; exact Nat.le_refl _), secL_bare]
theorem gotL_64 (s : Sec) (e : Int) : (gotL s e)[64]? = some (pint e) := by
  rw [gotL, List.getElem?_append_right (by rw [secL_len]; exact Nat.le_refl _), secL_len]; rfl
theorem opnR_len {k : Nat} {D : DM} {R : RM} (h : RelD k D R) : ∀ c ∈ R.cells, c.opn.length ≤ k := by
  intro c hc
  obtain ⟨j, hj⟩ := List.getElem?_of_mem hc
  have hl := (List.getElem?_eq_some_iff.1 hj).1
  have e : R.cell j = c := by unfold RM.cell; rw [Int.toNat_natCast, List.getD_eq_getElem?_getD, hj]; rfl
  have hg := h.get j (by rw [h.len]; exact hl)
  rw [e] at hg
  rw [← hg]
  have := row_le h.ok (j : Int)
  exact this

set_option maxRecDepth 10000 in
set_option maxHeartbeats 8000000 in
theorem sm_same1 (D : DM) (R : RM) (x : ROp) (k : Nat) (h : RelD k D R) (hk : k ≤ 1000) (hn : 1 ≤ D.cells.length ∧ D.cells.length ≤ 200) (hx : -9223372036854775808 ≤ x.b ∧ x.b ≤ 9223372036854775807) (ht : D.openL.length ≤ 1000000000) (h4 : x.kind ≠ 4) :
    HCalls Try.prog 10 [.ptr 1000001 0, .ptr 1000004 0, .agg (ropL x)] (bothG 1000001 1000002 1000003 1000004 1000005 D R) (dMs 1000003 D) (smR 1000001 1000004) (bothG 1000001 1000002 1000003 1000004 1000005 (sameR D R x).1 (sameR D R x).2) (dMs 1000003 (sameR D R x).1) := by
  have c1 := dC_low D
  have c2 := dM_low D
  have c3 := rC_low R
  have c4 := dC_low (sameR D R x).1
  have c5 := dM_low (sameR D R x).1
  have c6 := rC_low (sameR D R x).2
  have hlx : Low (.agg (ropL x)) := .agg _ (ropL_low x)
  refine hcalls_of_pw typeTab_ok Try.func10 rfl rfl (by simp [PV.ownB]) (Nat.le_of_ble_eq_true rfl) (by simp [ResIds, bothG, dMs]) (by simp [ResIds, bothG, dMs]) ⟨li_cons (.ptr _ _ (by simp [ResIds, bothG])) (li_cons (.ptr _ _ (by simp [ResIds, bothG])) (li_cons (Low.lowI hlx) li_nil)), lb_cons (dB_lowI (by simp [ResIds, bothG]) (by simp [ResIds, dMs]) _) (lb_cons (li_low c1) (lb_cons (rB_lowI (by simp [ResIds, bothG]) _) (lb_cons (li_low c3) lb_nil))), lm_cons c2 lm_nil, by (refine .tup _ ?_ ; intro c hc ; simp at hc ; rcases hc with rfl | rfl | rfl ; exact .ptr _ _ (by simp [ResIds, bothG]) ; exact .ptr _ _ (by simp [ResIds, bothG]) ; exact .val _), lb_cons (dB_lowI (by simp [ResIds, bothG]) (by simp [ResIds, dMs]) _) (lb_cons (li_low c4) (lb_cons (rB_lowI (by simp [ResIds, bothG]) _) (lb_cons (li_low c6) lb_nil))), lm_cons c5 lm_nil, by simp [bothG], by simp [dMs]⟩ ?_
  have hst := h.st
  have haf := h.af
  have hrl := h.len
  have hro := opnR_len h
  have hro' : ∀ c ∈ R.cells, c.opn.length ≤ 1000000000 := fun c hc => by have := hro c hc; omega
  have hdo : ∀ e ∈ D.op, e.2.2.length ≤ 1000000000 := fun e he => by have := h.ok.room e he; omega
  have f := pw_filled x.b
  have kA : 0 ≤ D.steps ∧ D.steps ≤ 1000000000 ∧ -1 ≤ D.after := ⟨hst.1, by omega, haf.1⟩
  have kR : 0 ≤ R.steps ∧ R.steps ≤ 1000000000 ∧ -1 ≤ R.after := by rw [← h.steps, ← h.after]; exact kA
  have kR2 : R.after ≤ 9223372036854775807 := by rw [← h.after]; exact haf.2
  by_cases h0 : x.kind = 0
  · have e : sameR D R x = ((D.write x.a (fillB x.b)).2, (R.write x.a (fillB x.b)).2) := by unfold sameR; rw [if_pos h0]
    have w1 := dc_Write D x.a (fillB x.b) kA haf.2 hdo 1000001 1000002 1000003 (by decide)
    have w2 := rc_Write R x.a (fillB x.b) kR kR2 hro' 1000004 1000005 (by decide)
    obtain ⟨g1, -⟩ := h.write (by omega) x.a (fillB x.b)
    rw [e]
    rw [g1] at w1
    clear e c4 c5 c6 h hro hro' hdo kA kR g1
    generalize (D.write x.a (fillB x.b)).2 = D1 at *
    generalize (R.write x.a (fillB x.b)) = q at *
    obtain ⟨e1, R1⟩ := q
    generalize fillB x.b = s at *
    obtain ⟨xk, xa, xb⟩ := x
    dsimp only at *
    have hee : (e1 == e1) = true := by simp
    refine wg ?_
    refine PW.region typeTab_ok (by kernel_rfl) ?_
    refine wg ?_
    refine PW.region typeTab_ok (by kernel_rfl) ?_
    refine wg ?_
    refine PW.region typeTab_ok (by kernel_rfl) ?_
    refine wg ?_
    refine PW.drawF (fun i id => (Nat.beq i 8 || Nat.beq i 15) && Nat.beq id 0) typeTab_ok (by kernel_rfl) (by kernel_rfl) (by kernel_rfl) ?_
    refine wk ?_
    exact RetH.mk (presult3 rfl rfl rfl) (Weak.refl _) ⟨⟨_, rfl, WeakL.refl _⟩, ⟨_, rfl, WeakL.refl _⟩, ⟨_, rfl, WeakL.refl _⟩, ⟨_, rfl, WeakL.refl _⟩, trivial⟩ ⟨⟨rfl, rfl⟩, trivial⟩
  by_cases h1 : x.kind = 1
  · have e : sameR D R x = (D.sync.2, R.sync.2) := by unfold sameR; rw [if_neg h0, if_pos h1]
    have w1 := dc_Sync D kA haf.2 (by omega) h.ok.op 1000001 1000002 1000003 (by decide)
    have w2 := rc_Sync R kR kR2 (by omega) hro' 1000004 1000005 (by decide)
    obtain ⟨g1, -⟩ := h.sync (by omega)
    rw [e]
    rw [g1] at w1
    clear e c4 c5 c6 h hro hro' hdo kA kR g1
    generalize D.sync.2 = D1 at *
    generalize R.sync = q at *
    obtain ⟨e1, R1⟩ := q
    obtain ⟨xk, xa, xb⟩ := x
    dsimp only at *
    have hee : (e1 == e1) = true := by simp
    refine wk ?_
    exact RetH.mk (presult3 rfl rfl rfl) (Weak.refl _) ⟨⟨_, rfl, WeakL.refl _⟩, ⟨_, rfl, WeakL.refl _⟩, ⟨_, rfl, WeakL.refl _⟩, ⟨_, rfl, WeakL.refl _⟩, trivial⟩ ⟨⟨rfl, rfl⟩, trivial⟩
  by_cases h5 : x.kind = 5
  · have e : sameR D R x = ((D.flip x.a x.b).2, (R.flip x.a x.b).2) := by unfold sameR; rw [if_neg h0, if_neg h1, if_neg (by omega), if_pos h5]
    have w1 := dc_Flip D x.a x.b (by omega) 1000001 1000002 1000003 (by decide)
    have w2 := rc_Flip R x.a x.b (by omega) 1000004 1000005 (by decide)
    obtain ⟨g1, -⟩ := h.flip x.a x.b
    rw [e]
    rw [g1] at w1
    clear e c4 c5 c6 h hro hro' hdo kA kR g1 f
    generalize (D.flip x.a x.b).2 = D1 at *
    generalize R.flip x.a x.b = q at *
    obtain ⟨e1, R1⟩ := q
    obtain ⟨xk, xa, xb⟩ := x
    dsimp only at *
    have hee : (e1 == e1) = true := by simp
    refine wg ?_
    refine PW.region typeTab_ok (by kernel_rfl) ?_
    refine wg ?_
    refine PW.region typeTab_ok (by kernel_rfl) ?_
    refine wg ?_
    refine PW.region typeTab_ok (by kernel_rfl) ?_
    refine wg ?_
    refine PW.region typeTab_ok (by kernel_rfl) ?_
    refine wg ?_
    refine PW.region typeTab_ok (by kernel_rfl) ?_
    refine wg ?_
    refine PW.region typeTab_ok (by kernel_rfl) ?_
    refine wg ?_
    refine PW.region typeTab_ok (by kernel_rfl) ?_
    refine wg ?_
    refine PW.region typeTab_ok (by kernel_rfl) ?_
    refine wg ?_
    refine PW.drawF (fun i id => (Nat.beq i 7 || Nat.beq i 13) && Nat.beq id 0) typeTab_ok (by kernel_rfl) (by kernel_rfl) (by kernel_rfl) ?_
    refine wk ?_
    exact RetH.mk (presult3 rfl rfl rfl) (Weak.refl _) ⟨⟨_, rfl, WeakL.refl _⟩, ⟨_, rfl, WeakL.refl _⟩, ⟨_, rfl, WeakL.refl _⟩, ⟨_, rfl, WeakL.refl _⟩, trivial⟩ ⟨⟨rfl, rfl⟩, trivial⟩
  by_cases h6 : x.kind = 6
  · have e : sameR D R x = (D.rot x.a, R.rot x.a) := by unfold sameR; rw [if_neg h0, if_neg h1, if_neg (by omega), if_neg h5, if_pos h6]
    have w1 := dc_Rot D x.a 1000001 1000002 1000003 (by decide)
    have w2 := rc_Rot R x.a 1000004 1000005 (by decide)
    rw [e]
    rw [h.check] at w1
    clear e c4 c5 c6 h hro hro' hdo kA kR f
    generalize D.rot x.a = D1 at *
    generalize R.rot x.a = R1 at *
    generalize R.check x.a = e1 at *
    obtain ⟨xk, xa, xb⟩ := x
    dsimp only at *
    have hee : (e1 == e1) = true := by simp
    refine wg ?_
    refine PW.region typeTab_ok (by kernel_rfl) ?_
    refine wg ?_
    refine PW.region typeTab_ok (by kernel_rfl) ?_
    refine wg ?_
    refine PW.region typeTab_ok (by kernel_rfl) ?_
    refine wg ?_
    refine PW.region typeTab_ok (by kernel_rfl) ?_
    refine wg ?_
    refine PW.region typeTab_ok (by kernel_rfl) ?_
    refine wg ?_
    refine PW.region typeTab_ok (by kernel_rfl) ?_
    refine wg ?_
    refine PW.region typeTab_ok (by kernel_rfl) ?_
    refine wg ?_
    refine PW.region typeTab_ok (by kernel_rfl) ?_
    refine wg ?_
    refine PW.region typeTab_ok (by kernel_rfl) ?_
    refine wg ?_
    refine PW.drawF (fun i id => (Nat.beq i 5 || Nat.beq i 9) && Nat.beq id 0) typeTab_ok (by kernel_rfl) (by kernel_rfl) (by kernel_rfl) ?_
    refine wk ?_
    exact RetH.mk (presult3 rfl rfl rfl) (Weak.refl _) ⟨⟨_, rfl, WeakL.refl _⟩, ⟨_, rfl, WeakL.refl _⟩, ⟨_, rfl, WeakL.refl _⟩, ⟨_, rfl, WeakL.refl _⟩, trivial⟩ ⟨⟨rfl, rfl⟩, trivial⟩
  by_cases h2 : x.kind = 2
  · have e : sameR D R x = (D, R) := by unfold sameR; rw [if_neg h0, if_neg h1, if_neg (by omega), if_neg h5, if_neg h6]
    have w1 := dc_Read D x.a (by omega) hdo 1000001 1000002 1000003 (by decide)
    have w2 := rc_Read R x.a (by omega) hro' 1000004 1000005 (by decide)
    rw [e]
    rw [h.read] at w1
    clear e c4 c5 c6 h hro hro' hdo kA kR f
    generalize R.read x.a = q at *
    obtain ⟨v, e1⟩ := q
    obtain ⟨xk, xa, xb⟩ := x
    dsimp only at *
    have hee : (e1 == e1) = true := by simp
    have qv := peqs_self v
    refine wk ?_
    refine PWops.stAll rfl rfl rfl rfl rfl rfl rfl rfl rfl (gotL_len _ _) (by kernel_rfl) (gotL_one _ _) (gotL_bare _ _) ?_
    refine wk ?_
    refine PWops.ldBA rfl rfl rfl rfl rfl rfl rfl (by rw [gotL_len]; decide) (gotL_sec v e1) ?_
    refine wk ?_
    refine PWops.eqA rfl rfl rfl rfl rfl rfl rfl rfl qv (.inl rfl) ?_
    refine wk ?_
    refine PWops.ldB rfl rfl rfl rfl rfl rfl rfl rfl (gotL_64 v e1) rfl ?_
    refine wk ?_
    exact RetH.mk (presult3 rfl rfl rfl) (Weak.refl _) ⟨⟨_, rfl, WeakL.refl _⟩, ⟨_, rfl, WeakL.refl _⟩, ⟨_, rfl, WeakL.refl _⟩, ⟨_, rfl, WeakL.refl _⟩, trivial⟩ ⟨⟨rfl, rfl⟩, trivial⟩
  · have fin : ∀ (D1 : DM) (R1 : RM), RelD k D1 R1 → D1.cells.length ≤ 200 → D1.openL.length ≤ 1000000000 → HCalls Try.prog 15 [.ptr 1000001 0] (dG 1000001 1000002 1000003 D1) (dMs 1000003 D1) (pint R1.cells.length) (dG 1000001 1000002 1000003 D1) (dMs 1000003 D1) ∧ HCalls Try.prog 17 [.ptr 1000001 0] (dG 1000001 1000002 1000003 D1) (dMs 1000003 D1) (pint R1.steps) (dG 1000001 1000002 1000003 D1) (dMs 1000003 D1) ∧ HCalls Try.prog 16 [.ptr 1000001 0] (dG 1000001 1000002 1000003 D1) (dMs 1000003 D1) (pbool R1.dead) (dG 1000001 1000002 1000003 D1) (dMs 1000003 D1) ∧ HCalls Try.prog 18 [.ptr 1000001 0] (dG 1000001 1000002 1000003 D1) (dMs 1000003 D1) (pints R1.openL) (dG 1000001 1000002 1000003 D1) (dMs 1000003 D1) := by
      intro D1 R1 h' hc ho
      have w5 := dc_Size D1 1000001 1000002 1000003 (by decide)
      have w6 := dc_Steps D1 1000001 1000002 1000003 (by decide)
      have w7 := dc_Down D1 1000001 1000002 1000003 (by decide)
      have w8 := dc_Open D1 h'.ok.op (by have := opOK_len h'.ok.op; have e : D1.base.op = D1.op := rfl; rw [e] at this; omega) ho 1000001 1000002 1000003 (by decide)
      rw [h'.len] at w5
      rw [h'.steps] at w6
      rw [h'.dead] at w7
      rw [h'.openL] at w8
      exact ⟨w5, w6, w7, w8⟩
    by_cases h3 : x.kind = 3
    · have e : sameR D R x = ({ D with after := maxI x.b (-1) }, { R with after := maxI x.b (-1) }) := by unfold sameR; rw [if_neg h0, if_neg h1, if_pos h3]
      have hrel := h.arm x.b hx.2
      have w1 := dc_Arm D x.b 1000001 1000002 1000003 (by decide)
      have w2 := rc_Arm R x.b 1000004 1000005 (by decide)
      have ho1 : ({ D with after := maxI x.b (-1) } : DM).openL.length ≤ 1000000000 := ht
      have hn1 : ({ D with after := maxI x.b (-1) } : DM).cells.length ≤ 200 := hn.2
      have hnr : ({ R with after := maxI x.b (-1) } : RM).cells.length ≤ 200 := by rw [← h.len]; exact hn.2
      rw [e]
      generalize ({ D with after := maxI x.b (-1) } : DM) = D1 at *
      generalize ({ R with after := maxI x.b (-1) } : RM) = R1 at *
      obtain ⟨w5, w6, w7, w8⟩ := fin D1 R1 hrel hn1 ho1
      have w9 := rc_Open R1 (by omega) (by rw [← hrel.openL]; exact ho1) 1000004 1000005 (by decide)
      have w10 := pw_same R1.openL R1.openL (by rw [← hrel.openL]; omega) (by rw [← hrel.openL]; omega)
      rw [decide_eq_true rfl] at w10
      clear e c4 c5 c6 h hro hro' hdo kA kR f fin ht hrel ho1
      obtain ⟨xk, xa, xb⟩ := x
      dsimp only at *
      have hee : (R1.steps == R1.steps) = true := by simp
      have hdd : (R1.dead == R1.dead) = true := by simp
      have hll : ((R1.cells.length : Int) == R1.cells.length) = true := by simp
      refine wk ?_
      exact RetH.mk (presult3 rfl rfl rfl) (Weak.refl _) ⟨⟨_, rfl, WeakL.refl _⟩, ⟨_, rfl, WeakL.refl _⟩, ⟨_, rfl, WeakL.refl _⟩, ⟨_, rfl, WeakL.refl _⟩, trivial⟩ ⟨⟨rfl, rfl⟩, trivial⟩
    · have e : sameR D R x = (D, R) := by unfold sameR; rw [if_neg h0, if_neg h1, if_neg h3, if_neg h5, if_neg h6]
      rw [e]
      obtain ⟨w5, w6, w7, w8⟩ := fin D R h hn.2 ht
      have w9 := rc_Open R (by omega) (by rw [← h.openL]; exact ht) 1000004 1000005 (by decide)
      have w10 := pw_same R.openL R.openL (by rw [← h.openL]; omega) (by rw [← h.openL]; omega)
      rw [decide_eq_true rfl] at w10
      clear e c4 c5 c6 h hro hro' hdo kA kR f fin ht
      obtain ⟨xk, xa, xb⟩ := x
      dsimp only at *
      have hee : (R.steps == R.steps) = true := by simp
      have hdd : (R.dead == R.dead) = true := by simp
      have hll : ((R.cells.length : Int) == R.cells.length) = true := by simp
      refine wk ?_
      exact RetH.mk (presult3 rfl rfl rfl) (Weak.refl _) ⟨⟨_, rfl, WeakL.refl _⟩, ⟨_, rfl, WeakL.refl _⟩, ⟨_, rfl, WeakL.refl _⟩, ⟨_, rfl, WeakL.refl _⟩, trivial⟩ ⟨⟨rfl, rfl⟩, trivial⟩
end Go.Proofs.Ytilcpcpmkklobaa

/- law22: a failure of both disks. -/
namespace Go.Proofs.Ytilcpcpmkklobaa
set_option linter.unusedSimpArgs false
set_option linter.unusedVariables false
set_option linter.unnecessarySimpa false
open Go.RowKit

def bothG2 (d c m r e : Nat) (D : DM) (R : RM) (d2 c2 m2 r2 e2 : Nat) (D2 : DM) (R2 : RM) : List (Nat × List PV) := [(d, dB c m D), (c, dC D), (r, rB e R), (e, rC R), (d2, dB c2 m2 D2), (c2, dC D2), (r2, rB e2 R2), (e2, rC R2)]
theorem fin_same {k : Nat} {D1 : DM} {R1 : RM} (h' : RelD k D1 R1) (hc : D1.cells.length ≤ 200) (ho : D1.openL.length ≤ 1000000000) (d c m : Nat) (hd : (ids3 d c m).Nodup) : HCalls Try.prog 15 [.ptr d 0] (dG d c m D1) (dMs m D1) (pint R1.cells.length) (dG d c m D1) (dMs m D1) ∧ HCalls Try.prog 17 [.ptr d 0] (dG d c m D1) (dMs m D1) (pint R1.steps) (dG d c m D1) (dMs m D1) ∧ HCalls Try.prog 16 [.ptr d 0] (dG d c m D1) (dMs m D1) (pbool R1.dead) (dG d c m D1) (dMs m D1) ∧ HCalls Try.prog 18 [.ptr d 0] (dG d c m D1) (dMs m D1) (pints R1.openL) (dG d c m D1) (dMs m D1) := by
  have w5 := dc_Size D1 d c m hd
  have w6 := dc_Steps D1 d c m hd
  have w7 := dc_Down D1 d c m hd
  have w8 := dc_Open D1 h'.ok.op (by have := opOK_len h'.ok.op; have e : D1.base.op = D1.op := rfl; rw [e] at this; omega) ho d c m hd
  rw [h'.len] at w5
  rw [h'.steps] at w6
  rw [h'.dead] at w7
  rw [h'.openL] at w8
  exact ⟨w5, w6, w7, w8⟩

set_option maxRecDepth 10000 in
set_option maxHeartbeats 8000000 in
theorem sm_same4 (D : DM) (R : RM) (x : ROp) (k : Nat) (h : RelD k D R) (hk : k ≤ 1000) (hn : 1 ≤ D.cells.length ∧ D.cells.length ≤ 200) (hxa : -9223372036854775808 ≤ x.a ∧ x.a ≤ 9223372036854775807) (hx : -9223372036854775808 ≤ x.b ∧ x.b ≤ 9223372036854775807) (h4 : x.kind = 4) :
    HCalls Try.prog 10 [.ptr 1000001 0, .ptr 1000004 0, .agg (ropL x)] (bothG 1000001 1000002 1000003 1000004 1000005 D R) (dMs 1000003 D) (smR 900005 900008) (bothG2 1000001 1000002 1000003 1000004 1000005 D R 900005 900006 900007 900008 900009 (D.crash [x.a, x.b]) (R.crash [x.a, x.b])) (crM 1000003 900007 D (D.crash [x.a, x.b])) := by
  have c1 := dC_low D
  have c2 := dM_low D
  have c3 := rC_low R
  have c4 := dC_low (D.crash [x.a, x.b])
  have c5 := dM_low (D.crash [x.a, x.b])
  have c6 := rC_low (R.crash [x.a, x.b])
  have hlx : Low (.agg (ropL x)) := .agg _ (ropL_low x)
  refine hcalls_of_pw typeTab_ok Try.func10 rfl rfl (by simp [PV.ownB]) (Nat.le_of_ble_eq_true rfl) (by simp [ResIds, bothG, dMs]) (by simp [ResIds, bothG, dMs]) ⟨li_cons (.ptr _ _ (by simp [ResIds, bothG])) (li_cons (.ptr _ _ (by simp [ResIds, bothG])) (li_cons (Low.lowI hlx) li_nil)), lb_cons (dB_lowI (by simp [ResIds, bothG]) (by simp [ResIds, dMs]) _) (lb_cons (li_low c1) (lb_cons (rB_lowI (by simp [ResIds, bothG]) _) (lb_cons (li_low c3) lb_nil))), lm_cons c2 lm_nil, by (refine .tup _ ?_ ; intro c hc ; simp at hc ; rcases hc with rfl | rfl | rfl ; exact .ptr _ _ (by simp [ResIds, bothG2]) ; exact .ptr _ _ (by simp [ResIds, bothG2]) ; exact .val _), lb_cons (dB_lowI (by simp [ResIds, bothG2]) (by simp [ResIds, crM]) _) (lb_cons (li_low c1) (lb_cons (rB_lowI (by simp [ResIds, bothG2]) _) (lb_cons (li_low c3) (lb_cons (dB_lowI (by simp [ResIds, bothG2]) (by simp [ResIds, crM]) _) (lb_cons (li_low c4) (lb_cons (rB_lowI (by simp [ResIds, bothG2]) _) (lb_cons (li_low c6) lb_nil))))))), lm_cons c2 (lm_cons c5 lm_nil), by simp [bothG, bothG2], by simp [dMs, crM]⟩ ?_
  have hrl := h.len
  have hro := opnR_len h
  have hro' : ∀ c ∈ R.cells, c.opn.length ≤ 1000000000 := fun c hc => by have := hro c hc; omega
  have hki : ∀ z ∈ [x.a, x.b], -9223372036854775808 ≤ z ∧ z ≤ 9223372036854775807 := by
    intro z hz
    simp at hz
    rcases hz with rfl | rfl
    · exact hxa
    · exact hx
  have hopl : D.op.length ≤ 1000000000 := by have := opOK_len h.ok.op; have e : D.base.op = D.op := rfl; rw [e] at this; omega
  have w1 := dc_Crash D [x.a, x.b] (by omega) h.ok.op hopl (by simp) hki 1000001 1000002 1000003 900005 900006 900007 (by decide)
  have w2 := rc_Crash R [x.a, x.b] (by omega) hro' (by simp) hki 1000004 1000005 900008 900009 (by decide)
  have hrel := h.crash (by omega) [x.a, x.b]
  have hcl : (D.crash [x.a, x.b]).cells.length = D.cells.length := crashL_len D _ _
  have ho : (D.crash [x.a, x.b]).openL = [] := openL_nil rfl
  have hno : (R.crash [x.a, x.b]).openL = [] := by rw [← hrel.openL]; exact ho
  obtain ⟨w5, w6, w7, w8⟩ := fin_same hrel (by omega) (by rw [ho]; decide) 900005 900006 900007 (by decide)
  have w9 := rc_Open (R.crash [x.a, x.b]) (by rw [← hrel.len]; omega) (by rw [hno]; decide) 900008 900009 (by decide)
  have w10 := pw_same (R.crash [x.a, x.b]).openL (R.crash [x.a, x.b]).openL (by rw [hno]; decide) (by rw [hno]; decide)
  rw [decide_eq_true rfl] at w10
  have hnr : (R.crash [x.a, x.b]).cells.length ≤ 200 := by rw [← hrel.len]; omega
  clear hrel hcl ho hno hki hro hro' h c4 c5 c6 hopl
  obtain ⟨xk, xa, xb⟩ := x
  dsimp only at *
  generalize hD2 : D.crash [xa, xb] = D2 at *
  generalize hR2 : R.crash [xa, xb] = R2 at *
  clear hD2 hR2
  have hee : (R2.steps == R2.steps) = true := by simp
  have hdd : (R2.dead == R2.dead) = true := by simp
  have hll : ((R2.cells.length : Int) == R2.cells.length) = true := by simp
  refine wg ?_
  refine PW.region typeTab_ok (by kernel_rfl) ?_
  refine wg ?_
  refine PW.region typeTab_ok (by kernel_rfl) ?_
  refine wg ?_
  refine PW.region typeTab_ok (by kernel_rfl) ?_
  refine wg ?_
  refine PW.region typeTab_ok (by kernel_rfl) ?_
  refine wg ?_
  refine PW.region typeTab_ok (by kernel_rfl) ?_
  refine wg ?_
  refine PW.region typeTab_ok (by kernel_rfl) ?_
  refine wg ?_
  refine PW.region typeTab_ok (by kernel_rfl) ?_
  refine wg ?_
  refine PW.drawF (fun i id => (Nat.beq i 6 || Nat.beq i 13) && Nat.beq id 0) typeTab_ok (by kernel_rfl) (by kernel_rfl) (by kernel_rfl) ?_
  refine wk ?_
  exact RetH.mk (presult3 rfl rfl rfl) (Weak.refl _) ⟨⟨_, rfl, WeakL.refl _⟩, ⟨_, rfl, WeakL.refl _⟩, ⟨_, rfl, WeakL.refl _⟩, ⟨_, rfl, WeakL.refl _⟩, ⟨_, rfl, WeakL.refl _⟩, ⟨_, rfl, WeakL.refl _⟩, ⟨_, rfl, WeakL.refl _⟩, ⟨_, rfl, WeakL.refl _⟩, trivial⟩ ⟨⟨rfl, rfl⟩, ⟨rfl, rfl⟩, trivial⟩
end Go.Proofs.Ytilcpcpmkklobaa

/- law22: DiskIsAsSpecified: what the calls come to. -/
namespace Go.Proofs.Ytilcpcpmkklobaa
set_option linter.unusedSimpArgs false
set_option linter.unusedVariables false
set_option linter.unnecessarySimpa false
open Go.RowKit

def stepB (p : DM × RM) (x : ROp) : DM × RM := if x.kind = 4 then (p.1.crash [x.a, x.b], p.2.crash [x.a, x.b]) else sameR p.1 p.2 x
def foldB (n : Nat) (l : List ROp) : Nat → DM × RM
  | 0 => (newD n, newR n)
  | i + 1 => stepB (foldB n l i) (l.getD i default)
theorem sameR_rel {k : Nat} {D : DM} {R : RM} (h : RelD k D R) (hk : k < 1000) (hn : 0 < D.cells.length) (x : ROp) (hx : x.b ≤ 9223372036854775807) : RelD (k + 1) (sameR D R x).1 (sameR D R x).2 := by
  unfold sameR
  split
  · exact (h.write (by omega) _ _).2
  · split
    · exact (h.sync hn).2
    · split
      · exact (h.arm x.b hx).mono (Nat.le_succ k)
      · split
        · exact ((h.flip _ _).2).mono (Nat.le_succ k)
        · split
          · exact (h.rot _).mono (Nat.le_succ k)
          · exact h.mono (Nat.le_succ k)
theorem setcR_len (R : RM) (i : Int) (c : RCell) : (R.setc i c).cells.length = R.cells.length := List.length_set
theorem stepR_len (R : RM) : R.step.2.cells.length = R.cells.length := by unfold RM.step; split <;> rfl
theorem sameR_len (D : DM) (R : RM) (x : ROp) : (sameR D R x).2.cells.length = R.cells.length := by
  unfold sameR
  split
  · show (R.write _ _).2.cells.length = _
    unfold RM.write
    split
    · split
      · show (R.step.2.setc _ _).cells.length = _
        rw [setcR_len, stepR_len]
      · exact stepR_len R
    · rfl
  · split
    · show R.sync.2.cells.length = _
      unfold RM.sync
      split
      · rfl
      · split
        · show (R.step.2.cells.map rsyn).length = _
          rw [List.length_map, stepR_len]
        · exact stepR_len R
    · split
      · rfl
      · split
        · show (R.flip _ _).2.cells.length = _
          unfold RM.flip
          split
          · split
            · rfl
            · show (if (R.cell x.a).bad = true then R else _).cells.length = _
              split
              · rfl
              · exact setcR_len _ _ _
          · rfl
        · split
          · show (R.rot _).cells.length = _
            unfold RM.rot
            split
            · exact setcR_len _ _ _
            · rfl
          · rfl
theorem foldB_rel (n : Nat) (hn : 0 < n) (l : List ROp) (hl : ∀ x ∈ l, x.b ≤ 9223372036854775807) : ∀ i, i ≤ 1000 → i ≤ l.length → RelD i (foldB n l i).1 (foldB n l i).2 ∧ (foldB n l i).1.cells.length = n
  | 0, _, _ => ⟨RelD.start n hn, List.length_replicate⟩
  | i + 1, hi, hil => by
    obtain ⟨h1, h2⟩ := foldB_rel n hn l hl i (by omega) (by omega)
    have hx : (l.getD i default).b ≤ 9223372036854775807 := by
      refine hl _ ?_
      rw [List.getD_eq_getElem?_getD, List.getElem?_eq_getElem (show i < l.length by omega)]; exact List.getElem_mem _
    show RelD (i + 1) (stepB (foldB n l i) (l.getD i default)).1 (stepB (foldB n l i) (l.getD i default)).2 ∧ (stepB (foldB n l i) (l.getD i default)).1.cells.length = n
    unfold stepB
    by_cases h4 : (l.getD i default).kind = 4
    · rw [if_pos h4]
      refine ⟨(h1.crash (by omega) _).mono (by omega), ?_⟩
      show (crashL _ _ _).length = n
      rw [crashL_len]; exact h2
    · rw [if_neg h4]
      have hr := sameR_rel h1 (by omega) (by omega) _ hx
      refine ⟨hr, ?_⟩
      rw [hr.len, sameR_len, ← h1.len]; exact h2
theorem ropenN_bound {l : List RCell} {k : Nat} (h : ∀ c ∈ l, c.opn.length ≤ k) : ∀ i, i ≤ l.length → (ropenN l i).length ≤ i * k
  | 0, _ => by simp [ropenN]
  | i + 1, hi => by
    have ih := ropenN_bound h i (by omega)
    have hc : (l.getD i default).opn.length ≤ k := by
      refine h _ ?_
      rw [List.getD_eq_getElem?_getD, List.getElem?_eq_getElem (show i < l.length by omega)]; exact List.getElem_mem _
    show (ropenN l i ++ List.replicate (l.getD i default).opn.length (i : Int)).length ≤ _
    rw [List.length_append, List.length_replicate, Nat.succ_mul]; omega
theorem RelD.open_len {k : Nat} {D : DM} {R : RM} (h : RelD k D R) (hk : k ≤ 1000) (hn : D.cells.length ≤ 200) : D.openL.length ≤ 1000000000 := by
  rw [h.openL]
  have := ropenN_bound (opnR_len h) R.cells.length (Nat.le_refl _)
  have h2 : R.cells.length * k ≤ 200 * 1000 := Nat.mul_le_mul (by rw [← h.len]; exact hn) hk
  show (ropenN R.cells R.cells.length).length ≤ _
  omega
end Go.Proofs.Ytilcpcpmkklobaa

/- law22: a call on both disks, at the numbers of the law. -/
namespace Go.Proofs.Ytilcpcpmkklobaa
set_option linter.unusedSimpArgs false
set_option linter.unusedVariables false
set_option linter.unnecessarySimpa false
open Go.RowKit

theorem renL_dB {ρ : Nat → Nat} {S : Nat → Prop} {c m c' m' : Nat} (hc : S c) (hm : S m) (ec : ρ c = c') (em : ρ m = m') (D : DM) : RenL ρ S (dB c m D) (dB c' m' D) := by
  subst ec; subst em
  exact .cons (.msl c 0 _ _ hc) (.cons (.mref m hm) (.cons (.low _ (.val _)) (.cons (.low _ (.val _)) (.cons (.low _ (.val _)) .nil))))
theorem renL_rB {ρ : Nat → Nat} {S : Nat → Prop} {c c' : Nat} (hc : S c) (ec : ρ c = c') (D : RM) : RenL ρ S (rB c D) (rB c' D) := by
  subst ec
  exact .cons (.msl c 0 _ _ hc) (.cons (.low _ (.val _)) (.cons (.low _ (.val _)) (.cons (.low _ (.val _)) .nil)))
theorem ren_tup {ρ : Nat → Nat} {S : Nat → Prop} {ps qs : List PV} (h : RenL ρ S ps qs) : Ren ρ S (.tup ps) (.tup qs) := .tup _ _ h.1 h.2
def Ls : List (Nat × Nat) := [(1000001, 900001), (1000002, 900002), (1000003, 900003), (1000004, 900004), (1000005, 900005)]
theorem sm_at1 (D : DM) (R : RM) (x : ROp) (k : Nat) (h : RelD k D R) (hk : k ≤ 1000) (hn : 1 ≤ D.cells.length ∧ D.cells.length ≤ 200) (hx : -9223372036854775808 ≤ x.b ∧ x.b ≤ 9223372036854775807) (h4 : x.kind ≠ 4) :
    HCalls Try.prog 10 [.ptr 900001 0, .ptr 900004 0, .agg (ropL x)] (bothG 900001 900002 900003 900004 900005 D R) (dMs 900003 D) (smR 900001 900004) (bothG 900001 900002 900003 900004 900005 (sameR D R x).1 (sameR D R x).2) (dMs 900003 (sameR D R x).1) := by
  have e := sm_same1 D R x k h hk hn hx (h.open_len hk hn.2) h4
  refine e.at Ls (by decide) (by simp [ResIds, bothG, dMs, Ls]) (by simp [bothG]) (by simp [dMs]) (.cons (.ptr 1000001 _ (by simp [ResIds, bothG])) (.cons (.ptr 1000004 _ (by simp [ResIds, bothG])) (.cons (.low _ (.agg _ (ropL_low x))) .nil))) ?_ (.cons 1000003 _ _ _ _ (.low (dM_low _)) .nil) (ren_tup (.cons (.ptr 1000001 _ (by simp [ResIds, bothG])) (.cons (.ptr 1000004 _ (by simp [ResIds, bothG])) (.cons (.low _ (.val _)) .nil)))) ?_ (.cons 1000003 _ _ _ _ (.low (dM_low _)) .nil)
  · exact .cons 1000001 _ _ _ _ (renL_dB (by simp [ResIds, bothG]) (by simp [ResIds, dMs]) rfl rfl _) (.cons 1000002 _ _ _ _ (.low (dC_low _)) (.cons 1000004 _ _ _ _ (renL_rB (by simp [ResIds, bothG]) rfl _) (.cons 1000005 _ _ _ _ (.low (rC_low _)) .nil)))
  · exact .cons 1000001 _ _ _ _ (renL_dB (by simp [ResIds, bothG]) (by simp [ResIds, dMs]) rfl rfl _) (.cons 1000002 _ _ _ _ (.low (dC_low _)) (.cons 1000004 _ _ _ _ (renL_rB (by simp [ResIds, bothG]) rfl _) (.cons 1000005 _ _ _ _ (.low (rC_low _)) .nil)))
def Ls4 : List (Nat × Nat) := [(1000001, 900001), (1000002, 900002), (1000003, 900003), (1000004, 900004), (1000005, 900005), (900005, 900011), (900006, 900012), (900007, 900013), (900008, 900014), (900009, 900015)]
theorem sm_at4 (D : DM) (R : RM) (x : ROp) (k : Nat) (h : RelD k D R) (hk : k ≤ 1000) (hn : 1 ≤ D.cells.length ∧ D.cells.length ≤ 200) (hxa : -9223372036854775808 ≤ x.a ∧ x.a ≤ 9223372036854775807) (hx : -9223372036854775808 ≤ x.b ∧ x.b ≤ 9223372036854775807) (h4 : x.kind = 4) :
    HCalls Try.prog 10 [.ptr 900001 0, .ptr 900004 0, .agg (ropL x)] (bothG 900001 900002 900003 900004 900005 D R) (dMs 900003 D) (smR 900011 900014) (bothG2 900001 900002 900003 900004 900005 D R 900011 900012 900013 900014 900015 (D.crash [x.a, x.b]) (R.crash [x.a, x.b])) (crM 900003 900013 D (D.crash [x.a, x.b])) := by
  have e := sm_same4 D R x k h hk hn hxa hx h4
  refine e.at Ls4 (by decide) (by simp [ResIds, bothG2, crM, Ls4]) (by simp [bothG, bothG2]) (by simp [dMs, crM]) (.cons (.ptr 1000001 _ (by simp [ResIds, bothG])) (.cons (.ptr 1000004 _ (by simp [ResIds, bothG])) (.cons (.low _ (.agg _ (ropL_low x))) .nil))) ?_ (.cons 1000003 _ _ _ _ (.low (dM_low _)) .nil) (ren_tup (.cons (.ptr 900005 _ (by simp [ResIds, bothG2])) (.cons (.ptr 900008 _ (by simp [ResIds, bothG2])) (.cons (.low _ (.val _)) .nil)))) ?_ (.cons 1000003 _ _ _ _ (.low (dM_low _)) (.cons 900007 _ _ _ _ (.low (dM_low _)) .nil))
  · exact .cons 1000001 _ _ _ _ (renL_dB (by simp [ResIds, bothG]) (by simp [ResIds, dMs]) rfl rfl _) (.cons 1000002 _ _ _ _ (.low (dC_low _)) (.cons 1000004 _ _ _ _ (renL_rB (by simp [ResIds, bothG]) rfl _) (.cons 1000005 _ _ _ _ (.low (rC_low _)) .nil)))
  · exact .cons 1000001 _ _ _ _ (renL_dB (by simp [ResIds, bothG2]) (by simp [ResIds, crM]) rfl rfl _) (.cons 1000002 _ _ _ _ (.low (dC_low _)) (.cons 1000004 _ _ _ _ (renL_rB (by simp [ResIds, bothG2]) rfl _) (.cons 1000005 _ _ _ _ (.low (rC_low _)) (.cons 900005 _ _ _ _ (renL_dB (by simp [ResIds, bothG2]) (by simp [ResIds, crM]) rfl rfl _) (.cons 900006 _ _ _ _ (.low (dC_low _)) (.cons 900008 _ _ _ _ (renL_rB (by simp [ResIds, bothG2]) rfl _) (.cons 900009 _ _ _ _ (.low (rC_low _)) .nil)))))))
end Go.Proofs.Ytilcpcpmkklobaa

/- law22: DiskIsAsSpecified, the walk. -/
namespace Go.Proofs.Ytilcpcpmkklobaa
set_option linter.unusedSimpArgs false
set_option linter.unusedVariables false
set_option linter.unnecessarySimpa false
open Go.RowKit

section
variable {P : Program} {T : Tab} {σ : PS} {o : Oper} {i base : Nat} {ops : Array Oper} {ok : Nat → Nat → Bool} {rest : List (Nat × Oper)} {K : PS → Prop}
/-- A slice that is full: l[:n:n]. -/
theorem PWops.slcF {d n k e by_ : Nat} {cs zr : List PV} {x h m : Operand} {t : TypeId} {ti : TyI} (hg : pguard ops σ o = some true) (hd : o.dst = some d) (hop : o.op = .slice t x none (some h) (some m)) (hx : pev σ x = .sl n k cs none) (hh : pev σ h = pint n) (hm : pev σ m = pint n) (ht : T.at t = some ti) (hk : ti.kind = .slice e k by_ zr) (hb : σ.freeB (base + i) = true) (hcs : cs.length = n * k)
    (kn : PWops P T ops base ok rest K (σ.put d (.sl n k cs (some (e + 1000000))))) : PWops P T ops base ok ((i, o) :: rest) K σ := by
  refine PWops.stepM hg (E := ⟨.sl n k cs (some (e + 1000000)), [], none, []⟩) ?_ hb (by rw [hd]; exact kn)
  have hp : pbound n n (some (pint n)) = some n := by simp [pbound, pint]
  have hp0 : pbound 0 n none = some 0 := by simp [pbound]
  simp only [hop, presM, ht, pfull, hk, pev_only, hx, hh, hm, Option.map_some, Option.map_none, hp, hp0, if_true, Option.isSome_some, and_self]
  simp [hcs, List.take_of_length_le]
/-- An append to a full slice. -/
theorem PWops.appF {d s n m k e by_ : Nat} {cs ds zr : List PV} {own : Option TypeId} {x : Operand} {t : TypeId} {sz : Nat} {ag : Bool} {zz : List PV} {es : List SK} (hg : pguard ops σ o = some true) (hd : o.dst = some d) (hop : o.op = .call { callee := .builtin .append, args := #[.tmp s, x], argTypes := #[t, t] }) (hs : σ.t s = .sl n k cs (some (e + 1000000))) (hx : pev σ x = .sl m k ds own) (ht : T.at t = some ⟨sz, ag, .slice e k by_ zr, zz, es⟩) (hb : σ.freeB (base + i) = true) (he : Nat.blt e 1000000 = true) (hm : 0 < m)
    (h1 : (n + m) * by_ ≤ 140737488355328) (h2 : n + m ≤ 140737488355328) (hone : ds.all PV.one = true) (kn : PWops P T ops base ok rest K ((σ.put s (.sl n k cs none)).put d (.sl (n + m) k (cs ++ ds) (some e)))) : PWops P T ops base ok ((i, o) :: rest) K σ := by
  refine PWops.step hg (E := ⟨.sl (n + m) k (cs ++ ds) (some e), [], some s, []⟩) ?_ hb ?_
  · have how : ownPV (σ.only (ok i)) (.tmp s) = .sl n k cs (some (e + 1000000)) := hs
    simp [hop, presE, how, pev_only, hx, ht, pappend, asOwn, asSrc, h1, h2, disOf, hm, (by simpa [Nat.blt_eq] using he : e < 1000000)]
    simpa using hone
  · rw [hd]
    simp only [PS.app, hs, List.foldl_nil, List.foldl_cons]
    exact kn
end

set_option maxRecDepth 10000 in
set_option maxHeartbeats 8000000 in
theorem pw_asSpec (hsan : PCalls Try.prog 8 [] (· = pbool true)) (n : Int) (l : List ROp) (hn : -9223372036854775808 ≤ n ∧ n ≤ 9223372036854775807) (hl : ∀ x ∈ l, (-9223372036854775808 ≤ x.kind ∧ x.kind ≤ 9223372036854775807) ∧ (-9223372036854775808 ≤ x.a ∧ x.a ≤ 9223372036854775807) ∧ (-9223372036854775808 ≤ x.b ∧ x.b ≤ 9223372036854775807)) (hll : l.length ≤ 1000000000000000) : PCalls Try.prog 3 [pint n, props l] (· = pbool true) := by
  have hlp := low_props l
  refine pcalls_of_pw typeTab_ok Try.func3 rfl (by kernel_rfl) (by intro p hp; simp at hp; rcases hp with rfl | rfl; exact .val _; exact hlp) (by simp [props, pint, PV.ownB]) (Nat.le_of_ble_eq_true rfl) ?_
  by_cases h1 : n < 1
  · have hnew := dc_New0 n (.inl h1)
    refine wk ?_
    exact retP rfl (by exact lw) rfl
  by_cases h2 : 65536 < n
  · have hnew := dc_New0 n (.inr h2)
    refine wk ?_
    exact retP rfl (by exact lw) rfl
  obtain ⟨N, rfl⟩ : ∃ N : Nat, n = N := ⟨n.toNat, by omega⟩
  have hnew := dc_New N (by omega) 900001 900002 900003 (by decide)
  by_cases h3 : 200 < N
  · refine wk ?_
    exact retP rfl (by exact lw) rfl
  by_cases h4 : 60 < l.length
  · refine wk ?_
    exact retP rfl (by exact lw) rfl
  have hnw2 := rc_New N (by omega) 900004 900005 (by decide)
  rw [Int.toNat_natCast] at hnew hnw2
  refine wk ?_
  refine PWops.slcF rfl rfl rfl rfl rfl rfl rfl rfl rfl (flatMap_len ropL_len l) ?_
  refine wk ?_
  refine PWops.appF rfl rfl rfl rfl rfl rfl rfl rfl (by decide) (by omega) (by omega) rfl ?_
  obtain ⟨L, hL⟩ : ∃ L : List ROp, L = l ++ [⟨9, 0, 0⟩] := ⟨_, rfl⟩
  have hLl : L.length = l.length + 1 := by rw [hL]; simp
  have hLx : ∀ x ∈ L, (-9223372036854775808 ≤ x.kind ∧ x.kind ≤ 9223372036854775807) ∧ (-9223372036854775808 ≤ x.a ∧ x.a ≤ 9223372036854775807) ∧ (-9223372036854775808 ≤ x.b ∧ x.b ≤ 9223372036854775807) := by
    intro x hx
    rw [hL] at hx
    rcases List.mem_append.1 hx with hx | hx
    · exact hl x hx
    · simp at hx; subst hx; decide
  have hLs : (.sl (l.length + 1) 3 (List.flatMap ropL l ++ [PV.val (.int .i64 9), PV.val (.int .i64 0), PV.val (.int .i64 0)]) (some 29) : PV) = .sl L.length 3 (L.flatMap ropL) (some 29) := by
    rw [hLl, hL, List.flatMap_append]; rfl
  rw [hLs]
  clear hLs hL hnew hnw2 hl
  have hLlow : Low (.sl L.length 3 (L.flatMap ropL) none) := .sl _ _ _ _ (flat_low ropL_low L)
  refine wk ?_
  refine PW.loop (fun i : Nat => ((((((((((bot.setb 900001 (dB 900002 900003 (foldB N L i).1)).setb 900002 (dC (foldB N L i).1)).setm 900003 (dM (foldB N L i).1)).setb 900004 (rB 900005 (foldB N L i).2)).setb 900005 (rC (foldB N L i).2)).put 0 (pint N)).put 5 (.ptr 900001 0)).put 6 (.ptr 900004 0)).put 47 (.sl L.length 3 (L.flatMap ropL) none)).put 48 (pint L.length)).put 49 (pint i)) (fun i => i ≤ L.length) (fun i => L.length - i) 0 (Nat.zero_le _) ?_ ?_
  · have b1 := dC_low (newD N)
    have b2 := dM_low (newD N)
    have b3 := rC_low (newR N)
    have e0 : foldB N L 0 = (newD N, newR N) := rfl
    try dsimp only
    rw [e0]
    exact sb
  · intro i hi
    obtain ⟨hrel, hnl⟩ := foldB_rel N (by omega) L (fun x hx => (hLx x hx).2.2.2) i (by omega) hi
    by_cases hlt : i < L.length
    · have hm : L.getD i default ∈ L := by
        rw [List.getD_eq_getElem?_getD, List.getElem?_eq_getElem hlt]; exact List.getElem_mem hlt
      obtain ⟨-, xa, xb⟩ := hLx _ hm
      have hst : foldB N L (i + 1) = stepB (foldB N L i) (L.getD i default) := rfl
      by_cases hk4 : (L.getD i default).kind = 4
      · have k1 := sm_at4 (foldB N L i).1 (foldB N L i).2 (L.getD i default) i hrel (by omega) (by omega) xa xb hk4
        have hst' : foldB N L (i + 1) = ((foldB N L i).1.crash [(L.getD i default).a, (L.getD i default).b], (foldB N L i).2.crash [(L.getD i default).a, (L.getD i default).b]) := by rw [hst]; unfold stepB; rw [if_pos hk4]
        generalize hQ : foldB N L (i + 1) = Q at *
        have e1 : (foldB N L i).1.crash [(L.getD i default).a, (L.getD i default).b] = Q.1 := by rw [hst']
        have e2 : (foldB N L i).2.crash [(L.getD i default).a, (L.getD i default).b] = Q.2 := by rw [hst']
        rw [e1, e2] at k1
        clear hst hst' hrel e1 e2
        generalize foldB N L i = P0 at *
        refine wk ?_
        refine loopP (i + 1) (by omega) (by omega) ?_
        try dsimp only
        rw [hQ]
        have b1 := dC_low Q.1
        have b2 := dM_low Q.1
        have b3 := rC_low Q.2
        refine Sub.other (κ := renN [(900001, 900011), (900002, 900012), (900003, 900013), (900004, 900014), (900005, 900015)]) [900005, 900004, 900003, 900002, 900001] (by (repeat (first | exact SubR.bot | ((with_reducible refine SubR.isp ?_) ; refine SubR.put ?_ (by (first | exact .inl (.ptr _ _ rfl) | exact .inl (.msl _ _ _ _ rfl) | exact .inl (.mref _ rfl) | exact .inl (.low _ (by (first | exact low_mapI | exact low_mapS | exact low_mapB | assumption | exact hlow _ | exact hlow _ _ | exact Low.agg _ (low_map (fun _ => Low.val _) _) | (simp [low_pu32, low_pu64, low_val, low_nilsl, low_sl, low_ep, low_agg, low_tup, low_fn, low_pint, low_pstr, low_pbool, low_pints, low_pstrs, low_pbyte, low_pbytes, hlow] ; done) | (simp [low_pu32, low_pu64, low_val, low_nilsl, low_sl, low_ep, low_agg, low_tup, low_fn, low_pint, low_pstr, low_pbool, low_pints, low_pstrs, low_pbyte, low_pbytes] ; done) | simp [low_pu32, low_pu64, low_val, low_nilsl, low_sl, low_ep, low_agg, low_tup, low_fn, low_pint, low_pstr, low_pbool, low_pints, low_pstrs, low_pbyte, low_pbytes, low_pattrs, low_pdefs, low_pschema, low_pentry]))) | exact .inr (.inl (.low _ (by (first | exact low_mapI | exact low_mapS | exact low_mapB | assumption | exact hlow _ | exact hlow _ _ | exact Low.agg _ (low_map (fun _ => Low.val _) _) | (simp [low_pu32, low_pu64, low_val, low_nilsl, low_sl, low_ep, low_agg, low_tup, low_fn, low_pint, low_pstr, low_pbool, low_pints, low_pstrs, low_pbyte, low_pbytes, hlow] ; done) | (simp [low_pu32, low_pu64, low_val, low_nilsl, low_sl, low_ep, low_agg, low_tup, low_fn, low_pint, low_pstr, low_pbool, low_pints, low_pstrs, low_pbyte, low_pbytes] ; done) | simp [low_pu32, low_pu64, low_val, low_nilsl, low_sl, low_ep, low_agg, low_tup, low_fn, low_pint, low_pstr, low_pbool, low_pints, low_pstrs, low_pbyte, low_pbytes, low_pattrs, low_pdefs, low_pschema, low_pentry])))) | exact .inr (.inr ⟨_, _, rfl, rfl⟩)))) | ((with_reducible refine SubR.isb ?_) ; refine SubR.setb ?_ rfl rfl (by (first | exact RenQL.low (by first | assumption | exact hlow _ | exact hlow _ _ | exact low_map (fun _ => Low.val _) _) | exact RenQL.lowE (by assumption) (low_map (fun _ => Low.val _) _) | ((repeat (refine RenQL.cons (by (first | exact .inl (.ptr _ _ rfl) | exact .inl (.msl _ _ _ _ rfl) | exact .inl (.mref _ rfl) | exact .inl (.low _ (by (first | exact low_mapI | exact low_mapS | exact low_mapB | assumption | exact hlow _ | exact hlow _ _ | exact Low.agg _ (low_map (fun _ => Low.val _) _) | (simp [low_pu32, low_pu64, low_val, low_nilsl, low_sl, low_ep, low_agg, low_tup, low_fn, low_pint, low_pstr, low_pbool, low_pints, low_pstrs, low_pbyte, low_pbytes, hlow] ; done) | (simp [low_pu32, low_pu64, low_val, low_nilsl, low_sl, low_ep, low_agg, low_tup, low_fn, low_pint, low_pstr, low_pbool, low_pints, low_pstrs, low_pbyte, low_pbytes] ; done) | simp [low_pu32, low_pu64, low_val, low_nilsl, low_sl, low_ep, low_agg, low_tup, low_fn, low_pint, low_pstr, low_pbool, low_pints, low_pstrs, low_pbyte, low_pbytes, low_pattrs, low_pdefs, low_pschema, low_pentry]))) | exact .inr (.inl (.low _ (by (first | exact low_mapI | exact low_mapS | exact low_mapB | assumption | exact hlow _ | exact hlow _ _ | exact Low.agg _ (low_map (fun _ => Low.val _) _) | (simp [low_pu32, low_pu64, low_val, low_nilsl, low_sl, low_ep, low_agg, low_tup, low_fn, low_pint, low_pstr, low_pbool, low_pints, low_pstrs, low_pbyte, low_pbytes, hlow] ; done) | (simp [low_pu32, low_pu64, low_val, low_nilsl, low_sl, low_ep, low_agg, low_tup, low_fn, low_pint, low_pstr, low_pbool, low_pints, low_pstrs, low_pbyte, low_pbytes] ; done) | simp [low_pu32, low_pu64, low_val, low_nilsl, low_sl, low_ep, low_agg, low_tup, low_fn, low_pint, low_pstr, low_pbool, low_pints, low_pstrs, low_pbyte, low_pbytes, low_pattrs, low_pdefs, low_pschema, low_pentry])))) | exact .inr (.inr ⟨_, _, rfl, rfl⟩))) ?_)) ; exact RenQL.nil)))) | ((with_reducible refine SubR.ism ?_) ; refine SubR.setm ?_ rfl rfl (by (first | exact ⟨rfl, rfl, rfl, rfl, rfl⟩ | exact RenM.low (by first | assumption | exact hlowm _ | exact hlowm _ _))))))) ?_ rfl rfl
        exact kn_put (kn_put (kn_put (kn_put (kn_put (kn_put (kn_setb (kn_setb (kn_setm (kn_setb (kn_setb kn_bot))))))))))
      · have k1 := sm_at1 (foldB N L i).1 (foldB N L i).2 (L.getD i default) i hrel (by omega) (by omega) xb hk4
        have hst' : foldB N L (i + 1) = sameR (foldB N L i).1 (foldB N L i).2 (L.getD i default) := by rw [hst]; unfold stepB; rw [if_neg hk4]
        rw [← hst'] at k1
        clear hst hst' hrel
        generalize hQ : foldB N L (i + 1) = Q at *
        generalize foldB N L i = P0 at *
        refine wk ?_
        refine loopP (i + 1) (by omega) (by omega) ?_
        try dsimp only
        rw [hQ]
        have b1 := dC_low Q.1
        have b2 := dM_low Q.1
        have b3 := rC_low Q.2
        exact sb
    · obtain rfl : i = L.length := by omega
      generalize foldB N L L.length = P0 at *
      obtain ⟨D, R⟩ := P0
      dsimp only at hrel hnl ⊢
      have b1 := dC_low D
      have b2 := dM_low D
      have b3 := rC_low R
      have hro := opnR_len hrel
      have hrl := hrel.len
      refine wk ?_
      refine PW.loop (fun q : Nat => (((((((((bot.setb 900001 (dB 900002 900003 D)).setb 900002 (dC D)).setm 900003 (dM D)).setb 900004 (rB 900005 R)).setb 900005 (rC R)).put 5 (.ptr 900001 0)).put 6 (.ptr 900004 0)).put 64 (pint N)).put 65 (pint q))) (fun q => q ≤ N) (fun q => N - q) 0 (Nat.zero_le _) ?_ ?_
      · exact sb
      · intro q hq
        by_cases hlt : q < N
        · have w1 := dc_Read D q (by omega) (fun e he => by have := hrel.ok.room e he; omega) 900001 900002 900003 (by decide)
          have w2 := rc_Read R q (by omega) (fun c hc => by have := hro c hc; omega) 900004 900005 (by decide)
          rw [hrel.read] at w1
          clear hrel hro
          generalize R.read (q : Int) = g at *
          obtain ⟨v, e1⟩ := g
          dsimp only at w1 w2
          have hee : (e1 == e1) = true := by simp
          have hne : (e1 != e1) = false := by simp
          have qv := peqs_self v
          refine wk ?_
          refine PWops.stAll rfl rfl rfl rfl rfl rfl rfl rfl rfl (gotL_len _ _) (by kernel_rfl) (gotL_one _ _) (gotL_bare _ _) ?_
          refine wk ?_
          refine PWops.ldBA rfl rfl rfl rfl rfl rfl rfl (by rw [gotL_len]; decide) (gotL_sec v e1) ?_
          refine wk ?_
          refine PWops.eqA rfl rfl rfl rfl rfl rfl rfl rfl qv (.inr rfl) ?_
          refine wk ?_
          refine PWops.ldB rfl rfl rfl rfl rfl rfl rfl rfl (gotL_64 v e1) rfl ?_
          refine wk ?_
          refine loopP (q + 1) (by omega) (by omega) ?_
          exact sb
        · obtain rfl : q = N := by omega
          clear hrel hro
          refine wk ?_
          exact retP rfl (by exact lw) rfl
end Go.Proofs.Ytilcpcpmkklobaa

/- Proved here: antiquarylaw22.DiskIsAsSpecified returns true for every input, and leaves its arguments as they were. No conditions. -/
namespace Go.Proofs.Ytilcpcpmkklobaa
set_option linter.unusedSimpArgs false
set_option linter.unusedVariables false
set_option linter.unnecessarySimpa false
open Go.ChangeShapes Go.WideShapes Go.ChangeAt Go.RowKit

set_option maxRecDepth 100000 in
theorem asSpec_lifted (os : Os) (started : os.Started) (H : Type) (enc : TypeId × Value → H) :
    ReturnsInHanded {} Try.checked os 3 .any (Rows.diskIsAsSpecifiedSpec.pre6 enc Try.prog Try.f3 Rows.diskIsAsSpecifiedRow.domain false) (Rows.diskIsAsSpecifiedSpec.post enc Try.prog Try.f3 false true false false) := by
  refine law_lifted os started H enc Try.func3 (by kernel_rfl)
    (ChangeSpec.witness6 (enc := enc) (C := Try.checked) false ⟨#[], #[.int .i64 0, .slice none 0 0], []⟩ 8 (by kernel_rfl) (by kernel_rfl) (by kernel_rfl) (by kernel_rfl))
    Try.underlying4 rfl rfl (by kernel_rfl) (fun ds hd => ?_)
    (argsOpen_cons argI (argsOpen_cons argOps argsOpen_nil)) (fun y hy => ?_)
  · match ds, hd with
    | [d1, d2], _ => exact ⟨rfl, rfl, rfl⟩
  · obtain ⟨n, l, u⟩ := y
    obtain ⟨hn, hl, -⟩ := hy
    have e := reachE
    simp only at hn hl
    have hl2 := hl.2
    skip
    exact pw_asSpec pw_sanity22 n l hn hl.1 (by omega)

theorem asSpec_holds : Rows.DiskIsAsSpecifiedSaid :=
  OpenClaim.holds_of_wide 3 Try.f3 rfl rfl rfl rfl rfl rfl rfl ⟨rfl, rfl, rfl, rfl, rfl⟩ rfl rfl rfl rfl rfl (by kernel_rfl) Try.func3 (by kernel_rfl)
    (of_decide_eq_true (by kernel_rfl)) (by unfold Func.isWrapper; first | (rw [if_pos (by decide +kernel)]; kernel_rfl) | (rw [if_neg (by decide +kernel)]; exact ⟨rfl, rfl⟩))
    (fun os started H enc _ => asSpec_lifted os started H enc)

#print axioms asSpec_holds
end Go.Proofs.Ytilcpcpmkklobaa
