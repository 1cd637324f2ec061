/- Merged: Dc, Dd, De, Df, Dh, Ja, Jb, PwZ3, Jc, Jd, Je, Jg, Jh, Ji, Jk, Ha, Hb, PlainA, PlainB, PlainC, PlainW, PlainX, PlainY, PlainD. -/
import Derived.Test.YtilcpcpmkklobaaDoorC3
/- The disk: Read, Rot. -/
namespace Go.Proofs.YtilcpcpmkklobaaDoor
set_option linter.unusedSimpArgs false
set_option linter.unusedVariables false
set_option linter.unnecessarySimpa false
open Go.RowKit

def psec (s : Sec) : PV := .agg (secL s)
theorem psec_low (s : Sec) : Low (psec s) := .agg _ (secL_low s)
def opIdx (i : Int) : List (Nat × Int × List Sec) → Nat → Option Nat
  | [], _ => none
  | (_, k, _) :: l, n => if i = k then some n else opIdx i l (n + 1)
theorem opIdx_find (i : Int) : ∀ (l : List (Nat × Int × List Sec)) (n : Nat), mfind .int (.int .i64 i) (l.map dE) n = some (opIdx i l n)
  | [], n => rfl
  | (s, k, v) :: l, n => by
    simp only [List.map_cons, dE, pint, mfind, veq, if_true, opIdx]
    by_cases h : i = k
    · subst h; simp
    · have : (i == k) = false := by simpa using h
      rw [this, if_neg h]
      exact opIdx_find i l (n + 1)
theorem opIdx_lt {i : Int} : ∀ {l : List (Nat × Int × List Sec)} {n j : Nat}, opIdx i l n = some j → n ≤ j ∧ j < n + l.length ∧ ∃ s v, l[j - n]? = some (s, i, v)
  | [], n, j, h => by simp [opIdx] at h
  | (s, k, v) :: l, n, j, h => by
    simp only [opIdx] at h
    split at h
    · rename_i e; subst e; cases h; exact ⟨Nat.le_refl _, by simp, s, v, by simp⟩
    · obtain ⟨h1, h2, s', v', h3⟩ := opIdx_lt h
      refine ⟨by omega, by simp; omega, s', v', ?_⟩
      rw [show j - n = (j - (n + 1)) + 1 by omega]; simpa using h3
instance : Inhabited (Nat × Int × List Sec) := ⟨(0, 0, [])⟩
/-- The open writes of a sector. -/
def DM.get (D : DM) (i : Int) : List Sec := match opIdx i D.op 0 with
  | some j => (D.op.getD j default).2.2
  | none => []
def lastS (l : List Sec) : Sec := l.getD ((l.length : Int) - 1).toNat default
def DM.cell (D : DM) (i : Int) : DCell := D.cells.getD i.toNat default
def DM.read (D : DM) (i : Int) : Sec × Int := if D.check i = 0 then (if 0 < (D.get i).length then (lastS (D.get i), 0) else if (D.cell i).bad then (zeroSec, 221) else ((D.cell i).s, 0)) else (zeroSec, D.check i)

theorem dget (D : DM) (i : Int) {ki ei : TyI} (hk : ki.kind = .int .i64) (he : zeroPV ei = some .nilsl) : ∃ b, mget ki ei (D.op.map dE) (.int .i64 i) = some (if opIdx i D.op 0 = none then .nilsl else psecs (D.get i) none, b) := by
  unfold mget
  simp only [hk, keyOK, skT, decide_true, if_true, opIdx_find]
  cases h : opIdx i D.op 0 with
  | none => exact ⟨false, by simp [he, PV.bare]⟩
  | some j =>
    obtain ⟨-, h2, s, v, h3⟩ := opIdx_lt h
    simp only [Nat.sub_zero] at h3
    refine ⟨true, ?_⟩
    simp only [List.getElem?_map, h3, Option.map_some, dE, reduceCtorEq, if_false, DM.get, h, List.getD_eq_getElem?_getD, Option.getD_some]
    rfl

theorem check0 {D : DM} {i : Int} (h : D.check i = 0) : D.dead = false ∧ 0 ≤ i ∧ i < D.cells.length := by
  unfold DM.check at h
  split at h
  · cases h
  · split at h
    · cases h
    · rename_i h1 h2
      exact ⟨by simpa using h1, by omega, by omega⟩

theorem dcellL_64 (c : DCell) : (dcellL c)[64]? = some (pbool c.bad) := by
  rw [dcellL, List.getElem?_append_right (by rw [secL_len]; exact Nat.le_refl _), secL_len]; rfl

section
variable {P : Program} {T : Tab} {σ : PS} {o : Oper} {i base : Nat} {ops : Array Oper} {ok : Nat → Nat → Bool} {rest : List (Nat × Oper)} {K : PS → Prop}
theorem PWops.ldSec {d id : Nat} {z : Nat} {l : List DCell} {x : Operand} {t : TypeId} {kd : TD} {zr : List PV} {es : List SK} (hg : pguard ops σ o = some true) (hd : o.dst = some d) (hop : o.op = .load t x) (hx : pev σ x = .ptr id (0 + z * 65 + 0)) (ht : T.at t = some ⟨64, true, kd, zr, es⟩) (hb : σ.freeB (base + i) = true) (hbs : (σ.only (ok i)).b id = some (l.flatMap dcellL)) (hl : z < l.length)
    (kn : PWops P T ops base ok rest K (σ.put d (psec (l.getD z default).s))) : PWops P T ops base ok ((i, o) :: rest) K σ := by
  refine PWops.ldBA hg hd hop hx ht hb hbs ?_ ?_ kn
  · rw [flatMap_len dcellL_len]
    have := Nat.mul_le_mul_right 65 (show z + 1 ≤ l.length from hl)
    omega
  · have h1 := flatMap_row dcellL_len (getD_get default hl)
    have h2 : ((l.flatMap dcellL).drop (0 + z * 65 + 0)).take 64 = (((l.flatMap dcellL).drop (z * 65)).take 65).take 64 := by
      rw [List.take_take, show 0 + z * 65 + 0 = z * 65 by omega]; rfl
    rw [h2, h1, dcellL, List.take_append_of_le_length (by rw [secL_len]; exact Nat.le_refl _), List.take_of_length_le (by rw [secL_len]; exact Nat.le_refl _), secL_bare]
end

set_option maxRecDepth 10000 in
set_option maxHeartbeats 1000000 in
theorem dc_Read (D : DM) (i : Int) (hsz : D.cells.length ≤ 1000000000) (hop : ∀ e ∈ D.op, e.2.2.length ≤ 1000000000) : DCalls 22 [pint i] D (.tup [psec (D.read i).1, pint (D.read i).2]) D := by
  refine dcalls_of_pw Tryd.func22 rfl rfl (by exact lw) (by simp [pint, PV.ownB]) (Nat.le_of_ble_eq_true rfl) (.tup _ (by intro c hc; simp at hc; rcases hc with rfl | rfl; exact psec_low _; exact .val _)) ?_
  have hck := dc_check D i 1000001 1000002 1000003 (by decide)
  have hgl : (D.get i).length ≤ 1000000000 := by
    unfold DM.get
    cases h : opIdx i D.op 0 with
    | none => simp
    | some j =>
      obtain ⟨-, h2, s, v, h3⟩ := opIdx_lt h
      simp only [Nat.sub_zero] at h3
      simp only [List.getD_eq_getElem?_getD, h3, Option.getD_some]
      exact hop _ (List.mem_of_getElem? h3)
  by_cases h1 : D.check i = 0
  · obtain ⟨hd, hi0, hi1⟩ := check0 h1
    obtain ⟨b, hb⟩ := dget D i (ki := ⟨1, false, .int .i64, [.val (.int .i64 0)], []⟩) (ei := ⟨1, false, .slice 53 64 64 (List.replicate 64 (.val (.int .u8 0))), [.nilsl], []⟩) rfl rfl
    cases hx : opIdx i D.op 0 with
    | none =>
      have hg0 : D.get i = [] := by simp [DM.get, hx]
      rw [hx] at hb
      simp only [if_true] at hb
      cases hbad : (D.cells.getD i.toNat default).bad with
      | true =>
        have hr : D.read i = (zeroSec, 221) := by unfold DM.read DM.cell; rw [if_pos h1, hg0, hbad]; rfl
        rw [hr]
        refine wk ?_
        exact RetH.mk (presult2 (pres_cell rfl rfl rfl (by (first | rfl | exact secL_len _ | exact dcellL_len _ | exact putL_len _ | exact len_map (by assumption) | exact len_map rfl)) (by (first | rfl | exact secL_bare _ | exact dcellL_bare _ | exact putL_bare _ | exact bare_map (fun _ => rfl) _))) rfl) (Weak.eq rfl) ⟨⟨_, rfl, WeakL.refl _⟩, ⟨_, rfl, WeakL.refl _⟩, trivial⟩ ⟨⟨rfl, rfl⟩, trivial⟩
      | false =>
        have hr : D.read i = ((D.cells.getD i.toNat default).s, 0) := by unfold DM.read DM.cell; rw [if_pos h1, hg0, hbad]; rfl
        rw [hr]
        refine wk ?_
        exact RetH.mk (presult2 (pres_cell rfl rfl rfl (by (first | rfl | exact secL_len _ | exact dcellL_len _ | exact putL_len _ | exact len_map (by assumption) | exact len_map rfl)) (by (first | rfl | exact secL_bare _ | exact dcellL_bare _ | exact putL_bare _ | exact bare_map (fun _ => rfl) _))) rfl) (Weak.eq rfl) ⟨⟨_, rfl, WeakL.refl _⟩, ⟨_, rfl, WeakL.refl _⟩, trivial⟩ ⟨⟨rfl, rfl⟩, trivial⟩
    | some j =>
      rw [hx] at hb
      simp only [reduceCtorEq, if_false] at hb
      by_cases hl : 0 < (D.get i).length
      · have hr : D.read i = (lastS (D.get i), 0) := by simp [DM.read, h1, hl]
        rw [hr]
        refine wk ?_
        exact RetH.mk (presult2 (pres_cell rfl rfl rfl (by (first | rfl | exact secL_len _ | exact dcellL_len _ | exact putL_len _ | exact len_map (by assumption) | exact len_map rfl)) (by (first | rfl | exact secL_bare _ | exact dcellL_bare _ | exact putL_bare _ | exact bare_map (fun _ => rfl) _))) rfl) (Weak.eq rfl) ⟨⟨_, rfl, WeakL.refl _⟩, ⟨_, rfl, WeakL.refl _⟩, trivial⟩ ⟨⟨rfl, rfl⟩, trivial⟩
      · have hl0 : (D.get i).length = 0 := by omega
        cases hbad : (D.cells.getD i.toNat default).bad with
        | true =>
          have hr : D.read i = (zeroSec, 221) := by unfold DM.read DM.cell; rw [if_pos h1, if_neg hl, hbad]; rfl
          rw [hr]
          refine wk ?_
          exact RetH.mk (presult2 (pres_cell rfl rfl rfl (by (first | rfl | exact secL_len _ | exact dcellL_len _ | exact putL_len _ | exact len_map (by assumption) | exact len_map rfl)) (by (first | rfl | exact secL_bare _ | exact dcellL_bare _ | exact putL_bare _ | exact bare_map (fun _ => rfl) _))) rfl) (Weak.eq rfl) ⟨⟨_, rfl, WeakL.refl _⟩, ⟨_, rfl, WeakL.refl _⟩, trivial⟩ ⟨⟨rfl, rfl⟩, trivial⟩
        | false =>
          have hr : D.read i = ((D.cells.getD i.toNat default).s, 0) := by unfold DM.read DM.cell; rw [if_pos h1, if_neg hl, hbad]; rfl
          rw [hr]
          refine wk ?_
          exact RetH.mk (presult2 (pres_cell rfl rfl rfl (by (first | rfl | exact secL_len _ | exact dcellL_len _ | exact putL_len _ | exact len_map (by assumption) | exact len_map rfl)) (by (first | rfl | exact secL_bare _ | exact dcellL_bare _ | exact putL_bare _ | exact bare_map (fun _ => rfl) _))) rfl) (Weak.eq rfl) ⟨⟨_, rfl, WeakL.refl _⟩, ⟨_, rfl, WeakL.refl _⟩, trivial⟩ ⟨⟨rfl, rfl⟩, trivial⟩
  · have hr : D.read i = (zeroSec, D.check i) := by simp [DM.read, h1]
    rw [hr]
    refine wk ?_
    exact RetH.mk (presult2 (pres_cell rfl rfl rfl (by (first | rfl | exact secL_len _ | exact dcellL_len _ | exact putL_len _ | exact len_map (by assumption) | exact len_map rfl)) (by (first | rfl | exact secL_bare _ | exact dcellL_bare _ | exact putL_bare _ | exact bare_map (fun _ => rfl) _))) rfl) (Weak.eq rfl) ⟨⟨_, rfl, WeakL.refl _⟩, ⟨_, rfl, WeakL.refl _⟩, trivial⟩ ⟨⟨rfl, rfl⟩, trivial⟩
end Go.Proofs.YtilcpcpmkklobaaDoor

/- The disk: Rot, Write. -/
namespace Go.Proofs.YtilcpcpmkklobaaDoor
set_option linter.unusedSimpArgs false
set_option linter.unusedVariables false
set_option linter.unnecessarySimpa false
open Go.RowKit

def DM.setc (D : DM) (i : Int) (c : DCell) : DM := { D with cells := D.cells.set i.toNat c }
def DM.rot (D : DM) (i : Int) : DM := if D.check i = 0 then D.setc i ⟨zeroSec, true⟩ else D

set_option maxRecDepth 10000 in
set_option maxHeartbeats 1000000 in
theorem dc_Rot (D : DM) (i : Int) : DCalls 16 [pint i] D (pint (D.check i)) (D.rot i) := by
  refine dcalls_of_pw Tryd.func16 rfl rfl (by exact lw) (by simp [pint, PV.ownB]) (Nat.le_of_ble_eq_true rfl) (.val _) ?_
  have hck := dc_check D i 1000001 1000002 1000003 (by decide)
  by_cases h1 : D.check i = 0
  · obtain ⟨hd, hi0, hi1⟩ := check0 h1
    have hr : D.rot i = D.setc i ⟨zeroSec, true⟩ := by unfold DM.rot; rw [if_pos h1]
    rw [hr]
    refine wk ?_
    refine PWops.stBR (v := ⟨zeroSec, true⟩) rfl rfl rfl rfl rfl rfl rfl rfl rfl dcellL_len (by (first | omega | (dsimp only ; omega))) rfl ?_
    refine wk ?_
    exact RetH.mk rfl (Weak.refl _) ⟨⟨_, rfl, WeakL.eq (by simp [dB, DM.setc])⟩, ⟨_, rfl, WeakL.refl _⟩, trivial⟩ ⟨⟨rfl, rfl⟩, trivial⟩
  · have hr : D.rot i = D := by unfold DM.rot; rw [if_neg h1]
    rw [hr]
    refine wk ?_
    exact RetH.mk rfl (Weak.refl _) ⟨⟨_, rfl, WeakL.refl _⟩, ⟨_, rfl, WeakL.refl _⟩, trivial⟩ ⟨⟨rfl, rfl⟩, trivial⟩

/-- The map with one more open write. -/
def addW (D : DM) (i : Int) (s : Sec) : DM := match opIdx i D.op 0 with
  | some j => { D with op := D.op.set j ((D.op.getD j default).1, i, (D.op.getD j default).2.2 ++ [s]) }
  | none => { D with op := D.op ++ [(D.clock, i, [s])], clock := D.clock + 1 }
def DM.write (D : DM) (i : Int) (s : Sec) : Int × DM := if D.check i = 0 then (if D.step.1 = 0 then (0, addW D.step.2 i s) else D.step) else (D.check i, D)

theorem mfind_set {sk : SK} {kv : Value} : ∀ {es : List (Nat × PV × PV)} {j n : Nat} {s s' : Nat} {kp c c' : PV}, es[j]? = some (s, kp, c) → mfind sk kv (es.set j (s', kp, c')) n = mfind sk kv es n
  | [], j, n, s, s', kp, c, c', h => by simp at h
  | (a, b, d) :: es, 0, n, s, s', kp, c, c', h => by
    simp at h
    obtain ⟨rfl, rfl, rfl⟩ := h
    simp only [List.set_cons_zero]
    cases b <;> rfl
  | (a, b, d) :: es, j + 1, n, s, s', kp, c, c', h => by
    simp at h
    have ih := fun n => mfind_set (sk := sk) (kv := kv) (n := n) (s' := s') (c' := c') h
    simp only [List.set_cons_succ]
    cases b <;> simp only [mfind, ih]

theorem addW_some {D : DM} {i : Int} {s : Sec} {j : Nat} (hj : opIdx i D.op 0 = some j) {ki : TyI} (hk : ki.kind = .int .i64) (e : Nat × Int × List Sec) (he : D.op[j]? = some e) :
    mput ki ((D.op.map dE).set j (e.1, pint e.2.1, .sl e.2.2.length 64 (e.2.2.flatMap secL) none)) D.clock (.int .i64 i) (.sl (e.2.2.length + 1) 64 (e.2.2.flatMap secL ++ secL s) (some 53)) = some (dM (addW D i s)) := by
  obtain ⟨-, h2, s', v, h3⟩ := opIdx_lt hj
  simp only [Nat.sub_zero] at h3
  rw [he] at h3
  simp only [Option.some.injEq] at h3
  subst h3
  have hj' : (D.op.map dE)[j]? = some (s', pint i, psecs v (some 53)) := by rw [List.getElem?_map, he]; rfl
  have hl : j < (D.op.map dE).length := (List.getElem?_eq_some_iff.1 hj').1
  unfold mput
  simp only [hk, keyOK, skT, decide_true, if_true]
  rw [mfind_set hj', opIdx_find, hj]
  simp only [List.getElem?_set, if_true, hl, List.set_set]
  unfold dM addW
  rw [hj]
  simp only [List.getD_eq_getElem?_getD, he, Option.getD_some, List.map_set, dE, psecs, List.length_append, List.length_cons, List.length_nil, List.flatMap_append, List.flatMap_cons, List.flatMap_nil, List.append_nil]
  rfl
theorem addW_none {D : DM} {i : Int} {s : Sec} (hj : opIdx i D.op 0 = none) {ki : TyI} (hk : ki.kind = .int .i64) :
    mput ki (D.op.map dE) D.clock (.int .i64 i) (.sl 1 64 (secL s) (some 53)) = some (dM (addW D i s)) := by
  unfold mput
  simp only [hk, keyOK, skT, decide_true, if_true]
  rw [opIdx_find, hj]
  unfold dM addW
  rw [hj]
  simp only [List.map_append, List.map_cons, List.map_nil, dE, psecs, List.length_cons, List.length_nil, List.flatMap_cons, List.flatMap_nil, List.append_nil]
  rfl

set_option maxRecDepth 10000 in
set_option maxHeartbeats 2000000 in
theorem dc_Write (D : DM) (i : Int) (s : Sec) (h : 0 ≤ D.steps ∧ D.steps ≤ 1000000000 ∧ -1 ≤ D.after) (h2 : D.after ≤ 9223372036854775807) (hop : ∀ e ∈ D.op, e.2.2.length ≤ 1000000000) : DCalls 41 [pint i, psec s] D (pint (D.write i s).1) (D.write i s).2 := by
  refine dcalls_of_pw Tryd.func41 rfl rfl (by intro p hp; simp at hp; rcases hp with rfl | rfl; exact .val _; exact psec_low _) (by simp [pint, psec, PV.ownB]) (Nat.le_of_ble_eq_true rfl) (.val _) ?_
  have hck := dc_check D i 1000001 1000002 1000003 (by decide)
  have hst := dc_step D h h2 1000001 1000002 1000003 (by decide)
  by_cases h1 : D.check i = 0
  · obtain ⟨hd, hi0, hi1⟩ := check0 h1
    by_cases h3 : D.step.1 = 0
    · have hr : D.write i s = (0, addW D.step.2 i s) := by unfold DM.write; rw [if_pos h1, if_pos h3]
      rw [hr]
      have hsop : D.step.2.op = D.op := by unfold DM.step; split <;> rfl
      refine wk ?_
      cases hx : opIdx i D.step.2.op 0 with
      | some j =>
        obtain ⟨-, h4, s', v, h5⟩ := opIdx_lt hx
        simp only [Nat.sub_zero] at h5
        have hvl : v.length ≤ 1000000000 := hop (s', i, v) (by rw [hsop] at h5; exact List.mem_of_getElem? h5)
        have hf : mfind .int (.int .i64 i) (D.step.2.op.map dE) 0 = some (some j) := by rw [opIdx_find, hx]
        have hj : (D.step.2.op.map dE)[j]? = some (s', pint i, .sl v.length 64 (v.flatMap secL) (some 53)) := by rw [List.getElem?_map, h5]; rfl
        refine PWops.lkpO rfl rfl rfl rfl rfl rfl rfl rfl rfl rfl rfl rfl rfl hf hj ?_
        refine wk ?_
        refine PWops.mputO rfl rfl rfl rfl rfl rfl rfl rfl rfl rfl rfl (addW_some hx rfl (s', i, v) h5) ?_
        refine wk ?_
        exact RetH.mk rfl (Weak.eq (by show pint D.step.1 = _; rw [h3])) ⟨⟨_, rfl, WeakL.eq (by simp [dB, addW, hx])⟩, ⟨_, rfl, WeakL.eq (by simp [dC, addW, hx])⟩, trivial⟩ ⟨⟨rfl, rfl⟩, trivial⟩
      | none =>
        obtain ⟨b, hb⟩ := dget D.step.2 i (ki := ⟨1, false, .int .i64, [.val (.int .i64 0)], []⟩) (ei := ⟨1, false, .slice 53 64 64 (List.replicate 64 (.val (.int .u8 0))), [.nilsl], []⟩) rfl rfl
        rw [hx] at hb
        simp only [if_true] at hb
        refine wk ?_
        refine PWops.mputO rfl rfl rfl rfl rfl rfl rfl rfl rfl rfl rfl (addW_none hx rfl) ?_
        refine wk ?_
        exact RetH.mk rfl (Weak.eq (by show pint D.step.1 = _; rw [h3])) ⟨⟨_, rfl, WeakL.eq (by simp [dB, addW, hx])⟩, ⟨_, rfl, WeakL.eq (by simp [dC, addW, hx])⟩, trivial⟩ ⟨⟨rfl, rfl⟩, trivial⟩
    · have hr : D.write i s = D.step := by unfold DM.write; rw [if_pos h1, if_neg h3]
      rw [hr]
      refine wk ?_
      exact RetH.mk rfl (Weak.refl _) ⟨⟨_, rfl, WeakL.refl _⟩, ⟨_, rfl, WeakL.refl _⟩, trivial⟩ ⟨⟨rfl, rfl⟩, trivial⟩
  · have hr : D.write i s = (D.check i, D) := by unfold DM.write; rw [if_neg h1]
    rw [hr]
    refine wk ?_
    exact RetH.mk rfl (Weak.refl _) ⟨⟨_, rfl, WeakL.refl _⟩, ⟨_, rfl, WeakL.refl _⟩, trivial⟩ ⟨⟨rfl, rfl⟩, trivial⟩
end Go.Proofs.YtilcpcpmkklobaaDoor

/- The disk: Flip. -/
namespace Go.Proofs.YtilcpcpmkklobaaDoor
set_option linter.unusedSimpArgs false
set_option linter.unusedVariables false
set_option linter.unnecessarySimpa false
open Go.RowKit

/-- A bit of a byte becomes another one. -/
def xbyte (x b : Int) : Int := IntKind.u8.wrap (BitVec.ofInt IntKind.u8.bits x ^^^ BitVec.ofInt IntKind.u8.bits (IntKind.u8.wrap (1 * 2 ^ (min (b % 8).toNat IntKind.u8.bits)))).toNat
theorem wrap_u8 (z : Int) : 0 ≤ IntKind.u8.wrap z ∧ IntKind.u8.wrap z < 256 := by
  have h : IntKind.u8.wrap z = z % 256 := rfl
  rw [h]; omega
def flipSec (s : Sec) (b : Int) : Sec := ⟨s.1.set (b / 8).toNat (xbyte (s.1.getD (b / 8).toNat 0) b), by simp [s.2.1], fun x hx => by
  rcases List.mem_or_eq_of_mem_set hx with h | h
  · exact s.2.2 x h
  · subst h; exact wrap_u8 _⟩
def DCell.spoilt (c : DCell) : Bool := c.s.1 == zeroSec.1 && c.bad == true
def DCell.flip (c : DCell) (b : Int) : DCell := if c.spoilt then c else ⟨flipSec c.s b, c.bad⟩
def DM.flip (D : DM) (i b : Int) : Int × DM := if D.check i = 0 then (if b < 0 ∨ 512 ≤ b then (1, D) else (0, D.setc i ((D.cell i).flip b))) else (D.check i, D)

theorem peqs_app2 : ∀ {ks ls : List SK} {xs ys us vs : List PV} {a b : Bool}, peqs ks xs ys = some a → peqs ls us vs = some b → peqs (ks ++ ls) (xs ++ us) (ys ++ vs) = some (a && b)
  | [], ls, [], [], us, vs, a, b, h, h2 => by simp [peqs] at h; subst h; simpa using h2
  | [], ls, x :: xs, ys, us, vs, a, b, h, h2 => by simp [peqs] at h
  | [], ls, [], y :: ys, us, vs, a, b, h, h2 => by simp [peqs] at h
  | k :: ks, ls, [], ys, us, vs, a, b, h, h2 => by simp [peqs] at h
  | k :: ks, ls, x :: xs, [], us, vs, a, b, h, h2 => by cases x <;> simp [peqs] at h
  | k :: ks, ls, x :: xs, y :: ys, us, vs, a, b, h, h2 => by
    cases x <;> cases y <;> simp only [peqs, reduceCtorEq] at h
    rename_i x y
    cases h3 : veq k x y with
    | none => rw [h3] at h; simp at h
    | some r =>
      cases h4 : peqs ks xs ys with
      | none => rw [h3, h4] at h; simp at h
      | some s =>
        rw [h3, h4] at h
        simp only [Option.some.injEq] at h
        subst h
        simp only [List.cons_append, peqs, h3, peqs_app2 h4 h2, Bool.and_assoc]
theorem peqs_cell (c z : DCell) : peqs (List.replicate 64 .int ++ [.bool]) (dcellL c) (dcellL z) = some (c.s.1 == z.s.1 && c.bad == z.bad) := by
  refine peqs_app2 ?_ ?_
  · have := peqs_ints (k := .u8) c.s.1 z.s.1 (by rw [c.s.2.1, z.s.2.1])
    rw [c.s.2.1] at this; exact this
  · simp [peqs, pbool, veq]
theorem dcellL_byte (c : DCell) {q : Nat} (h : q < 64) : (dcellL c)[q]? = some (pbyte (c.s.1.getD q 0)) := by
  rw [dcellL, List.getElem?_append_left (by rw [secL_len]; exact h), secL, List.getElem?_map]
  have : q < c.s.1.length := by rw [c.s.2.1]; exact h
  simp [List.getElem?_eq_getElem this]
theorem dcellL_flip (c : DCell) (b : Int) (h : (b / 8).toNat < 64) : dcellL ⟨flipSec c.s b, c.bad⟩ = (dcellL c).set (b / 8).toNat (pbyte (xbyte (c.s.1.getD (b / 8).toNat 0) b)) := by
  rw [dcellL, dcellL, List.set_append_left _ _ (by rw [secL_len]; exact h)]
  simp [secL, flipSec, List.map_set]

end Go.Proofs.YtilcpcpmkklobaaDoor

/- The disk: Sync. -/
namespace Go.Proofs.YtilcpcpmkklobaaDoor
set_option linter.unusedSimpArgs false
set_option linter.unusedVariables false
set_option linter.unnecessarySimpa false
open Go.RowKit

section
variable {P : Program} {T : Tab} {σ : PS} {o : Oper} {i base : Nat} {ops : Array Oper} {ok : Nat → Nat → Bool} {rest : List (Nat × Oper)} {K : PS → Prop}
/-- A struct of which one field, an array or a struct, is given. -/
theorem PWops.bldA {d f off n : Nat} {cs out : List PV} {x : Operand} {t : TypeId} {ti : TyI} {l : List (Nat × Nat × Bool)} (hg : pguard ops σ o = some true) (hd : o.dst = some d) (hop : o.op = .build t #[(f, x)]) (hx : pev σ x = .agg cs) (ht : T.at t = some ti) (hk : ti.kind = .struct l) (hf : (l[f]?).map (fun x => (x.1, x.2.1)) = some (off, n)) (hb : σ.freeB (base + i) = true) (hl : cs.length = n) (hz : Nat.ble (off + n) ti.zero.length = true) (ho : cs.all PV.one = true) (hr : cs.map PV.bare = cs) (hout : splice ti.zero off cs = out)
    (kn : PWops P T ops base ok rest K (σ.put d (.agg out))) : PWops P T ops base ok ((i, o) :: rest) K σ := by
  refine PWops.valEq hg hd (p := .agg out) ?_ rfl hb kn
  have hz' := Nat.le_of_ble_eq_true hz
  have hs := splF_eq ti.zero off cs (by omega)
  rw [hout] at hs
  simp only [hop, presE, pvalA, pval, ht, pbuild, hk, List.map_cons, List.map_nil, pev_only, hx, pfill, hf, pcells, ho, if_true, hr, hl, hz', and_self, hs, Option.map_some]
/-- Over a map. -/
theorem PWops.rng {d mid clock kt et : Nat} {x : Operand} {t : TypeId} {es : List (Nat × PV × PV)} {ti : TyI} (hg : pguard ops σ o = some true) (hd : o.dst = some d) (hop : o.op = .range t x) (hx : pev σ x = .mref mid) (hm : (σ.only (ok i)).m mid = some (.map es clock)) (ht : T.at t = some ti) (hk : ti.kind = .map kt et) (hb : σ.freeB (base + i) = true)
    (kn : PWops P T ops base ok rest K ((σ.setm (base + i) (.iter mid clock [] clock)).put d (.ptr (base + i) 0))) : PWops P T ops base ok ((i, o) :: rest) K σ := by
  refine PWops.stepM hg (E := ⟨.ptr (base + i) 0, [], none, [(base + i, .iter mid clock [] clock)]⟩) ?_ hb (by rw [hd]; exact kn)
  have h1 : (σ.only (ok i)).b (base + i) = none ∧ (σ.only (ok i)).m (base + i) = none := by
    obtain ⟨q1, q2⟩ := PS.freeB_spec hb
    simp only [PS.only, q1, q2]
    constructor <;> split <;> rfl
  simp only [hop, presM, ht, pev_only, hx, mapOf, hm, h1.1, h1.2, hk]
/-- The entry at which an iterator stands. -/
theorem PWops.ent {d it mid since last s clock : Nat} {x : Operand} {seen : List Nat} {es : List (Nat × PV × PV)} {e : Nat × PV × PV} (hg : pguard ops σ o = some true) (hd : o.dst = some d) (hop : o.op = .entry x) (hx : pev σ x = .ptr it 0) (hi : (σ.only (ok i)).m it = some (.iter mid since (seen ++ [s]) last)) (hm : (σ.only (ok i)).m mid = some (.map es clock)) (hcl : clock = last) (hf : es.find? (fun e => e.1 == s) = some e) (hb : σ.freeB (base + i) = true)
    (kn : PWops P T ops base ok rest K (σ.put d (.tup [e.2.1.bare, e.2.2.bare]))) : PWops P T ops base ok ((i, o) :: rest) K σ := by
  refine PWops.valEq hg hd (p := .tup [e.2.1.bare, e.2.2.bare]) ?_ rfl hb kn
  simp only [hop, presE, pvalA, pval, pvalX, pentryAt, pev_only, hx, hi, hm, hcl, if_true, List.getLast?_concat, hf, Option.map_some]
theorem find_stamp : ∀ {es : List (Nat × PV × PV)} {e : Nat × PV × PV}, (es.map (·.1)).Nodup → e ∈ es → es.find? (fun x => x.1 == e.1) = some e
  | [], e, hn, h => by simp at h
  | x :: es, e, hn, h => by
    simp only [List.map_cons, List.nodup_cons] at hn
    rcases List.mem_cons.1 h with rfl | h
    · simp
    · have hne : (x.1 == e.1) = false := by
        rw [beq_eq_false_iff_ne]
        intro e1
        exact hn.1 (by rw [e1]; exact List.mem_map_of_mem h)
      rw [List.find?_cons, hne]
      exact find_stamp hn.2 h
end

def opFind (i : Int) : List (Nat × Int × List Sec) → Option (List Sec)
  | [] => none
  | (_, k, l) :: r => if i = k then some l else opFind i r
def synced (cells : List DCell) (op : List (Nat × Int × List Sec)) : List DCell := (List.range cells.length).map fun j => match opFind (j : Nat) op with
  | some l => ⟨lastS l, false⟩
  | none => cells.getD j default
def DM.synced (D : DM) : DM := { D with cells := Go.Proofs.YtilcpcpmkklobaaDoor.synced D.cells D.op, op := [] }
def DM.sync (D : DM) : Int × DM := if D.check 0 = 0 then (if D.step.1 = 0 then (0, D.step.2.synced) else D.step) else (D.check 0, D)

/-- The open writes of a disk are as they ought to be. -/
def opOK (n : Nat) (op : List (Nat × Int × List Sec)) : Prop := (op.map (·.2.1)).Nodup ∧ ∀ e ∈ op, 0 ≤ e.2.1 ∧ e.2.1 < n ∧ 0 < e.2.2.length ∧ e.2.2.length ≤ 1000000000

theorem opIdx_mem {i : Int} : ∀ {op : List (Nat × Int × List Sec)} {n j : Nat} {s : Nat} {l : List Sec}, (op.map (·.2.1)).Nodup → op[j]? = some (s, i, l) → opIdx i op n = some (n + j)
  | [], n, j, s, l, hn, h => by simp at h
  | (a, k, b) :: op, n, 0, s, l, hn, h => by
    simp at h
    obtain ⟨rfl, rfl, rfl⟩ := h
    simp [opIdx]
  | (a, k, b) :: op, n, j + 1, s, l, hn, h => by
    simp only [List.map_cons, List.nodup_cons] at hn
    simp only [List.getElem?_cons_succ] at h
    have hne : i ≠ k := by
      rintro rfl
      exact hn.1 (List.mem_map.2 ⟨_, List.mem_of_getElem? h, rfl⟩)
    simp only [opIdx, if_neg hne]
    rw [opIdx_mem hn.2 h]
    congr 1; omega
theorem erase_map {α β : Type} (f : α → β) : ∀ (l : List α) (j : Nat), (l.map f).eraseIdx j = (l.eraseIdx j).map f
  | [], j => by simp
  | a :: l, 0 => by simp
  | a :: l, j + 1 => by simp [erase_map f l j]
theorem splice_sec (s : Sec) (b : Bool) : splice (List.replicate 64 (.val (.int .u8 0)) ++ [pbool b]) 0 (secL s) = dcellL ⟨s, b⟩ := by
  unfold splice
  rw [List.take_zero, List.nil_append, Nat.zero_add, secL_len]
  rfl
theorem dcellL_cells (c : DCell) : pcells (.agg (dcellL c)) = some (dcellL c) := by simp only [pcells, dcellL_one, if_true, dcellL_bare]
theorem opFind_none {i : Int} : ∀ {op : List (Nat × Int × List Sec)}, i ∉ op.map (·.2.1) → opFind i op = none
  | [], h => rfl
  | (a, k, b) :: op, h => by
    simp only [List.map_cons, List.mem_cons, not_or] at h
    simp only [opFind, if_neg h.1]
    exact opFind_none h.2
theorem opFind_erase {i k : Int} : ∀ {op : List (Nat × Int × List Sec)} {j s : Nat} {l : List Sec}, (op.map (·.2.1)).Nodup → op[j]? = some (s, k, l) → opFind i (op.eraseIdx j) = if i = k then none else opFind i op
  | [], j, s, l, hn, h => by simp at h
  | (a, c, b) :: op, 0, s, l, hn, h => by
    simp at h
    obtain ⟨rfl, rfl, rfl⟩ := h
    simp only [List.map_cons, List.nodup_cons] at hn
    simp only [List.eraseIdx_cons_zero, opFind]
    split
    · rename_i e; subst e; exact opFind_none hn.1
    · rfl
  | (a, c, b) :: op, j + 1, s, l, hn, h => by
    simp only [List.map_cons, List.nodup_cons] at hn
    simp only [List.getElem?_cons_succ] at h
    have hne : k ≠ c := by
      rintro rfl
      exact hn.1 (List.mem_map.2 ⟨_, List.mem_of_getElem? h, rfl⟩)
    simp only [List.eraseIdx_cons_succ, opFind, opFind_erase hn.2 h]
    by_cases e : i = c
    · subst e; rw [if_pos rfl, if_pos rfl, if_neg (fun e => hne e.symm)]
    · rw [if_neg e, if_neg e]
theorem opFind_at {k : Int} : ∀ {op : List (Nat × Int × List Sec)} {j s : Nat} {l : List Sec}, (op.map (·.2.1)).Nodup → op[j]? = some (s, k, l) → opFind k op = some l
  | [], j, s, l, hn, h => by simp at h
  | (a, c, b) :: op, 0, s, l, hn, h => by
    simp at h
    obtain ⟨rfl, rfl, rfl⟩ := h
    simp [opFind]
  | (a, c, b) :: op, j + 1, s, l, hn, h => by
    simp only [List.map_cons, List.nodup_cons] at hn
    simp only [List.getElem?_cons_succ] at h
    have hne : k ≠ c := by
      rintro rfl
      exact hn.1 (List.mem_map.2 ⟨_, List.mem_of_getElem? h, rfl⟩)
    simp only [opFind, if_neg hne]
    exact opFind_at hn.2 h
theorem synced_step {cells : List DCell} {op : List (Nat × Int × List Sec)} {j s : Nat} {k : Int} {l : List Sec} (hn : (op.map (·.2.1)).Nodup) (h : op[j]? = some (s, k, l)) (h0 : 0 ≤ k) (h1 : k < cells.length) : synced (cells.set k.toNat ⟨lastS l, false⟩) (op.eraseIdx j) = synced cells op := by
  unfold synced
  rw [List.length_set]
  refine List.map_congr_left fun q hq => ?_
  rw [opFind_erase hn h]
  by_cases e : (q : Int) = k
  · subst e
    rw [if_pos rfl, opFind_at hn h]
    have : q < cells.length := by omega
    simp [this]
  · rw [if_neg e]
    have : k.toNat ≠ q := by omega
    simp [List.getElem?_set_ne this]
theorem synced_nil (cells : List DCell) : synced cells [] = cells := by
  unfold synced
  apply List.ext_getElem?
  intro q
  simp only [opFind, List.getElem?_map]
  by_cases h : q < cells.length
  · simp [h]
  · simp [h]
theorem opOK_erase {n : Nat} {op : List (Nat × Int × List Sec)} (h : opOK n op) (j : Nat) : opOK n (op.eraseIdx j) :=
  ⟨h.1.sublist ((List.eraseIdx_sublist ..).map _), fun e he => h.2 e (List.mem_of_mem_eraseIdx he)⟩
theorem nodup_erase_at {op : List Nat} {j x : Nat} (hn : op.Nodup) (h : op[j]? = some x) : x ∉ op.eraseIdx j := by
  induction op generalizing j with
  | nil => simp at h
  | cons a op ih =>
    cases j with
    | zero => simp at h; subst h; simpa using (List.nodup_cons.1 hn).1
    | succ j =>
      simp only [List.getElem?_cons_succ] at h
      simp only [List.eraseIdx_cons_succ, List.mem_cons, not_or]
      refine ⟨?_, ih (List.nodup_cons.1 hn).2 h⟩
      rintro rfl
      exact (List.nodup_cons.1 hn).1 (List.mem_of_getElem? h)

set_option maxRecDepth 10000 in
set_option maxHeartbeats 2000000 in
theorem dc_Sync (D : DM) (h : 0 ≤ D.steps ∧ D.steps ≤ 1000000000 ∧ -1 ≤ D.after) (h2 : D.after ≤ 9223372036854775807) (hsz : D.cells.length ≤ 1000000000) (hop : opOK D.cells.length D.op) : DCalls 42 [] D (pint D.sync.1) D.sync.2 := by
  refine dcalls_of_pw Tryd.func42 rfl rfl (by simp) (by simp) (Nat.le_of_ble_eq_true rfl) (.val _) ?_
  have hck := dc_check D 0 1000001 1000002 1000003 (by decide)
  have hst := dc_step D h h2 1000001 1000002 1000003 (by decide)
  by_cases h1 : D.check 0 = 0
  · obtain ⟨hd, hi0, hi1⟩ := check0 h1
    by_cases h3 : D.step.1 = 0
    · have hr : D.sync = (0, D.step.2.synced) := by unfold DM.sync; rw [if_pos h1, if_pos h3]
      rw [hr]
      have hsop : D.step.2.op = D.op := by unfold DM.step; split <;> rfl
      have hscl : D.step.2.cells = D.cells := by unfold DM.step; split <;> rfl
      generalize hD1 : D.step.2 = D1 at hst hsop hscl ⊢
      rw [← hsop, ← hscl] at hop
      rw [← hscl] at hi1 hsz
      refine wk ?_
      refine PWops.rng rfl rfl rfl rfl rfl rfl rfl rfl ?_
      refine wk ?_
      refine PW.stamps (id := 1000003) rfl (fun hs => ?_)
      refine PW.loop (fun p : DM × List Nat => ((((((bot.setb 1000001 (dB 1000002 1000003 p.1)).setb 1000002 (dC p.1)).setm 1000003 (dM p.1)).setm 6004 (.iter 1000003 D1.clock p.2 D1.clock)).put 0 (.ptr 1000001 0)).put 2 (pint 0)).put 19 (.ptr 6004 0))
        (fun p => p.1.cells.length = D1.cells.length ∧ p.1.clock = D1.clock ∧ p.1.synced = D1.synced ∧ opOK D1.cells.length p.1.op ∧ (∀ e ∈ p.1.op, e.1 ∉ p.2) ∧ (p.1.op.map (·.1)).Nodup ∧ ∀ e ∈ p.1.op, e.1 < D1.clock) (fun p => p.1.op.length) (D1, []) ?_ ?_ ?_
      · refine ⟨rfl, rfl, rfl, hop, by simp, ?_, fun e he => ?_⟩
        · have := hs.1
          rw [List.map_map] at this; exact this
        · exact hs.2 _ (List.mem_map_of_mem he)
      · have hl := dC_low D1
        have hlm := dM_low D1
        exact sb
      · rintro ⟨⟨cells, op, clock, steps, after, dead⟩, seen⟩ ⟨i1, i2, i3, i4, i5, i6, i7⟩
        dsimp only at i1 i2 i3 i4 i5 i6 i7
        subst i2
        refine PW.seq ?_
        refine PWnext typeTab_ok (it := 6004) (mid := 1000003) (es := op.map dE) (clock := D1.clock) rfl rfl rfl (by decide) rfl ?_ ?_ ?_
        · cases hsn : op with
          | nil => exact .inr (.inl rfl)
          | cons e r =>
            refine .inr (.inr ⟨dE e, by simp, ?_⟩)
            exact i7 e (by rw [hsn]; simp)
        · intro hno
          have hn0 : op = [] := by
            cases hsn : op with
            | nil => rfl
            | cons e r =>
              exfalso
              have hm : e ∈ op := by rw [hsn]; simp
              exact i5 e hm (hno (dE e) (List.mem_map_of_mem hm) (i7 e hm))
          refine wk ?_
          have hD : D1.synced = ⟨cells, [], D1.clock, steps, after, dead⟩ := by
            rw [← i3, hn0]
            unfold DM.synced
            simp only [synced_nil]
          rw [hD]
          exact RetH.mk rfl (Weak.refl _) ⟨⟨_, rfl, WeakL.refl _⟩, ⟨_, rfl, WeakL.refl _⟩, trivial⟩ ⟨⟨rfl, by subst hn0; rfl⟩, trivial⟩
        · intro e' he' hns
          obtain ⟨e, he, rfl⟩ := List.mem_map.1 he'
          obtain ⟨j, hj⟩ := List.getElem?_of_mem he
          obtain ⟨q1, q2, q3, q4⟩ := i4.2 e he
          have hfs := find_stamp (es := op.map dE) (e := dE e) (by rw [List.map_map]; exact i6) he'
          have hix : opIdx e.2.1 op 0 = some j := by rw [opIdx_mem i4.1 hj, Nat.zero_add]
          have hll : (e.2.2 : List Sec).length ≤ 1000000000 := q4
          refine wk ?_
          refine PWops.ent (seen := seen) (s := e.1) rfl rfl rfl rfl rfl rfl rfl hfs rfl ?_
          refine wk ?_
          refine PWops.bldA (cs := secL (lastS e.2.2)) (out := dcellL ⟨lastS e.2.2, false⟩) rfl rfl rfl rfl rfl rfl rfl rfl (secL_len _) rfl (secL_one _) (secL_bare _) (splice_sec _ _) ?_
          refine wk ?_
          refine PWops.stBR (v := ⟨lastS e.2.2, false⟩) rfl rfl rfl rfl rfl (by exact dcellL_cells ⟨lastS e.2.2, false⟩) rfl rfl rfl dcellL_len (by (first | omega | (dsimp only ; omega))) rfl ?_
          refine wk ?_
          have hdel : mdel ⟨1, false, .int .i64, [.val (.int .i64 0)], []⟩ (op.map dE) D1.clock (.int .i64 e.2.1) = some (.map ((op.eraseIdx j).map dE) D1.clock) := by
            unfold mdel
            simp only [keyOK, skT, decide_true, if_true]
            rw [opIdx_find, hix]
            simp only [erase_map]
          refine PWops.mdel rfl rfl rfl rfl rfl rfl rfl rfl rfl rfl hdel ?_
          refine wk ?_
          refine loopP (⟨cells.set e.2.1.toNat ⟨lastS e.2.2, false⟩, op.eraseIdx j, D1.clock, steps, after, dead⟩, seen ++ [e.1]) ⟨?_, rfl, ?_, opOK_erase i4 j, ?_, ?_, ?_⟩ ?_ ?_
          · show (cells.set _ _).length = _
            rw [List.length_set]; exact i1
          · rw [← i3]
            unfold DM.synced
            simp only [synced_step i4.1 hj q1 (by rw [i1]; exact q2)]
          · intro x hx
            have hx' := List.mem_of_mem_eraseIdx hx
            rw [List.mem_append, List.mem_singleton, not_or]
            refine ⟨i5 x hx', fun e1 => ?_⟩
            have h5 : (op.map (·.1))[j]? = some e.1 := by rw [List.getElem?_map, hj]; rfl
            have h6 := nodup_erase_at i6 h5
            rw [erase_map] at h6
            exact h6 (by rw [← e1]; exact List.mem_map_of_mem hx)
          · show ((op.eraseIdx j).map _).Nodup
            exact i6.sublist ((List.eraseIdx_sublist ..).map _)
          · exact fun x hx => i7 x (List.mem_of_mem_eraseIdx hx)
          · show (op.eraseIdx j).length < op.length
            have := (List.getElem?_eq_some_iff.1 hj).1
            rw [List.length_eraseIdx]
            split <;> omega
          · have hdB : dB 1000002 1000003 ⟨cells.set e.2.1.toNat ⟨lastS e.2.2, false⟩, op.eraseIdx j, D1.clock, steps, after, dead⟩ = dB 1000002 1000003 ⟨cells, op, D1.clock, steps, after, dead⟩ := by simp [dB]
            have hl := dC_low ⟨cells.set e.2.1.toNat ⟨lastS e.2.2, false⟩, op.eraseIdx j, D1.clock, steps, after, dead⟩
            have hlm := dM_low ⟨cells.set e.2.1.toNat ⟨lastS e.2.2, false⟩, op.eraseIdx j, D1.clock, steps, after, dead⟩
            dsimp only
            rw [hdB]
            exact sb
    · have hr : D.sync = D.step := by unfold DM.sync; rw [if_pos h1, if_neg h3]
      rw [hr]
      refine wk ?_
      exact RetH.mk rfl (Weak.refl _) ⟨⟨_, rfl, WeakL.refl _⟩, ⟨_, rfl, WeakL.refl _⟩, trivial⟩ ⟨⟨rfl, rfl⟩, trivial⟩
  · have hr : D.sync = (D.check 0, D) := by unfold DM.sync; rw [if_neg h1]
    rw [hr]
    refine wk ?_
    exact RetH.mk rfl (Weak.refl _) ⟨⟨_, rfl, WeakL.refl _⟩, ⟨_, rfl, WeakL.refl _⟩, trivial⟩ ⟨⟨rfl, rfl⟩, trivial⟩
end Go.Proofs.YtilcpcpmkklobaaDoor

/- The disk: New. -/
namespace Go.Proofs.YtilcpcpmkklobaaDoor
set_option linter.unusedSimpArgs false
set_option linter.unusedVariables false
set_option linter.unnecessarySimpa false
open Go.RowKit

section
variable {P : Program} {T : Tab} {σ : PS} {o : Oper} {i base : Nat} {ops : Array Oper} {ok : Nat → Nat → Bool} {rest : List (Nat × Oper)} {K : PS → Prop}
/-- A new slice of a length that is not written out. -/
theorem PWops.mkS {d e k by_ : Nat} {x : Int} {kx ky : IntKind} {out zr : List PV} {X Y : Operand} {t : TypeId} {ti : TyI} (hg : pguard ops σ o = some true) (hd : o.dst = some d) (hop : o.op = .makeSlice t X Y) (hx : pev σ X = .val (.int kx x)) (hy : pev σ Y = .val (.int ky x)) (ht : T.at t = some ti) (hk : ti.kind = .slice e k by_ zr) (hb : σ.freeB (base + i) = true) (hc : 0 ≤ x ∧ (by_ : Int) * x ≤ 281474976710656 ∧ x ≤ 9223372036854775807) (hout : (List.replicate x.toNat zr).flatten = out)
    (kn : PWops P T ops base ok rest K ((σ.setb (base + i) out).put d (.msl (base + i) 0 x.toNat k))) : PWops P T ops base ok ((i, o) :: rest) K σ := by
  refine PWops.step hg (E := ⟨.msl (base + i) 0 x.toNat k, [(base + i, out)], none, []⟩) ?_ hb (by rw [hd]; exact kn)
  have h1 : (σ.only (ok i)).b (base + i) = none ∧ (σ.only (ok i)).m (base + i) = none := by
    obtain ⟨q1, q2⟩ := PS.freeB_spec hb
    simp only [PS.only, q1, q2]
    constructor <;> split <;> rfl
  have h2 : 0 ≤ x ∧ x = x ∧ (by_ : Int) * x ≤ 281474976710656 ∧ x ≤ 9223372036854775807 := ⟨hc.1, rfl, hc.2.1, hc.2.2⟩
  have h3 : pmake k by_ zr x x = some (x.toNat, out) := by unfold pmake; rw [if_pos h2, hout]
  simp only [hop, presE, ht, pev_only, hx, hy, h1.1, h1.2, hk, h3]
/-- A new map. -/
theorem PWops.mkM {d : Nat} {t : TypeId} (hg : pguard ops σ o = some true) (hd : o.dst = some d) (hop : o.op = .makeMap t none) (hb : σ.freeB (base + i) = true)
    (kn : PWops P T ops base ok rest K ((σ.setm (base + i) (.map [] 0)).put d (.mref (base + i)))) : PWops P T ops base ok ((i, o) :: rest) K σ := by
  refine PWops.stepM hg (E := ⟨.mref (base + i), [], none, [(base + i, .map [] 0)]⟩) ?_ hb (by rw [hd]; exact kn)
  have h1 : (σ.only (ok i)).b (base + i) = none ∧ (σ.only (ok i)).m (base + i) = none := by
    obtain ⟨q1, q2⟩ := PS.freeB_spec hb
    simp only [PS.only, q1, q2]
    constructor <;> split <;> rfl
  simp only [hop, presM, h1.1, h1.2]
end

def newD (n : Nat) : DM := ⟨List.replicate n ⟨zeroSec, false⟩, [], 0, 0, -1, false⟩
theorem newD_cells (n : Nat) : (List.replicate n (List.replicate 64 (.val (.int .u8 0)) ++ [pbool false])).flatten = dC (newD n) := by
  unfold dC newD
  have : (List.replicate 64 (.val (.int .u8 0)) ++ [pbool false] : List PV) = dcellL ⟨zeroSec, false⟩ := rfl
  rw [this]
  generalize (⟨zeroSec, false⟩ : DCell) = z
  show _ = (List.replicate n z).flatMap dcellL
  induction n with
  | zero => rfl
  | succ n ih => rw [List.replicate_succ, List.replicate_succ, List.flatten_cons, List.flatMap_cons, ih]

set_option maxRecDepth 10000 in
set_option maxHeartbeats 1000000 in
theorem dc_New0 (n : Int) (h : n < 1 ∨ 65536 < n) : HCalls Tryd.prog 10 [pint n] [] [] (.val (.pointer none)) [] [] := by
  refine hcalls_of_pw typeTab_ok Tryd.func10 rfl rfl (by simp [pint, PV.ownB]) (Nat.le_of_ble_eq_true rfl) (by simp [ResIds]) (by simp [ResIds]) ⟨by intro p hp; simp at hp; subst hp; exact .val _, by simp, by simp, .val _, by simp, by simp, by simp, by simp⟩ ?_
  by_cases h1 : n < 1
  · refine wk ?_
    exact ⟨_, rfl, Weak.refl _, trivial, trivial⟩
  · have h2 : 65536 < n := by omega
    refine wk ?_
    exact ⟨_, rfl, Weak.refl _, trivial, trivial⟩

set_option maxRecDepth 10000 in
set_option maxHeartbeats 1000000 in
theorem dc_New1 (n : Int) (h : 1 ≤ n ∧ n ≤ 65536) : HCalls Tryd.prog 10 [pint n] [] [] (.ptr 3004 0) (dG 3004 3001 3002 (newD n.toNat)) (dMs 3002 (newD n.toNat)) := by
  refine hcalls_of_pw typeTab_ok Tryd.func10 rfl rfl (by simp [pint, PV.ownB]) (Nat.le_of_ble_eq_true rfl) (by simp [ResIds]) (by simp [ResIds]) ⟨by intro p hp; simp at hp; subst hp; exact .val _, by simp, by simp, .ptr _ _ (by simp [ResIds, dG]), fun x hx => ?_, fun x hx => ?_, by simp, by simp⟩ ?_
  · simp only [dG, List.mem_cons, List.not_mem_nil, or_false] at hx
    rcases hx with rfl | rfl
    · exact dB_lowI (by simp [ResIds, dG]) (by simp [ResIds, dMs]) _
    · exact fun p hp => (dC_low _ p hp).lowI
  · simp only [dMs, List.mem_cons, List.not_mem_nil, or_false] at hx
    subst hx
    exact fun e he => ⟨(dM_low _ e he).1.lowI, (dM_low _ e he).2.lowI⟩
  refine wk ?_
  refine PWops.mkS (out := dC (newD n.toNat)) rfl rfl rfl rfl rfl rfl rfl rfl ?_ (newD_cells _) ?_
  · refine ⟨by omega, ?_, by omega⟩
    omega
  refine wk ?_
  refine PWops.mkM rfl rfl rfl rfl ?_
  refine wk ?_
  exact RetH.mk rfl (Weak.refl _) ⟨⟨_, rfl, WeakL.eq (by simp [dB, newD]; exact ⟨rfl, rfl, rfl⟩)⟩, ⟨_, rfl, WeakL.refl _⟩, trivial⟩ ⟨⟨rfl, rfl⟩, trivial⟩

def newIds (d c m i : Nat) : Nat := if i = 3004 then d else if i = 3001 then c else if i = 3002 then m else i
theorem dc_New (n : Int) (h : 1 ≤ n ∧ n ≤ 65536) (d c m : Nat) (hnd : (ids3 d c m).Nodup) : HCalls Tryd.prog 10 [pint n] [] [] (.ptr d 0) (dG d c m (newD n.toNat)) (dMs m (newD n.toNat)) := by
  have r3 : ResIds (dG 3004 3001 3002 (newD n.toNat)) (dMs 3002 (newD n.toNat)) = [3004, 3001, 3002] := rfl
  refine (dc_New1 n h).ren (newIds d c m) (by simp) (by simp) ?_ (.cons (.low _ (.val _)) .nil) .nil .nil (.ptr 3004 0 (by rw [r3]; decide)) (.cons 3004 _ _ _ _ (.cons (.msl 3001 0 _ _ (by rw [r3]; decide)) (.cons (.mref 3002 (by rw [r3]; decide)) (.cons (.low _ (.val _)) (.cons (.low _ (.val _)) (.cons (.low _ (.val _)) .nil))))) (.cons 3001 _ _ _ _ (.low (dC_low _)) .nil)) (.cons 3002 _ _ _ _ (.low (dM_low _)) .nil)
  rw [r3]
  simp only [ids3, List.nodup_cons, List.mem_cons, List.not_mem_nil, or_false, not_or, List.nodup_nil, and_true, not_false_eq_true] at hnd
  obtain ⟨⟨n1, n2⟩, n3⟩ := hnd
  intro i hi j hj e
  simp only [List.mem_cons, List.not_mem_nil, or_false] at hi hj
  rcases hi with rfl | rfl | rfl <;> rcases hj with rfl | rfl | rfl <;> simp [newIds] at e ⊢ <;> first | exact absurd e n1 | exact absurd e n2 | exact absurd e n3 | exact absurd e.symm n1 | exact absurd e.symm n2 | exact absurd e.symm n3
end Go.Proofs.YtilcpcpmkklobaaDoor

/- The disk that does not fail: what is read after writes, syncs, rot. -/
namespace Go.Proofs.YtilcpcpmkklobaaDoor
set_option linter.unusedSimpArgs false
set_option linter.unusedVariables false
set_option linter.unnecessarySimpa false
open Go.RowKit

/-- A disk of n sectors that is up and is not armed. -/
structure OkD (n : Nat) (k : Nat) (D : DM) : Prop where
  dead : D.dead = false
  after : D.after = -1
  len : D.cells.length = n
  steps : 0 ≤ D.steps ∧ D.steps ≤ k
  op : opOK n D.op
  room : ∀ e ∈ D.op, e.2.2.length ≤ k
theorem OkD.mono {n k k' : Nat} {D : DM} (h : OkD n k D) (hk : k ≤ k') : OkD n k' D := ⟨h.dead, h.after, h.len, by have := h.steps; omega, h.op, fun e he => by have := h.room e he; omega⟩
theorem OkD.check {n k : Nat} {D : DM} (h : OkD n k D) (i : Int) : D.check i = if i < 0 ∨ (n : Int) ≤ i then 1 else 0 := by
  unfold DM.check
  rw [h.dead, h.len]; rfl
theorem OkD.check0 {n k : Nat} {D : DM} (h : OkD n k D) {i : Int} (h0 : 0 ≤ i) (h1 : i < n) : D.check i = 0 := by rw [h.check, if_neg (by omega)]
theorem OkD.step {n k : Nat} {D : DM} (h : OkD n k D) : D.step = (0, { D with steps := D.steps + 1 }) := by
  unfold DM.step
  rw [h.after]
  simp
theorem opIdx_none {i : Int} : ∀ {op : List (Nat × Int × List Sec)} {n : Nat}, opIdx i op n = none → i ∉ op.map (·.2.1)
  | [], n, h => by simp
  | (a, k, b) :: op, n, h => by
    simp only [opIdx] at h
    split at h
    · cases h
    · rename_i hne
      simp only [List.map_cons, List.mem_cons, not_or]
      exact ⟨hne, opIdx_none h⟩
theorem opFind_idx {i : Int} : ∀ (op : List (Nat × Int × List Sec)) (n : Nat), opFind i op = match opIdx i op n with
    | some j => some (op.getD (j - n) default).2.2
    | none => none
  | [], n => rfl
  | (a, k, b) :: op, n => by
    simp only [opFind, opIdx]
    by_cases h : i = k
    · simp [h]
    · rw [if_neg h, if_neg h, opFind_idx op (n + 1)]
      cases hj : opIdx i op (n + 1) with
      | none => rfl
      | some j =>
        have := (opIdx_lt hj).1
        simp only
        rw [show j - n = (j - (n + 1)) + 1 by omega]; rfl
theorem get_find (D : DM) (i : Int) : D.get i = (opFind i D.op).getD [] := by
  rw [DM.get, opFind_idx D.op 0]
  cases opIdx i D.op 0 <;> rfl
theorem opFind_append {i : Int} : ∀ {op : List (Nat × Int × List Sec)} {e : Nat × Int × List Sec}, opFind i (op ++ [e]) = match opFind i op with
    | some l => some l
    | none => if i = e.2.1 then some e.2.2 else none
  | [], (a, k, b) => rfl
  | (a, k, b) :: op, e => by
    simp only [List.cons_append, opFind]
    split
    · rfl
    · exact opFind_append
theorem opFind_set {i c : Int} : ∀ {op : List (Nat × Int × List Sec)} {j s : Nat} {l l' : List Sec}, (op.map (·.2.1)).Nodup → op[j]? = some (s, c, l) → opFind i (op.set j (s, c, l')) = if i = c then some l' else opFind i op
  | [], j, s, l, l', hn, h => by simp at h
  | (a, k, b) :: op, 0, s, l, l', hn, h => by
    simp at h
    obtain ⟨rfl, rfl, rfl⟩ := h
    simp only [List.set_cons_zero, opFind]
    split <;> rfl
  | (a, k, b) :: op, j + 1, s, l, l', hn, h => by
    simp only [List.map_cons, List.nodup_cons] at hn
    simp only [List.getElem?_cons_succ] at h
    have hne : c ≠ k := by
      rintro rfl
      exact hn.1 (List.mem_map.2 ⟨_, List.mem_of_getElem? h, rfl⟩)
    simp only [List.set_cons_succ, opFind, opFind_set hn.2 h]
    by_cases e : i = k
    · subst e; rw [if_pos rfl, if_neg (fun e => hne e.symm), if_pos rfl]
    · rw [if_neg e, if_neg e]
/-- The open writes behind a write. -/
theorem get_addW {n k : Nat} {D : DM} (h : OkD n k D) (i : Int) (s : Sec) (q : Int) : (addW D i s).get q = if q = i then D.get i ++ [s] else D.get q := by
  rw [get_find, get_find, get_find]
  unfold addW
  cases hj : opIdx i D.op 0 with
  | none =>
    simp only
    rw [opFind_append, opFind_none (opIdx_none hj)]
    by_cases e : q = i
    · subst e; rw [opFind_none (opIdx_none hj)]; simp
    · simp only [if_neg e]
      cases opFind q D.op <;> rfl
  | some j =>
    obtain ⟨-, h2, s', v, h3⟩ := opIdx_lt hj
    simp only [Nat.sub_zero] at h3
    simp only [List.getD_eq_getElem?_getD, h3, Option.getD_some]
    rw [opFind_set h.op.1 h3, opFind_at h.op.1 h3]
    by_cases e : q = i
    · subst e; simp
    · simp [e]
theorem addW_cells (D : DM) (i : Int) (s : Sec) : (addW D i s).cells = D.cells ∧ (addW D i s).steps = D.steps ∧ (addW D i s).after = D.after ∧ (addW D i s).dead = D.dead := by
  unfold addW; split <;> exact ⟨rfl, rfl, rfl, rfl⟩
theorem addW_op {n k : Nat} {D : DM} (h : OkD n k D) {i : Int} (h0 : 0 ≤ i) (h1 : i < n) (hk : k < 1000000000) (s : Sec) : opOK n (addW D i s).op ∧ ∀ e ∈ (addW D i s).op, e.2.2.length ≤ k + 1 := by
  unfold addW
  cases hj : opIdx i D.op 0 with
  | none =>
    refine ⟨⟨?_, ?_⟩, ?_⟩
    · simp only [List.map_append, List.map_cons, List.map_nil, List.nodup_append, List.nodup_cons, List.not_mem_nil, not_false_eq_true, List.nodup_nil, and_true, List.mem_cons, or_false, true_and]
      refine ⟨h.op.1, fun a ha b hb => ?_⟩
      subst hb
      rintro rfl
      exact opIdx_none hj ha
    · intro e he
      rcases List.mem_append.1 he with he | he
      · exact h.op.2 e he
      · simp at he; subst he; exact ⟨h0, h1, by simp, by simp⟩
    · intro e he
      rcases List.mem_append.1 he with he | he
      · have := h.room e he; omega
      · simp at he; subst he; simp
  | some j =>
    obtain ⟨-, h2, s', v, h3⟩ := opIdx_lt hj
    simp only [Nat.sub_zero] at h3
    have hm := List.mem_of_getElem? h3
    have hb := h.op.2 _ hm
    have hr := h.room _ hm
    simp only at hb hr
    simp only [List.getD_eq_getElem?_getD, h3, Option.getD_some]
    refine ⟨⟨?_, ?_⟩, ?_⟩
    · have : (D.op.set j (s', i, v ++ [s])).map (·.2.1) = D.op.map (·.2.1) := by
        rw [List.map_set]
        apply List.ext_getElem?
        intro q
        rw [List.getElem?_set]
        split
        · rename_i e; subst e; rw [List.getElem?_map, h3]; simp [(List.getElem?_eq_some_iff.1 h3).1]
        · rfl
      rw [this]; exact h.op.1
    · intro e he
      rcases List.mem_or_eq_of_mem_set he with he | rfl
      · exact h.op.2 e he
      · exact ⟨h0, h1, by simp, by simp; omega⟩
    · intro e he
      rcases List.mem_or_eq_of_mem_set he with he | rfl
      · have := h.room e he; omega
      · simp; omega

/-- A write. -/
theorem OkD.write {n k : Nat} {D : DM} (h : OkD n k D) {i : Int} (h0 : 0 ≤ i) (h1 : i < n) (hk : k < 1000000000) (s : Sec) : (D.write i s).1 = 0 ∧ OkD n (k + 1) (D.write i s).2 ∧ (D.write i s).2.steps = D.steps + 1 := by
  have hs : OkD n k { D with steps := D.steps } := h
  have e : D.write i s = (0, addW { D with steps := D.steps + 1 } i s) := by
    rw [DM.write, if_pos (h.check0 h0 h1), h.step]; rfl
  rw [e]
  have hg : ∀ t, addW { D with steps := t } i s = { addW D i s with steps := t } := by
    intro t
    unfold addW
    simp only
    split <;> rfl
  rw [hg]
  obtain ⟨c1, c2, c3, c4⟩ := addW_cells D i s
  obtain ⟨o1, o2⟩ := addW_op h h0 h1 hk s
  have := h.steps
  exact ⟨rfl, ⟨c4.trans h.dead, c3.trans h.after, by rw [← h.len]; exact congrArg List.length c1, by simp only; omega, o1, o2⟩, rfl⟩

/-- What is read of a sector. -/
theorem OkD.read {n k : Nat} {D : DM} (h : OkD n k D) {q : Int} (h0 : 0 ≤ q) (h1 : q < n) : D.read q = if 0 < (D.get q).length then (lastS (D.get q), 0) else if (D.cell q).bad then (zeroSec, 221) else ((D.cell q).s, 0) := by
  rw [DM.read, if_pos (h.check0 h0 h1)]
theorem lastS_snoc (l : List Sec) (s : Sec) : lastS (l ++ [s]) = s := by
  unfold lastS
  rw [show ((((l ++ [s]).length : Nat) : Int) - 1).toNat = l.length by simp]
  simp [List.getD_eq_getElem?_getD]
theorem OkD.read_write {n k : Nat} {D : DM} (h : OkD n k D) {i : Int} (h0 : 0 ≤ i) (h1 : i < n) (hk : k < 1000000000) (s : Sec) {q : Int} (q0 : 0 ≤ q) (q1 : q < n) : (D.write i s).2.read q = if q = i then (s, 0) else D.read q := by
  have hw := h.write h0 h1 hk s
  rw [hw.2.1.read q0 q1, h.read q0 q1]
  have e : D.write i s = (0, addW { D with steps := D.steps + 1 } i s) := by
    rw [DM.write, if_pos (h.check0 h0 h1), h.step]; rfl
  have hg : ∀ t, addW { D with steps := t } i s = { addW D i s with steps := t } := by
    intro t
    unfold addW
    simp only
    split <;> rfl
  have g1 : (D.write i s).2.get q = if q = i then D.get i ++ [s] else D.get q := by
    rw [e]; simp only; rw [hg]; exact get_addW h i s q
  have g2 : (D.write i s).2.cell q = D.cell q := by
    rw [e]; simp only; rw [hg]; unfold DM.cell; rw [← (addW_cells D i s).1]
  rw [g1, g2]
  by_cases hq : q = i
  · rw [if_pos hq, if_pos hq, if_pos (by simp), lastS_snoc]
  · rw [if_neg hq, if_neg hq]

/-- A sync. -/
theorem OkD.sync {n k : Nat} {D : DM} (h : OkD n k D) (hn : 0 < n) : D.sync = (0, { D with steps := D.steps + 1, cells := synced D.cells D.op, op := [] }) := by
  rw [DM.sync, if_pos (h.check0 (by omega) (by omega)), h.step]; rfl
theorem synced_len (cells : List DCell) (op : List (Nat × Int × List Sec)) : (synced cells op).length = cells.length := by simp [synced]
theorem OkD.sync_ok {n k : Nat} {D : DM} (h : OkD n k D) (hn : 0 < n) : D.sync.1 = 0 ∧ OkD n (k + 1) D.sync.2 ∧ D.sync.2.steps = D.steps + 1 ∧ D.sync.2.op = [] := by
  rw [h.sync hn]
  have := h.steps
  exact ⟨rfl, ⟨h.dead, h.after, by simp only [synced_len]; exact h.len, by simp only; omega, ⟨by simp, by simp⟩, by simp⟩, rfl, rfl⟩
theorem OkD.read_sync {n k : Nat} {D : DM} (h : OkD n k D) (hn : 0 < n) {q : Int} (q0 : 0 ≤ q) (q1 : q < n) : D.sync.2.read q = D.read q := by
  rw [(h.sync_ok hn).2.1.read q0 q1, h.read q0 q1, h.sync hn]
  have g1 : ({ D with steps := D.steps + 1, cells := synced D.cells D.op, op := [] } : DM).get q = [] := by rw [get_find]; rfl
  rw [g1, if_neg (by simp), get_find]
  have hc : ({ D with steps := D.steps + 1, cells := synced D.cells D.op, op := [] } : DM).cell q = match opFind q D.op with
      | some l => ⟨lastS l, false⟩
      | none => D.cell q := by
    unfold DM.cell synced
    have hl : q.toNat < D.cells.length := by rw [h.len]; omega
    simp only [List.getD_eq_getElem?_getD, List.getElem?_map, List.getElem?_range hl, Option.map_some, Option.getD_some]
    rw [Int.toNat_of_nonneg q0]
    all_goals (cases opFind q D.op <;> rfl)
  rw [hc]
  cases hf : opFind q D.op with
  | none => rfl
  | some l =>
    have hl : 0 < l.length := by
      rw [opFind_idx D.op 0] at hf
      cases hj : opIdx q D.op 0 with
      | none => rw [hj] at hf; cases hf
      | some j =>
        rw [hj] at hf
        obtain ⟨-, h2, s', v, h3⟩ := opIdx_lt hj
        simp only [Nat.sub_zero, List.getD_eq_getElem?_getD] at h3 hf
        rw [h3] at hf
        simp at hf
        subst hf
        exact (h.op.2 _ (List.mem_of_getElem? h3)).2.2.1
    simp [hl]
/-- Rot, where nothing is open. -/
theorem OkD.rot {n k : Nat} {D : DM} (h : OkD n k D) (i : Int) : OkD n k (D.rot i) ∧ (D.rot i).op = D.op ∧ (D.rot i).steps = D.steps := by
  unfold DM.rot
  split
  · exact ⟨⟨h.dead, h.after, by simp only [DM.setc, List.length_set]; exact h.len, h.steps, h.op, h.room⟩, rfl, rfl⟩
  · exact ⟨h, rfl, rfl⟩
theorem OkD.read_rot {n k : Nat} {D : DM} (h : OkD n k D) (ho : D.op = []) {i : Int} (h0 : 0 ≤ i) (h1 : i < n) {q : Int} (q0 : 0 ≤ q) (q1 : q < n) : (D.rot i).read q = if q = i then (zeroSec, 221) else D.read q := by
  obtain ⟨r1, r2, -⟩ := h.rot i
  have g : ∀ E : DM, E.op = [] → E.get q = [] := fun E hE => by rw [get_find, hE]; rfl
  rw [r1.read q0 q1, h.read q0 q1, g _ (r2.trans ho), g _ ho]
  simp only [List.length_nil, Nat.lt_irrefl, if_false]
  have hc : (D.rot i).cell q = if q = i then ⟨zeroSec, true⟩ else D.cell q := by
    unfold DM.rot DM.cell
    rw [if_pos (h.check0 h0 h1)]
    unfold DM.setc
    simp only [List.getD_eq_getElem?_getD, List.getElem?_set]
    have hl := h.len
    by_cases e : q = i
    · subst e; rw [if_pos rfl, if_pos rfl, if_pos (by omega)]; rfl
    · rw [if_neg e, if_neg (by omega)]
  rw [hc]
  by_cases e : q = i
  · rw [if_pos e, if_pos e]; rfl
  · rw [if_neg e, if_neg e]
theorem newD_ok (n : Nat) : OkD n 0 (newD n) := ⟨rfl, rfl, by simp [newD], by simp [newD], ⟨by simp [newD], by simp [newD]⟩, by simp [newD]⟩
end Go.Proofs.YtilcpcpmkklobaaDoor

/- Changes of several sectors: what is read behind them. -/
namespace Go.Proofs.YtilcpcpmkklobaaDoor
set_option linter.unusedSimpArgs false
set_option linter.unusedVariables false
set_option linter.unnecessarySimpa false
open Go.RowKit

structure PPut where
  sec : Int
  dat : Sec
instance : Inhabited PPut := ⟨⟨0, zeroSec⟩⟩
def putL (p : PPut) : List PV := pint p.sec :: secL p.dat
theorem putL_len (p : PPut) : (putL p).length = 65 := by simp [putL, secL_len]
theorem putL_low (p : PPut) : ∀ c ∈ putL p, Low c := by
  intro c hc
  rcases List.mem_cons.1 hc with rfl | hc
  · exact .val _
  · exact secL_low _ c hc
theorem putL_one (p : PPut) : (putL p).all PV.one = true := by rw [putL, List.all_cons, secL_one]; rfl
theorem putL_bare (p : PPut) : (putL p).map PV.bare = putL p := by rw [putL, List.map_cons, secL_bare]; rfl
def pputs (l : List PPut) : PV := .sl l.length 65 (l.flatMap putL) none
theorem low_pputs (l : List PPut) : Low (pputs l) := .sl _ _ _ _ (flat_low putL_low l)

/-- Writes one after the other. -/
def DM.puts (D : DM) : List PPut → DM
  | [] => D
  | p :: l => DM.puts (D.write p.sec p.dat).2 l
theorem puts_snoc (D : DM) (l : List PPut) (p : PPut) : D.puts (l ++ [p]) = ((D.puts l).write p.sec p.dat).2 := by
  induction l generalizing D with
  | nil => rfl
  | cons q l ih => rw [List.cons_append, DM.puts, DM.puts, ih]
theorem puts_append (D : DM) (l r : List PPut) : D.puts (l ++ r) = (D.puts l).puts r := by
  induction l generalizing D with
  | nil => rfl
  | cons q l ih => rw [List.cons_append, DM.puts, DM.puts, ih]
/-- The sectors of a change lie on the disk. -/
def InD (n : Nat) (l : List PPut) : Prop := ∀ p ∈ l, 0 ≤ p.sec ∧ p.sec < n
theorem OkD.puts {n : Nat} : ∀ (l : List PPut) {k : Nat} {D : DM}, OkD n k D → InD n l → k + l.length ≤ 1000000000 → OkD n (k + l.length) (D.puts l) ∧ (D.puts l).steps = D.steps + l.length
  | [], k, D, h, _, _ => ⟨h, by simp [DM.puts]⟩
  | p :: l, k, D, h, hi, hk => by
    simp only [List.length_cons] at hk
    obtain ⟨h0, h1⟩ := hi p (List.mem_cons_self ..)
    obtain ⟨w1, w2, w3⟩ := h.write h0 h1 (by omega) p.dat
    obtain ⟨i1, i2⟩ := OkD.puts l w2 (fun q hq => hi q (List.mem_cons_of_mem _ hq)) (by omega)
    rw [DM.puts]
    refine ⟨?_, by rw [i2, w3]; simp only [List.length_cons]; omega⟩
    rw [List.length_cons, show k + (l.length + 1) = k + 1 + l.length by omega]
    exact i1
/-- The last word on a sector. -/
def lastP (q : Int) : List PPut → Option Sec
  | [] => none
  | p :: l => match lastP q l with
    | some s => some s
    | none => if p.sec = q then some p.dat else none
theorem OkD.read_puts {n : Nat} : ∀ (l : List PPut) {k : Nat} {D : DM}, OkD n k D → InD n l → k + l.length ≤ 1000000000 → ∀ {q : Int}, 0 ≤ q → q < n → (D.puts l).read q = match lastP q l with
    | some s => (s, 0)
    | none => D.read q
  | [], k, D, h, _, _, q, _, _ => rfl
  | p :: l, k, D, h, hi, hk, q, q0, q1 => by
    simp only [List.length_cons] at hk
    obtain ⟨h0, h1⟩ := hi p (List.mem_cons_self ..)
    obtain ⟨w1, w2, w3⟩ := h.write h0 h1 (by omega) p.dat
    rw [DM.puts, OkD.read_puts l w2 (fun q hq => hi q (List.mem_cons_of_mem _ hq)) (by omega) q0 q1, lastP]
    cases lastP q l with
    | some s => rfl
    | none =>
      simp only
      rw [h.read_write h0 h1 (by omega) p.dat q0 q1]
      by_cases e : q = p.sec
      · rw [if_pos e, if_pos e.symm]
      · rw [if_neg e, if_neg (fun h => e h.symm)]
theorem lastP_none {q : Int} : ∀ {l : List PPut}, (∀ p ∈ l, p.sec ≠ q) → lastP q l = none
  | [], _ => rfl
  | p :: l, h => by rw [lastP, lastP_none (fun x hx => h x (List.mem_cons_of_mem _ hx))]; simp [h p (List.mem_cons_self ..)]

/-- How many sectors an area has. -/
def numbersI (n : Int) : Int := (n + 15) / 16
def roomI (m : Int) : Int := if m < 1 ∨ 1024 < m then 0 else 1 + numbersI m + m
/-- The bytes of a number of a sector. -/
def numB (z : Int) (k : Nat) : Int := IntKind.u8.wrap (z.fdiv (2 ^ (min (8 * k) 64)))
/-- A sector of numbers of sectors, after so many of them. -/
def setB (s : Sec) (j : Nat) (z : Int) : Sec := ⟨s.1.set j (IntKind.u8.wrap z), by
  rw [List.length_set]; exact s.2.1, fun x hx => by
    rcases List.mem_or_eq_of_mem_set hx with hx | rfl
    · exact s.2.2 x hx
    · rw [IntKind.wrap_u8]; omega⟩
end Go.Proofs.YtilcpcpmkklobaaDoor

/- Pure states: an append to nothing whose result may be written to: append([]T{}, l...). -/
namespace Go.Proofs.YtilcpcpmkklobaaDoor
set_option linter.unusedSimpArgs false
set_option linter.unusedVariables false
set_option linter.unnecessarySimpa false
open Go.RowKit

section
variable {Φ0 : Ent} {W : World} {M : Nat} {Φ : Imm} {μ : Nat → Option Nat} {ω : Nat → Option Who} {σ : PS} {a : Act} {w : World} {P : Program} {T : Tab}

/-- A variable is known by its first cells. -/
theorem RelG.boxTake (h : RelG Φ0 W M Φ μ ω σ a w) {id : Nat} {bs cs r : List PV} (hb : σ.b id = some bs) (hc : bs = cs ++ r) : RelG Φ0 W M Φ μ ω { σ with b := upd σ.b id (some cs) } a w := by
  subst hc
  refine { h with box := fun i bs' e => ?_, gone := fun i e em => ?_, kmu := fun i g e hi => ?_ }
  · by_cases hi : i = id
    · subst hi
      simp only [upd_if, if_true] at e
      cases e
      obtain ⟨g, cur, T, h1, h2, h3, h4, h5, h6, h7⟩ := h.box i _ hb
      refine ⟨g, cur, T, h1, h2, h3, h4, h5, by simp at h6; omega, fun j c hc => h7 j c ?_⟩
      rw [List.getElem?_append_left (List.getElem?_eq_some_iff.1 hc).1]; exact hc
    · simp only [upd_if, if_neg hi] at e; exact h.box i bs' e
  · by_cases hi : i = id
    · subst hi; simp only [upd_if, if_true] at e; cases e
    · simp only [upd_if, if_neg hi] at e; exact h.gone i e em
  · by_cases hi' : i = id
    · subst hi'; exact h.kmu i g e (.inl (by rw [hb]; simp))
    · simp only [upd_if, if_neg hi'] at hi; exact h.kmu i g e hi

/-- In place: the block becomes a variable. -/
theorem RelG.appendBox (h : RelG Φ0 W M Φ μ ω σ a w) {s d id : Nat} (hlow : id < 1000000) (hid : σ.b id = none) (hmid : σ.m id = none) (hd : d < M) {m k cap g : Nat} {ds : List PV} {e : TypeId} {cur : Array Value} {news : List Value}
    (hg : w.heap[g]? = some (.cells cur e (0, 0))) (hroom : m ≤ cap) (hcur : cur.size = cap * k) (hω : ω g = some (.tmp s)) (hfree : ∀ j, Φ g j = none) (hB : Mine Φ0 W g) (hcap : cap ≤ maxLen)
    (hds : ds.length = m * k) (hn : RepL Φ μ ds news) (hone : ∀ u ∈ news, u.oneCell' = true) (hno : ∀ c ∈ ds, c.ownB = false) :
    Rel Φ0 W M { t := upd (upd σ.t s (σ.t s).bare) d (.msl id 0 m k), b := upd σ.b id (some ds), m := σ.m } (a.put (some d) (.slice (some ⟨g, 0, none⟩) m cap)) (w.setRow g (news ++ cur.toList.drop news.length).toArray) := by
  have hd' : d < a.tmps.size := by rw [h.size]; exact hd
  have hlt : g < w.heap.size := (Array.getElem?_eq_some_iff.1 hg).1
  have hmk : m * k ≤ cap * k := Nat.mul_le_mul_right _ hroom
  have hnl := hn.1
  have hμ : ∀ i g', μ i = some g' → upd μ id (some g) i = some g' := by
    intro i g' e'
    simp only [upd_if]
    rw [if_neg (by rintro rfl; rw [h.gone _ hid hmid] at e'; cases e')]; exact e'
  have hω' : ∀ g' p, ω g' = some p → p ≠ .tmp s → upd ω g (some (.box id)) g' = some p := by
    intro g' p eg hp
    simp only [upd_if]
    rw [if_neg (by rintro rfl; rw [hω] at eg; cases eg; exact hp rfl)]
    exact eg
  have hstep : ∀ q n' k' E v, q ≠ .tmp s → OwnAt (Mine Φ0 W) Φ ω w q n' k' E v → OwnAt (Mine Φ0 W) Φ (upd ω g (some (.box id))) (w.setRow g (news ++ cur.toList.drop news.length).toArray) q n' k' E v := by
    intro q n' k' E v hq hh
    refine hh.step (fun g' eg => ?_)
    have hne : g' ≠ g := by rintro rfl; rw [hω] at eg; cases eg; exact hq rfl
    exact ⟨setRow_other w g g' _ hne, fun j => rfl, hω' g' q eg hq⟩
  refine ⟨Φ, upd μ id (some g), upd ω g (some (.box id)), ?_, h.defers, by simp [Act.put, h.size], ?_, h.old, fun t => ?_, fun t n' k' cs' E' et => ?_, fun i bs eb => ?_, ?_, ?_, h.gmu, ?_, h.ext, fun i X e' => (h.map i X e').step (fun _ _ _ e => e) hμ (fun q hq g' eg => ?_), fun g' p e' => ?_⟩
  · exact h.below.trans ⟨rfl, rfl, rfl, by simp, fun j hj => setRow_other w g j _ (hB.ne hj)⟩
  · intro b o u eu
    have hb : b ≠ g := by rintro rfl; rw [hfree] at eu; cases eu
    have := h.imm b o u eu
    simp only [World.cell?] at this ⊢
    rw [setRow_other w g b _ hb]; exact this
  · rw [getD_put _ _ _ _ hd']
    simp only [upd_if]
    by_cases ht : t = d
    · simp only [if_pos ht]
      exact .msl id 0 m k _ cap (fun _ => ⟨g, by simp [upd_if], rfl⟩) hroom hcap
    · simp only [if_neg ht]
      by_cases hts : t = s
      · subst hts; simp only [if_true]; exact ((h.tmps t).mono (fun _ _ _ e => e) hμ).bare
      · simp only [if_neg hts]; exact (h.tmps t).mono (fun _ _ _ e => e) hμ
  · rw [getD_put _ _ _ _ hd']
    simp only [upd_if] at et
    by_cases ht : t = d
    · simp only [if_pos ht] at et; cases et
    · simp only [if_neg ht] at et ⊢
      by_cases hts : t = s
      · simp only [if_pos hts] at et
        have := PV.bare_own (σ.t s); rw [et] at this; simp [PV.ownB] at this
      · simp only [if_neg hts] at et
        exact hstep _ _ _ _ _ (by simp [hts]) (h.own t n' k' cs' E' et)
  · by_cases hi : i = id
    · subst hi
      simp only [upd_if, if_true] at eb
      cases eb
      refine ⟨g, _, e, by simp [upd_if], setRow_heap w g cur _ e _ hg, hB, by simp [upd_if], hfree, by simp; omega, fun j c hc => ?_⟩
      obtain ⟨u, hu, hru⟩ := hn.get hc
      refine ⟨u, ?_, hone u (mem_of_get hu), hru.mono (fun _ _ _ e => e) hμ, fun n k cs E e' => ?_⟩
      · rw [List.getElem?_toArray, List.getElem?_append_left (List.getElem?_eq_some_iff.1 hu).1]; exact hu
      · have := hno c (mem_of_get hc)
        rw [e'] at this; simp [PV.ownB] at this
    · simp only [upd_if, if_neg hi] at eb
      obtain ⟨g2, cur', Ty, h1, h2', h3, h4, h5, h6, h7⟩ := h.box i bs eb
      have hne : g2 ≠ g := by rintro rfl; rw [hω] at h4; cases h4
      refine ⟨g2, cur', Ty, hμ _ _ h1, by rw [setRow_other w g g2 _ hne]; exact h2', h3, hω' g2 _ h4 (by simp), h5, h6, fun j c hc => ?_⟩
      obtain ⟨u, r1, r2, r3, r4⟩ := h7 j c hc
      exact ⟨u, r1, r2, r3.mono (fun _ _ _ e => e) hμ, fun n k cs E e => hstep _ _ _ _ _ (by simp) (r4 n k cs E e)⟩
  · intro i e' em
    by_cases hi : i = id
    · subst hi; simp [upd_if] at e'
    · simp only [upd_if, if_neg hi] at e' ⊢; exact h.gone i e' em
  · intro g' p eg
    simp only [upd_if] at eg
    split at eg
    · subst g'; simpa using hlt
    · simpa using h.lt g' p eg
  · intro i g' e' hi
    have hne : i ≠ id := by have := h.gmu i g' e'; omega
    simp only [upd_if, if_neg hne] at hi ⊢
    exact h.kmu i g' e' hi
  · have hne : g' ≠ g := by rintro rfl; rw [hω] at eg; cases eg; rcases hq with hq | ⟨j, hq⟩ <;> cases hq
    exact ⟨setRow_other w g g' _ hne, fun j => rfl, hω' g' q eg (by rintro rfl; rcases hq with hq | ⟨j, hq⟩ <;> cases hq)⟩
  · simp only [upd_if] at e'
    split at e'
    · subst g'; exact hB
    · exact h.mine g' p e'

/-- A new block becomes a variable. -/
theorem Rel.freshBox (h : RelG Φ0 W M Φ μ ω σ a w) {s d id : Nat} (hlow : id < 1000000) (hid : σ.b id = none) (hmid : σ.m id = none) (hd : d < M) {m k cap : Nat} {ds : List PV} {news : List Value} {rest : Array Value} (T : TypeId) (hroom : m ≤ cap) (hcap : cap ≤ maxLen) (hn : RepL Φ μ ds news) (hone : ∀ u ∈ news, u.oneCell' = true) (hone2 : ∀ u ∈ rest.toList, u.oneCell' = true) (hno : ∀ c ∈ ds, c.ownB = false) :
    Rel Φ0 W M { t := upd (upd σ.t s (σ.t s).bare) d (.msl id 0 m k), b := upd σ.b id (some ds), m := σ.m } (a.put (some d) (.slice (some ⟨w.heap.size, 0, none⟩) m cap)) (w.drew.alloc (.cells (news.toArray ++ rest) T)) := by
  have h1 := h.drew.newBox hlow hid hmid (bs := ds ++ List.replicate rest.size .undef) (us := news ++ rest.toList) ⟨by simp [hn.1], fun j c u hc hu => by
    by_cases hj : j < ds.length
    · rw [List.getElem?_append_left hj] at hc
      rw [List.getElem?_append_left (by rw [hn.1]; exact hj)] at hu
      exact hn.2 j c u hc hu
    · rw [List.getElem?_append_right (by omega)] at hc
      rw [(List.mem_replicate.1 (List.mem_of_getElem? hc)).2]
      exact .undef _⟩ (fun u hu => by
        rcases List.mem_append.1 hu with hu | hu
        · exact hone u hu
        · exact hone2 u hu) (fun c hc => by
        rcases List.mem_append.1 hc with hc | hc
        · exact hno c hc
        · rw [(List.mem_replicate.1 hc).2]; rfl) T
  have h2 := h1.boxTake (id := id) (cs := ds) (bs := ds ++ List.replicate rest.size .undef) (r := List.replicate rest.size .undef) (by simp [upd_if]) rfl
  have h3 := h2.strip s
  have h4 := h3.put hd (p := .msl id 0 m k) (v := .slice (some ⟨w.heap.size, 0, none⟩) m cap) (.msl id 0 m k _ cap (fun _ => ⟨w.heap.size, by simp [upd_if], rfl⟩) hroom hcap) rfl
  have e : (news ++ rest.toList).toArray = news.toArray ++ rest := by simp
  have e2 : upd (upd σ.b id (some (ds ++ List.replicate rest.size .undef))) id (some ds) = upd σ.b id (some ds) := by
    funext j; simp only [upd_if]; by_cases hj : j = id <;> simp [hj]
  rw [e] at h4
  have : ({ t := upd (upd σ.t s (σ.t s).bare) d (.msl id 0 m k), b := upd σ.b id (some ds), m := σ.m } : PS) = PS.put { σ with t := upd σ.t s (σ.t s).bare, b := upd (upd σ.b id (some (ds ++ List.replicate rest.size .undef))) id (some ds) } d (.msl id 0 m k) := by
    rw [e2]; rfl
  rw [this]
  exact ⟨_, _, _, h4⟩

/-- An append to nothing. -/
theorem appN_does (hT : T = tabOf P) (h : RelG Φ0 W M Φ μ ω σ a w) (o : Oper) {d s id : Nat} (hlow : id < 1000000) (hid : σ.b id = none) (hmid : σ.m id = none) (hd : o.dst = some d) (hM : d < M) {x : Operand} {t : TypeId} (hop : o.op = .call { callee := .builtin .append, args := #[.tmp s, x], argTypes := #[t, t] })
    {ti : TyI} (ht : T.at t = some ti) {m e k by_ : Nat} {ds zr : List PV} {own : Option TypeId} (hk : ti.kind = .slice e k by_ zr) (hs : σ.t s = .nilsl ∨ σ.t s = .sl 0 k [] (some e)) (he : e < 1000000) (hx : pev σ x = .sl m k ds own) (c1 : m * by_ ≤ 140737488355328) (c2 : m ≤ 140737488355328) (h0 : 0 < m) (c3 : ds.all PV.one = true) (hno : ∀ c ∈ ds, c.ownB = false) :
    Does P Φ0 W M a w o { t := upd (upd σ.t s (σ.t s).bare) d (.msl id 0 m k), b := upd σ.b id (some ds), m := σ.m } := by
  have ht' : tyI P t = some ti := by rw [hT] at ht; exact tab_at rfl ht
  obtain ⟨hu, i, z, e1, e2, e3, e4, e5, e6, e7, -⟩ := slice_get ht' hk
  have hrun : ∀ v' w', (Builtin.append_ #[t, t] o.type #[a.eval (.tmp s), a.eval x]).run P w = .ok v' w' → (execOp a.eval o).run P w = .ok (.value v') w' := by
    intro v' w' hr
    simp only [execOp, hop, resolve, invoke, builtin, Sem.run_bind, Sem.run_pure, Result.andThen_ok, List.map_toArray, List.map_cons, List.map_nil, hr]
  have hml : m ≤ maxLen := by unfold maxLen; omega
  have hxx : ∃ ad cx news, a.eval x = .slice ad m cx ∧ (0 < m → ∃ adr, ad = some adr ∧ ∀ j u, news[j]? = some u → w.cell? (adr.add j) = some u) ∧ RepL Φ μ ds news ∧ (∀ u ∈ news, u.oneCell' = true) ∧ ds.length = m * k := by
    have hxr := h.ev x
    rw [hx] at hxr
    obtain ⟨ad, b, off, cap, us, hv, q1, q2, q3, q4, q5, q6⟩ := hxr.sl_inv
    have hrl := repL_of_us ds us q6
    refine ⟨ad, cap, _, hv, fun hpos => ⟨_, q4 hpos, ?_⟩, hrl, repL_one hrl c3, q3⟩
    intro j u hj
    rw [Addr.add_lit]
    have hjl : j < ds.length := by have := (List.getElem?_eq_some_iff.1 hj).1; simpa using this
    simp [hjl] at hj
    subst hj
    exact h.imm _ _ _ (q5 j hjl)
  obtain ⟨ad, cx, news, hxv, hxa, hxr, hxo, hdl⟩ := hxx
  have hnl : news.length = m * k := by rw [hxr.1, hdl]
  obtain ⟨adr, rfl, hcells⟩ := hxa h0
  have hz : ∀ q, ∀ u ∈ (Builtin.zeroCells z.cells q).toList, u.oneCell' = true := by
    intro q u hu
    have hpos : 0 < z.cells.size := by rw [e5]; exact e6
    simp only [Builtin.zeroCells, Array.toList_map, List.mem_map] at hu
    obtain ⟨j, -, rfl⟩ := hu
    have hj : j % z.cells.size < z.cells.size := Nat.mod_lt _ hpos
    rw [getElem!_pos z.cells _ hj]
    exact e7 _ (Array.getElem_mem_toList hj)
  have nilc : a.eval (.tmp s) = .slice none 0 0 → Does P Φ0 W M a w o { t := upd (upd σ.t s (σ.t s).bare) d (.msl id 0 m k), b := upd σ.b id (some ds), m := σ.m } := by
    intro hs0
    have hr := run_append_nil (P := P) w t o.type e i z hu e1 e2 adr m cx news (by rw [hnl, e3]) hcells (by omega) (by omega) (by rw [e4]; omega)
    refine ⟨_, _, _, hrun _ _ (by rw [hs0, hxv]; exact hr), .inl rfl, ?_⟩
    rw [hd]
    exact Rel.freshBox h hlow hid hmid hM e (grownCap_ge w m 0 e) (grownCap_le_maxLen w m 0 e (by omega)) hxr hxo (hz _) hno
  have grow : ∀ (ad2 : Addr) cap, a.eval (.tmp s) = .slice (some ad2) 0 cap → cap ≤ maxLen → ¬ (m ≤ cap) → Does P Φ0 W M a w o { t := upd (upd σ.t s (σ.t s).bare) d (.msl id 0 m k), b := upd σ.b id (some ds), m := σ.m } := by
    intro ad2 cap hsv hcapm hroom
    have hr := run_append_grow (P := P) w t o.type e i z hu e1 e2 ad2 0 cap [] (by simp) (fun j u hj => by simp at hj) adr m cx news (by rw [hnl, e3]) hcells (by omega) (by omega) (growslice_fits (by omega) (by rw [e4, Nat.zero_add]; exact c1))
    refine ⟨_, _, _, hrun _ _ (by rw [hsv, hxv]; exact hr), .inl rfl, ?_⟩
    rw [hd]
    have := Rel.freshBox h (s := s) hlow hid hmid hM (k := k) (rest := Builtin.zeroCells z.cells (grownCap w (0 + m) cap e - (0 + m))) e (Nat.le_trans (Nat.le_of_eq (Nat.zero_add m).symm) (grownCap_ge w (0 + m) cap e)) (grownCap_le_maxLen w (0 + m) cap e (by omega)) hxr hxo (hz _) hno
    simpa using this
  rcases hs with hs | hs
  · have := h.tmps s
    rw [hs] at this
    exact nilc this.nilsl_inv
  · rcases h.own s 0 k [] e hs with ⟨hnil, -⟩ | ⟨g, cap, cur, hv, hB, hg, q1, q2, q3, q4, q5⟩ | ⟨hfull, -⟩
    · exact nilc hnil
    · have hsv : a.eval (.tmp s) = .slice (some ⟨g, 0, none⟩) 0 cap := hv
      by_cases hroom : m ≤ cap
      · have hfit : 0 * i.size + news.length ≤ cur.size := by rw [hnl, q3, Nat.zero_mul, Nat.zero_add]; exact Nat.mul_le_mul_right _ hroom
        have hr := run_append_room (P := P) w t o.type e i hu e1 g 0 cap cur hg adr m cx news (by rw [hnl, e3]) hcells hxo (by omega) hfit
        refine ⟨_, _, _, hrun _ _ (by rw [hsv, hxv]; exact hr), .inl rfl, ?_⟩
        rw [hd]
        have := h.appendBox (s := s) hlow hid hmid hM hg hroom q3 q4 (fun j => q5.2 j (by rw [Nat.zero_mul]; omega)) hB q2 hdl hxr hxo hno
        simpa using this
      · exact grow _ cap hsv q2 hroom
    · exact absurd hfull (Nat.not_le.2 he)
end

section
variable {P : Program} {T : Tab} {σ : PS} {o : Oper} {i base : Nat} {ops : Array Oper} {ok : Nat → Nat → Bool} {rest : List (Nat × Oper)} {K : PS → Prop}
/-- string(b) of bytes that are a variable's. -/
theorem PWops.strM {d n e kk by_ id o' : Nat} {zr bs : List PV} {l : List Int} {s : ByteArray} {x : Operand} {ts td : TypeId} {si di ei : TyI} (hg : pguard ops σ o = some true) (hd : o.dst = some d) (hop : o.op = .convert ts td x) (hx : pev σ x = .msl id o' n 1) (hbs : (σ.only (ok i)).b id = some bs) (hs : T.at ts = some si) (ht : T.at td = some di) (hk1 : si.kind = .slice e kk by_ zr) (hk2 : di.kind = .str) (he : T.at e = some ei) (hke : ei.kind = .int .u8) (htd : Nat.beq td strT = true) (hb : σ.freeB (base + i) = true)
    (hle : o' + n ≤ bs.length) (hl : ((bs.drop o').take n).map PV.bare = l.map pbyte) (hr : strI l = s) (kn : PWops P T ops base ok rest K (σ.put d (pstr s))) : PWops P T ops base ok ((i, o) :: rest) K σ := by
  refine PWops.stepM hg (E := ⟨.val (.string (strI l)), [], none, []⟩) ?_ hb (by rw [hd, hr]; exact kn)
  have hl' : bytesOf (((bs.drop o').take n).map PV.bare) = some l := by rw [hl]; exact bytesOf_map l
  simp only [hop, presM, htd, if_true, hs, ht, pev_only, hx, pstrM, hk1, hk2, he, hbs, hke, hle, and_self, hl', Option.map_some]
/-- append([]T{}, l...) as a variable that may be written to. -/
theorem PWops.appN {d s m k e by_ : Nat} {ds zr : List PV} {own : Option TypeId} {x : Operand} {t : TypeId} {sz : Nat} {ag : Bool} {zz : List PV} {es : List SK} (hT : T = tabOf P) (hg : pguard ops σ o = some true) (hok : ∀ j id, ok j id = true) (hd : o.dst = some d) (hop : o.op = .call { callee := .builtin .append, args := #[.tmp s, x], argTypes := #[t, t] })
    (hs : σ.t s = .nilsl ∨ σ.t s = .sl 0 k [] (some e)) (hx : pev σ x = .sl m k ds own) (ht : T.at t = some ⟨sz, ag, .slice e k by_ zr, zz, es⟩) (hb : σ.freeB (base + i) = true) (hlow : Nat.blt (base + i) 1000000 = true) (he : Nat.blt e 1000000 = true) (h1 : m * by_ ≤ 140737488355328) (h2 : m ≤ 140737488355328) (h0 : 0 < m) (hone : ds.all PV.one = true) (hno : ds.all (fun c => !c.ownB) = true)
    (kn : PWops P T ops base ok rest K (((σ.put s (σ.t s).bare).setb (base + i) ds).put d (.msl (base + i) 0 m k))) : PWops P T ops base ok ((i, o) :: rest) K σ := by
  refine PWops.sem (E := ⟨.msl (base + i) 0 m k, [(base + i, ds)], some s, []⟩) hg hok ?_ (by rw [hd]; exact kn)
  intro Φ0 W M a w hM hrel
  obtain ⟨Φ, μ, ω, hr⟩ := hrel
  obtain ⟨q1, q2⟩ := PS.freeB_spec hb
  have := appN_does hT hr o (id := base + i) (by simpa [Nat.blt_eq] using hlow) q1 q2 hd (hM d hd) hop ht rfl hs (by simpa [Nat.blt_eq] using he) hx h1 h2 h0 hone (fun c hc => by simpa using List.all_eq_true.1 hno c hc)
  rw [hd]
  exact this
end
end Go.Proofs.YtilcpcpmkklobaaDoor

/- The journal: its rooms; contracts of functions that are handed variables, put together. -/
namespace Go.Proofs.YtilcpcpmkklobaaDoor
set_option linter.unusedSimpArgs false
set_option linter.unusedVariables false
set_option linter.unnecessarySimpa false
open Go.RowKit

set_option maxRecDepth 10000 in
theorem pw_numbers (n : Int) (h0 : 0 ≤ n) (h : n ≤ 1000000000000) : PCalls Tryd.prog 38 [pint n] (· = pint (numbersI n)) := by
  refine pcalls_of_pw typeTab_ok Tryd.func38 rfl (by kernel_rfl) (by exact lw) (by simp [pint, PV.ownB]) (Nat.le_of_ble_eq_true rfl) ?_
  refine wk ?_
  refine retP rfl (by exact lw) ?_
  rw [numbersI, show n + 16 - 1 = n + 15 by omega]; rfl

set_option maxRecDepth 10000 in
theorem pw_room (m : Int) : PCalls Tryd.prog 24 [pint m] (· = pint (roomI m)) := by
  refine pcalls_of_pw typeTab_ok Tryd.func24 rfl (by kernel_rfl) (by exact lw) (by simp [pint, PV.ownB]) (Nat.le_of_ble_eq_true rfl) ?_
  by_cases h1 : m < 1
  · rw [roomI, if_pos (.inl h1)]
    refine wk ?_
    exact retP rfl (by exact lw) rfl
  · by_cases h2 : 1024 < m
    · rw [roomI, if_pos (.inr h2)]
      refine wk ?_
      exact retP rfl (by exact lw) rfl
    · rw [roomI, if_neg (by omega)]
      have hn := pw_numbers m (by omega) (by omega)
      have hb : 0 ≤ numbersI m ∧ numbersI m ≤ 1000 := by unfold numbersI; omega
      generalize numbersI m = q at *
      refine wk ?_
      exact retP rfl (by exact lw) rfl

/-- Numbers put otherwise, by a list. -/
def renN : List (Nat × Nat) → Nat → Nat
  | [], i => i
  | (a, b) :: l, i => cond (Nat.beq i a) b (renN l i)
theorem renN_mem : ∀ {l : List (Nat × Nat)} {i : Nat}, i ∈ l.map (·.1) → (i, renN l i) ∈ l
  | [], i, h => by simp at h
  | (a, b) :: l, i, h => by
    unfold renN
    cases e : Nat.beq i a with
    | true =>
      have e' := Nat.eq_of_beq_eq_true e
      subst e'; exact List.mem_cons_self ..
    | false =>
      refine List.mem_cons_of_mem _ (renN_mem ?_)
      rcases List.mem_cons.1 h with rfl | h
      · rw [Nat.beq_refl] at e; cases e
      · exact h
theorem renN_inj {l : List (Nat × Nat)} (h2 : (l.map (·.2)).Nodup) : ∀ i ∈ l.map (·.1), ∀ j ∈ l.map (·.1), renN l i = renN l j → i = j := by
  intro i hi j hj e
  have h3 := renN_mem hi
  have h4 := renN_mem hj
  rw [e] at h3
  have key : ∀ {l : List (Nat × Nat)} {a b c : Nat}, (l.map (·.2)).Nodup → (a, c) ∈ l → (b, c) ∈ l → a = b := by
    intro l
    induction l with
    | nil => intro a b c _ h; simp at h
    | cons x l ih =>
      intro a b c hn ha hb
      simp only [List.map_cons, List.nodup_cons] at hn
      rcases List.mem_cons.1 ha with ha | ha <;> rcases List.mem_cons.1 hb with hb | hb
      · rw [← ha] at hb; cases hb; rfl
      · exact absurd (List.mem_map.2 ⟨_, hb, by rw [← ha]⟩) hn.1
      · exact absurd (List.mem_map.2 ⟨_, ha, by rw [← hb]⟩) hn.1
      · exact ih hn.2 ha hb
  exact key h2 h3 h4

section
variable {S : Nat → Prop}
theorem li_nil : ∀ p ∈ ([] : List PV), LowI S p := by simp
theorem li_cons {p : PV} {ps : List PV} (h : LowI S p) (hs : ∀ q ∈ ps, LowI S q) : ∀ q ∈ p :: ps, LowI S q := by
  intro q hq
  rcases List.mem_cons.1 hq with rfl | hq
  · exact h
  · exact hs q hq
theorem li_low {ps : List PV} (h : ∀ p ∈ ps, Low p) : ∀ p ∈ ps, LowI S p := fun p hp => (h p hp).lowI
theorem lb_nil : ∀ x ∈ ([] : List (Nat × List PV)), ∀ p ∈ x.2, LowI S p := by simp
theorem lb_cons {i : Nat} {bs : List PV} {l : List (Nat × List PV)} (h : ∀ p ∈ bs, LowI S p) (hs : ∀ x ∈ l, ∀ p ∈ x.2, LowI S p) : ∀ x ∈ (i, bs) :: l, ∀ p ∈ x.2, LowI S p := by
  intro x hx
  rcases List.mem_cons.1 hx with rfl | hx
  · exact h
  · exact hs x hx
theorem lm_nil : ∀ x ∈ ([] : List (Nat × PMap)), LowM S x.2 := by simp
theorem lm_cons {i : Nat} {es : List (Nat × PV × PV)} {c : Nat} {l : List (Nat × PMap)} (h : ∀ e ∈ es, Low e.2.1 ∧ Low e.2.2) (hs : ∀ x ∈ l, LowM S x.2) : ∀ x ∈ (i, PMap.map es c) :: l, LowM S x.2 := by
  intro x hx
  rcases List.mem_cons.1 hx with rfl | hx
  · exact fun e he => ⟨(h e he).1.lowI, (h e he).2.lowI⟩
  · exact hs x hx
end
section
variable {ρ : Nat → Nat} {S : Nat → Prop} {ps qs : List PV}
theorem ren_agg (h : RenL ρ S ps qs) : Ren ρ S (.agg ps) (.agg qs) := .agg _ _ h.1 h.2
theorem ren_fn {f : FuncId} (h : RenL ρ S ps qs) : Ren ρ S (.fn f ps) (.fn f qs) := .fn _ _ _ h.1 h.2
theorem ren_sl {n k : Nat} (h : RenL ρ S ps qs) : Ren ρ S (.sl n k ps none) (.sl n k qs none) := .sl _ _ _ _ h.1 h.2
end
/-- A contract at other numbers. -/
theorem HCalls.at {P : Program} {f : FuncId} {args args' : List PV} {given given' res res' : List (Nat × List PV)} {gm gm' rm rm' : List (Nat × PMap)} {r r' : PV} (h : HCalls P f args given gm r res rm) (L : List (Nat × Nat)) (hd : (L.map (·.2)).Nodup) (hs : ∀ i ∈ ResIds res rm, i ∈ L.map (·.1)) (hs1 : ∀ i ∈ given.map (·.1), i ∈ res.map (·.1)) (hs2 : ∀ i ∈ gm.map (·.1), i ∈ rm.map (·.1))
    (ha : RenL (renN L) (fun i => i ∈ ResIds given gm) args args') (hg : RenB (renN L) (fun i => i ∈ ResIds given gm) given given') (hm : RenMs (renN L) (fun i => i ∈ ResIds given gm) gm gm')
    (hr : Ren (renN L) (fun i => i ∈ ResIds res rm) r r') (hres : RenB (renN L) (fun i => i ∈ ResIds res rm) res res') (hrm : RenMs (renN L) (fun i => i ∈ ResIds res rm) rm rm') : HCalls P f args' given' gm' r' res' rm' :=
  h.ren (renN L) hs1 hs2 (fun i hi j hj e => renN_inj hd i (hs i hi) j (hs j hj) e) ha hg hm hr hres hrm

/-- The journal's variable; all that it reaches. -/
def jB (d : Nat) (at_ most : Int) : List PV := [.ptr d 0, pint at_, pint most]
def jG (d c m j : Nat) (at_ most : Int) (D : DM) : List (Nat × List PV) := (j, jB d at_ most) :: dG d c m D
def ids4 (d c m j : Nat) : List (Nat × Nat) := [(1000001, d), (1000002, c), (1000003, m), (1000004, j)]
end Go.Proofs.YtilcpcpmkklobaaDoor

/- The journal: steps. -/
namespace Go.Proofs.YtilcpcpmkklobaaDoor
set_option linter.unusedSimpArgs false
set_option linter.unusedVariables false
set_option linter.unnecessarySimpa false
open Go.RowKit

/-- What sync returns: the disk's method, bound. -/
def syncF (d : Nat) : PV := .fn (42 + 1000000) [.ptr d 0]
set_option maxRecDepth 10000 in
set_option maxHeartbeats 1000000 in
theorem jc_sync1 (at_ most : Int) (D : DM) : HCalls Tryd.prog 31 [.ptr 1000004 0] (jG 1000001 1000002 1000003 1000004 at_ most D) (dMs 1000003 D) (.agg [syncF 1000001]) (jG 1000001 1000002 1000003 1000004 at_ most D) (dMs 1000003 D) := by
  refine hcalls_of_pw typeTab_ok Tryd.func31 rfl rfl (by simp [PV.ownB]) (Nat.le_of_ble_eq_true rfl) (by simp [ResIds, jG, dG, dMs]) (by simp [ResIds, jG, dG, dMs]) (by (refine ⟨by (repeat (first | exact li_nil | exact lb_nil | refine lb_cons ?_ ?_ | refine li_cons ?_ ?_ | exact dB_lowI (by simp [ResIds, dG, dMs, jG]) (by simp [ResIds, dG, dMs, jG]) _ | exact li_low (dC_low _) | exact LowI.ptr _ _ (by simp [ResIds, dG, dMs, jG]) | exact LowI.mref _ (by simp [ResIds, dG, dMs, jG]) | exact LowI.msl _ _ _ _ (by simp [ResIds, dG, dMs, jG]) | exact LowI.val _ | exact LowI.nilsl | exact Low.lowI (low_pputs _) | exact Low.lowI (psec_low _) | exact li_low (secL_low _) | exact li_low (by assumption) | refine LowI.agg _ ?_ | refine LowI.fn _ _ ?_ | refine LowI.tup _ ?_ | refine LowI.sl _ _ _ _ ?_)), by (repeat (first | exact li_nil | exact lb_nil | refine lb_cons ?_ ?_ | refine li_cons ?_ ?_ | exact dB_lowI (by simp [ResIds, dG, dMs, jG]) (by simp [ResIds, dG, dMs, jG]) _ | exact li_low (dC_low _) | exact LowI.ptr _ _ (by simp [ResIds, dG, dMs, jG]) | exact LowI.mref _ (by simp [ResIds, dG, dMs, jG]) | exact LowI.msl _ _ _ _ (by simp [ResIds, dG, dMs, jG]) | exact LowI.val _ | exact LowI.nilsl | exact Low.lowI (low_pputs _) | exact Low.lowI (psec_low _) | exact li_low (secL_low _) | exact li_low (by assumption) | refine LowI.agg _ ?_ | refine LowI.fn _ _ ?_ | refine LowI.tup _ ?_ | refine LowI.sl _ _ _ _ ?_)), by first | exact lm_nil | exact lm_cons (dM_low _) lm_nil, ?_, by (repeat (first | exact li_nil | exact lb_nil | refine lb_cons ?_ ?_ | refine li_cons ?_ ?_ | exact dB_lowI (by simp [ResIds, dG, dMs, jG]) (by simp [ResIds, dG, dMs, jG]) _ | exact li_low (dC_low _) | exact LowI.ptr _ _ (by simp [ResIds, dG, dMs, jG]) | exact LowI.mref _ (by simp [ResIds, dG, dMs, jG]) | exact LowI.msl _ _ _ _ (by simp [ResIds, dG, dMs, jG]) | exact LowI.val _ | exact LowI.nilsl | exact Low.lowI (low_pputs _) | exact Low.lowI (psec_low _) | exact li_low (secL_low _) | exact li_low (by assumption) | refine LowI.agg _ ?_ | refine LowI.fn _ _ ?_ | refine LowI.tup _ ?_ | refine LowI.sl _ _ _ _ ?_)), by first | exact lm_nil | exact lm_cons (dM_low _) lm_nil, by simp [jG, dG], by simp [dMs]⟩ ; (repeat (first | exact li_nil | exact lb_nil | refine lb_cons ?_ ?_ | refine li_cons ?_ ?_ | exact dB_lowI (by simp [ResIds, dG, dMs, jG]) (by simp [ResIds, dG, dMs, jG]) _ | exact li_low (dC_low _) | exact LowI.ptr _ _ (by simp [ResIds, dG, dMs, jG]) | exact LowI.mref _ (by simp [ResIds, dG, dMs, jG]) | exact LowI.msl _ _ _ _ (by simp [ResIds, dG, dMs, jG]) | exact LowI.val _ | exact LowI.nilsl | exact Low.lowI (low_pputs _) | exact Low.lowI (psec_low _) | exact li_low (secL_low _) | exact li_low (by assumption) | refine LowI.agg _ ?_ | refine LowI.fn _ _ ?_ | refine LowI.tup _ ?_ | refine LowI.sl _ _ _ _ ?_)))) ?_
  refine wk ?_
  exact RetH.mk (presult1 (pres_cell rfl rfl rfl rfl rfl)) (Weak.refl _) ⟨⟨_, rfl, WeakL.refl _⟩, ⟨_, rfl, WeakL.refl _⟩, ⟨_, rfl, WeakL.refl _⟩, trivial⟩ ⟨⟨rfl, rfl⟩, trivial⟩
theorem jc_sync (at_ most : Int) (D : DM) (d c m j : Nat) (hd : ([d, c, m, j] : List Nat).Nodup) : HCalls Tryd.prog 31 [.ptr j 0] (jG d c m j at_ most D) (dMs m D) (.agg [syncF d]) (jG d c m j at_ most D) (dMs m D) := by
  refine (jc_sync1 at_ most D).at (ids4 d c m j) hd (by simp [ResIds, jG, dG, dMs, ids4]) (by simp [jG, dG]) (by simp [dMs]) ?_ ?_ ?_ ?_ ?_ ?_ <;> (repeat (first | exact RenL.nil | exact RenB.nil | exact RenMs.nil | exact RenMs.cons _ _ _ _ _ (RenM.low (dM_low _)) RenMs.nil | refine RenB.cons _ _ _ _ _ ?_ ?_ | exact RenL.low (dC_low _) | refine RenL.cons ?_ ?_ | exact Ren.ptr _ _ (by simp [ResIds, dG, dMs, jG]) | exact Ren.mref _ (by simp [ResIds, dG, dMs, jG]) | exact Ren.msl _ _ _ _ (by simp [ResIds, dG, dMs, jG]) | exact Ren.low _ (Low.val _) | exact Ren.low _ (low_pputs _) | exact Ren.low _ (psec_low _) | exact RenL.low (by assumption) | refine ren_agg ?_ | refine ren_fn ?_ | refine ren_sl ?_))

/-- What put returns. -/
def putF (bl bj : Nat) : PV := .fn 40 [.ptr bl 0, .ptr bj 0]
def putG (bl bj j : Nat) (l : List PPut) : List (Nat × List PV) := [(bj, [.ptr j 0]), (bl, [pputs l])]
set_option maxRecDepth 10000 in
set_option maxHeartbeats 1000000 in
theorem jc_put1 (at_ most : Int) (D : DM) (l : List PPut) : HCalls Tryd.prog 29 [.ptr 1000004 0, pputs l] (jG 1000001 1000002 1000003 1000004 at_ most D) (dMs 1000003 D) (.agg [putF 1 0]) ((0, [.ptr 1000004 0]) :: (1, [pputs l]) :: jG 1000001 1000002 1000003 1000004 at_ most D) (dMs 1000003 D) := by
  refine hcalls_of_pw typeTab_ok Tryd.func29 rfl rfl (by simp [PV.ownB, pputs]) (Nat.le_of_ble_eq_true rfl) (by simp [ResIds, jG, dG, dMs]) (by simp [ResIds, jG, dG, dMs]) (by (refine ⟨by (repeat (first | exact li_nil | exact lb_nil | refine lb_cons ?_ ?_ | refine li_cons ?_ ?_ | exact dB_lowI (by simp [ResIds, dG, dMs, jG]) (by simp [ResIds, dG, dMs, jG]) _ | exact li_low (dC_low _) | exact LowI.ptr _ _ (by simp [ResIds, dG, dMs, jG]) | exact LowI.mref _ (by simp [ResIds, dG, dMs, jG]) | exact LowI.msl _ _ _ _ (by simp [ResIds, dG, dMs, jG]) | exact LowI.val _ | exact LowI.nilsl | exact Low.lowI (low_pputs _) | exact Low.lowI (psec_low _) | exact li_low (secL_low _) | exact li_low (by assumption) | refine LowI.agg _ ?_ | refine LowI.fn _ _ ?_ | refine LowI.tup _ ?_ | refine LowI.sl _ _ _ _ ?_)), by (repeat (first | exact li_nil | exact lb_nil | refine lb_cons ?_ ?_ | refine li_cons ?_ ?_ | exact dB_lowI (by simp [ResIds, dG, dMs, jG]) (by simp [ResIds, dG, dMs, jG]) _ | exact li_low (dC_low _) | exact LowI.ptr _ _ (by simp [ResIds, dG, dMs, jG]) | exact LowI.mref _ (by simp [ResIds, dG, dMs, jG]) | exact LowI.msl _ _ _ _ (by simp [ResIds, dG, dMs, jG]) | exact LowI.val _ | exact LowI.nilsl | exact Low.lowI (low_pputs _) | exact Low.lowI (psec_low _) | exact li_low (secL_low _) | exact li_low (by assumption) | refine LowI.agg _ ?_ | refine LowI.fn _ _ ?_ | refine LowI.tup _ ?_ | refine LowI.sl _ _ _ _ ?_)), by first | exact lm_nil | exact lm_cons (dM_low _) lm_nil, ?_, by (repeat (first | exact li_nil | exact lb_nil | refine lb_cons ?_ ?_ | refine li_cons ?_ ?_ | exact dB_lowI (by simp [ResIds, dG, dMs, jG]) (by simp [ResIds, dG, dMs, jG]) _ | exact li_low (dC_low _) | exact LowI.ptr _ _ (by simp [ResIds, dG, dMs, jG]) | exact LowI.mref _ (by simp [ResIds, dG, dMs, jG]) | exact LowI.msl _ _ _ _ (by simp [ResIds, dG, dMs, jG]) | exact LowI.val _ | exact LowI.nilsl | exact Low.lowI (low_pputs _) | exact Low.lowI (psec_low _) | exact li_low (secL_low _) | exact li_low (by assumption) | refine LowI.agg _ ?_ | refine LowI.fn _ _ ?_ | refine LowI.tup _ ?_ | refine LowI.sl _ _ _ _ ?_)), by first | exact lm_nil | exact lm_cons (dM_low _) lm_nil, by simp [jG, dG], by simp [dMs]⟩ ; (repeat (first | exact li_nil | exact lb_nil | refine lb_cons ?_ ?_ | refine li_cons ?_ ?_ | exact dB_lowI (by simp [ResIds, dG, dMs, jG]) (by simp [ResIds, dG, dMs, jG]) _ | exact li_low (dC_low _) | exact LowI.ptr _ _ (by simp [ResIds, dG, dMs, jG]) | exact LowI.mref _ (by simp [ResIds, dG, dMs, jG]) | exact LowI.msl _ _ _ _ (by simp [ResIds, dG, dMs, jG]) | exact LowI.val _ | exact LowI.nilsl | exact Low.lowI (low_pputs _) | exact Low.lowI (psec_low _) | exact li_low (secL_low _) | exact li_low (by assumption) | refine LowI.agg _ ?_ | refine LowI.fn _ _ ?_ | refine LowI.tup _ ?_ | refine LowI.sl _ _ _ _ ?_)))) ?_
  refine wk ?_
  exact RetH.mk (presult1 (pres_cell rfl rfl rfl rfl rfl)) (Weak.refl _) ⟨⟨_, rfl, WeakL.refl _⟩, ⟨_, rfl, WeakL.refl _⟩, ⟨_, rfl, WeakL.refl _⟩, ⟨_, rfl, WeakL.refl _⟩, ⟨_, rfl, WeakL.refl _⟩, trivial⟩ ⟨⟨rfl, rfl⟩, trivial⟩
theorem jc_put (at_ most : Int) (D : DM) (l : List PPut) (d c m j b0 b1 : Nat) (hd : ([d, c, m, j, b0, b1] : List Nat).Nodup) : HCalls Tryd.prog 29 [.ptr j 0, pputs l] (jG d c m j at_ most D) (dMs m D) (.agg [putF b1 b0]) ((b0, [.ptr j 0]) :: (b1, [pputs l]) :: jG d c m j at_ most D) (dMs m D) := by
  refine (jc_put1 at_ most D l).at (ids4 d c m j ++ [(0, b0), (1, b1)]) (by simpa [ids4] using hd) (by simp [ResIds, jG, dG, dMs, ids4]) (by simp [jG, dG]) (by simp [dMs]) ?_ ?_ ?_ ?_ ?_ ?_ <;> (repeat (first | exact RenL.nil | exact RenB.nil | exact RenMs.nil | exact RenMs.cons _ _ _ _ _ (RenM.low (dM_low _)) RenMs.nil | refine RenB.cons _ _ _ _ _ ?_ ?_ | exact RenL.low (dC_low _) | refine RenL.cons ?_ ?_ | exact Ren.ptr _ _ (by simp [ResIds, dG, dMs, jG]) | exact Ren.mref _ (by simp [ResIds, dG, dMs, jG]) | exact Ren.msl _ _ _ _ (by simp [ResIds, dG, dMs, jG]) | exact Ren.low _ (Low.val _) | exact Ren.low _ (low_pputs _) | exact Ren.low _ (psec_low _) | exact RenL.low (by assumption) | refine ren_agg ?_ | refine ren_fn ?_ | refine ren_sl ?_))

/-- What head returns. -/
def headF (b0 b1 b2 : Nat) : PV := .fn 43 [.ptr b1 0, .ptr b2 0, .ptr b0 0]
set_option maxRecDepth 10000 in
set_option maxHeartbeats 1000000 in
theorem jc_head1 (at_ most : Int) (D : DM) (n : Int) (G : List Int) (hG : G.length = 16) : HCalls Tryd.prog 32 [.ptr 1000004 0, pint n, .agg (G.map pbyte)] (jG 1000001 1000002 1000003 1000004 at_ most D) (dMs 1000003 D) (.agg [headF 0 1 2]) ((0, [.ptr 1000004 0]) :: (1, [pint n]) :: (2, G.map pbyte) :: jG 1000001 1000002 1000003 1000004 at_ most D) (dMs 1000003 D) := by
  have hl : ∀ c ∈ G.map pbyte, Low c := low_map (fun _ => Low.val _) _
  refine hcalls_of_pw typeTab_ok Tryd.func32 rfl rfl (by simp [PV.ownB, pint]) (Nat.le_of_ble_eq_true rfl) (by simp [ResIds, jG, dG, dMs]) (by simp [ResIds, jG, dG, dMs]) (by (refine ⟨by (repeat (first | exact li_nil | exact lb_nil | refine lb_cons ?_ ?_ | refine li_cons ?_ ?_ | exact dB_lowI (by simp [ResIds, dG, dMs, jG]) (by simp [ResIds, dG, dMs, jG]) _ | exact li_low (dC_low _) | exact LowI.ptr _ _ (by simp [ResIds, dG, dMs, jG]) | exact LowI.mref _ (by simp [ResIds, dG, dMs, jG]) | exact LowI.msl _ _ _ _ (by simp [ResIds, dG, dMs, jG]) | exact LowI.val _ | exact LowI.nilsl | exact Low.lowI (low_pputs _) | exact Low.lowI (psec_low _) | exact li_low (secL_low _) | exact li_low (by assumption) | refine LowI.agg _ ?_ | refine LowI.fn _ _ ?_ | refine LowI.tup _ ?_ | refine LowI.sl _ _ _ _ ?_)), by (repeat (first | exact li_nil | exact lb_nil | refine lb_cons ?_ ?_ | refine li_cons ?_ ?_ | exact dB_lowI (by simp [ResIds, dG, dMs, jG]) (by simp [ResIds, dG, dMs, jG]) _ | exact li_low (dC_low _) | exact LowI.ptr _ _ (by simp [ResIds, dG, dMs, jG]) | exact LowI.mref _ (by simp [ResIds, dG, dMs, jG]) | exact LowI.msl _ _ _ _ (by simp [ResIds, dG, dMs, jG]) | exact LowI.val _ | exact LowI.nilsl | exact Low.lowI (low_pputs _) | exact Low.lowI (psec_low _) | exact li_low (secL_low _) | exact li_low (by assumption) | refine LowI.agg _ ?_ | refine LowI.fn _ _ ?_ | refine LowI.tup _ ?_ | refine LowI.sl _ _ _ _ ?_)), by first | exact lm_nil | exact lm_cons (dM_low _) lm_nil, ?_, by (repeat (first | exact li_nil | exact lb_nil | refine lb_cons ?_ ?_ | refine li_cons ?_ ?_ | exact dB_lowI (by simp [ResIds, dG, dMs, jG]) (by simp [ResIds, dG, dMs, jG]) _ | exact li_low (dC_low _) | exact LowI.ptr _ _ (by simp [ResIds, dG, dMs, jG]) | exact LowI.mref _ (by simp [ResIds, dG, dMs, jG]) | exact LowI.msl _ _ _ _ (by simp [ResIds, dG, dMs, jG]) | exact LowI.val _ | exact LowI.nilsl | exact Low.lowI (low_pputs _) | exact Low.lowI (psec_low _) | exact li_low (secL_low _) | exact li_low (by assumption) | refine LowI.agg _ ?_ | refine LowI.fn _ _ ?_ | refine LowI.tup _ ?_ | refine LowI.sl _ _ _ _ ?_)), by first | exact lm_nil | exact lm_cons (dM_low _) lm_nil, by simp [jG, dG], by simp [dMs]⟩ ; (repeat (first | exact li_nil | exact lb_nil | refine lb_cons ?_ ?_ | refine li_cons ?_ ?_ | exact dB_lowI (by simp [ResIds, dG, dMs, jG]) (by simp [ResIds, dG, dMs, jG]) _ | exact li_low (dC_low _) | exact LowI.ptr _ _ (by simp [ResIds, dG, dMs, jG]) | exact LowI.mref _ (by simp [ResIds, dG, dMs, jG]) | exact LowI.msl _ _ _ _ (by simp [ResIds, dG, dMs, jG]) | exact LowI.val _ | exact LowI.nilsl | exact Low.lowI (low_pputs _) | exact Low.lowI (psec_low _) | exact li_low (secL_low _) | exact li_low (by assumption) | refine LowI.agg _ ?_ | refine LowI.fn _ _ ?_ | refine LowI.tup _ ?_ | refine LowI.sl _ _ _ _ ?_)))) ?_
  refine wk ?_
  exact RetH.mk (presult1 (pres_cell rfl rfl rfl rfl rfl)) (Weak.refl _) ⟨⟨_, rfl, WeakL.refl _⟩, ⟨_, rfl, WeakL.refl _⟩, ⟨_, rfl, WeakL.refl _⟩, ⟨_, rfl, WeakL.refl _⟩, ⟨_, rfl, WeakL.refl _⟩, ⟨_, rfl, WeakL.refl _⟩, trivial⟩ ⟨⟨rfl, rfl⟩, trivial⟩
theorem jc_head (at_ most : Int) (D : DM) (n : Int) (G : List Int) (hG : G.length = 16) (d c m j b0 b1 b2 : Nat) (hd : ([d, c, m, j, b0, b1, b2] : List Nat).Nodup) : HCalls Tryd.prog 32 [.ptr j 0, pint n, .agg (G.map pbyte)] (jG d c m j at_ most D) (dMs m D) (.agg [headF b0 b1 b2]) ((b0, [.ptr j 0]) :: (b1, [pint n]) :: (b2, G.map pbyte) :: jG d c m j at_ most D) (dMs m D) := by
  have hl : ∀ c ∈ G.map pbyte, Low c := low_map (fun _ => Low.val _) _
  have hl2 : Low (.agg (G.map pbyte)) := .agg _ hl
  refine (jc_head1 at_ most D n G hG).at (ids4 d c m j ++ [(0, b0), (1, b1), (2, b2)]) (by simpa [ids4] using hd) (by simp [ResIds, jG, dG, dMs, ids4]) (by simp [jG, dG]) (by simp [dMs]) ?_ ?_ ?_ ?_ ?_ ?_
  · exact .cons (Ren.ptr _ _ (by simp [ResIds, dG, dMs, jG])) (.cons (.low _ (.val _)) (.cons (.low _ hl2) .nil))
  all_goals (repeat (first | exact RenL.nil | exact RenB.nil | exact RenMs.nil | exact RenMs.cons _ _ _ _ _ (RenM.low (dM_low _)) RenMs.nil | refine RenB.cons _ _ _ _ _ ?_ ?_ | exact RenL.low (dC_low _) | refine RenL.cons ?_ ?_ | exact Ren.ptr _ _ (by simp [ResIds, dG, dMs, jG]) | exact Ren.mref _ (by simp [ResIds, dG, dMs, jG]) | exact Ren.msl _ _ _ _ (by simp [ResIds, dG, dMs, jG]) | exact Ren.low _ (Low.val _) | exact Ren.low _ (low_pputs _) | exact Ren.low _ (psec_low _) | exact RenL.low (by assumption) | refine ren_agg ?_ | refine ren_fn ?_ | refine ren_sl ?_))

set_option maxRecDepth 10000 in
set_option maxHeartbeats 1000000 in
theorem jc_putS1 (at_ most : Int) {n k : Nat} {D : DM} (h : OkD n k D) (l : List PPut) (hi : InD n l) (hk : k + l.length ≤ 100000000) : HCalls Tryd.prog 40 [.ptr 1000006 0, .ptr 1000005 0] ((1000005, [.ptr 1000004 0]) :: (1000006, [pputs l]) :: jG 1000001 1000002 1000003 1000004 at_ most D) (dMs 1000003 D) (pint 0) ((1000005, [.ptr 1000004 0]) :: (1000006, [pputs l]) :: jG 1000001 1000002 1000003 1000004 at_ most (D.puts l)) (dMs 1000003 (D.puts l)) := by
  refine hcalls_of_pw typeTab_ok Tryd.func40 rfl rfl (by simp [PV.ownB]) (Nat.le_of_ble_eq_true rfl) (by simp [ResIds, jG, dG, dMs]) (by simp [ResIds, jG, dG, dMs]) (by (refine ⟨by (repeat (first | exact li_nil | exact lb_nil | refine lb_cons ?_ ?_ | refine li_cons ?_ ?_ | exact dB_lowI (by simp [ResIds, dG, dMs, jG]) (by simp [ResIds, dG, dMs, jG]) _ | exact li_low (dC_low _) | exact LowI.ptr _ _ (by simp [ResIds, dG, dMs, jG]) | exact LowI.mref _ (by simp [ResIds, dG, dMs, jG]) | exact LowI.msl _ _ _ _ (by simp [ResIds, dG, dMs, jG]) | exact LowI.val _ | exact LowI.nilsl | exact Low.lowI (low_pputs _) | exact Low.lowI (psec_low _) | exact li_low (secL_low _) | exact li_low (by assumption) | refine LowI.agg _ ?_ | refine LowI.fn _ _ ?_ | refine LowI.tup _ ?_ | refine LowI.sl _ _ _ _ ?_)), by (repeat (first | exact li_nil | exact lb_nil | refine lb_cons ?_ ?_ | refine li_cons ?_ ?_ | exact dB_lowI (by simp [ResIds, dG, dMs, jG]) (by simp [ResIds, dG, dMs, jG]) _ | exact li_low (dC_low _) | exact LowI.ptr _ _ (by simp [ResIds, dG, dMs, jG]) | exact LowI.mref _ (by simp [ResIds, dG, dMs, jG]) | exact LowI.msl _ _ _ _ (by simp [ResIds, dG, dMs, jG]) | exact LowI.val _ | exact LowI.nilsl | exact Low.lowI (low_pputs _) | exact Low.lowI (psec_low _) | exact li_low (secL_low _) | exact li_low (by assumption) | refine LowI.agg _ ?_ | refine LowI.fn _ _ ?_ | refine LowI.tup _ ?_ | refine LowI.sl _ _ _ _ ?_)), by first | exact lm_nil | exact lm_cons (dM_low _) lm_nil, ?_, by (repeat (first | exact li_nil | exact lb_nil | refine lb_cons ?_ ?_ | refine li_cons ?_ ?_ | exact dB_lowI (by simp [ResIds, dG, dMs, jG]) (by simp [ResIds, dG, dMs, jG]) _ | exact li_low (dC_low _) | exact LowI.ptr _ _ (by simp [ResIds, dG, dMs, jG]) | exact LowI.mref _ (by simp [ResIds, dG, dMs, jG]) | exact LowI.msl _ _ _ _ (by simp [ResIds, dG, dMs, jG]) | exact LowI.val _ | exact LowI.nilsl | exact Low.lowI (low_pputs _) | exact Low.lowI (psec_low _) | exact li_low (secL_low _) | exact li_low (by assumption) | refine LowI.agg _ ?_ | refine LowI.fn _ _ ?_ | refine LowI.tup _ ?_ | refine LowI.sl _ _ _ _ ?_)), by first | exact lm_nil | exact lm_cons (dM_low _) lm_nil, by simp [jG, dG], by simp [dMs]⟩ ; (repeat (first | exact li_nil | exact lb_nil | refine lb_cons ?_ ?_ | refine li_cons ?_ ?_ | exact dB_lowI (by simp [ResIds, dG, dMs, jG]) (by simp [ResIds, dG, dMs, jG]) _ | exact li_low (dC_low _) | exact LowI.ptr _ _ (by simp [ResIds, dG, dMs, jG]) | exact LowI.mref _ (by simp [ResIds, dG, dMs, jG]) | exact LowI.msl _ _ _ _ (by simp [ResIds, dG, dMs, jG]) | exact LowI.val _ | exact LowI.nilsl | exact Low.lowI (low_pputs _) | exact Low.lowI (psec_low _) | exact li_low (secL_low _) | exact li_low (by assumption) | refine LowI.agg _ ?_ | refine LowI.fn _ _ ?_ | refine LowI.tup _ ?_ | refine LowI.sl _ _ _ _ ?_)))) ?_
  have hlow : ∀ i, ∀ c ∈ dC (D.puts (l.take i)), Low c := fun i => dC_low _
  have hlowm : ∀ i, ∀ e ∈ (D.puts (l.take i)).op.map dE, Low e.2.1 ∧ Low e.2.2 := fun i => dM_low _
  have h00 : D = D.puts (l.take 0) := rfl
  have hll := low_pputs l
  refine wk ?_
  refine PW.loop (fun i : Nat => ((((((((((bot.setb 1000005 [.ptr 1000004 0]).setb 1000006 [pputs l]).setb 1000004 (jB 1000001 at_ most)).setb 1000001 (dB 1000002 1000003 (D.puts (l.take i)))).setb 1000002 (dC (D.puts (l.take i)))).setm 1000003 (dM (D.puts (l.take i)))).put 0 (.ptr 1000006 0)).put 1 (.ptr 1000005 0)).put 6 (pputs l)).put 7 (pint l.length)).put 8 (pint i)) (fun i => i ≤ l.length) (fun i => l.length - i) 0 (by omega) ?_ ?_
  · have h1 := hlow 0
    have h2 := hlowm 0
    exact sb
  · intro i hil
    have hti : (l.take i).length = i := by rw [List.length_take]; omega
    obtain ⟨o1, o2⟩ := OkD.puts (l.take i) h (fun p hp => hi p (List.mem_of_mem_take hp)) (by omega)
    rw [hti] at o1
    by_cases hlt : i < l.length
    · have hnx : l.take (i + 1) = l.take i ++ [l.getD i default] := take_getD default hlt
      have hpm : l.getD i default ∈ l := by rw [List.getD_eq_getElem?_getD, List.getElem?_eq_getElem hlt]; exact List.getElem_mem hlt
      obtain ⟨p0, p1⟩ := hi _ hpm
      have hs := o1.steps
      obtain ⟨w1, w2, w3⟩ := o1.write p0 p1 (by omega) (l.getD i default).dat
      have hw := dc_Write (D.puts (l.take i)) (l.getD i default).sec (l.getD i default).dat ⟨by omega, by omega, by rw [o1.after]; omega⟩ (by rw [o1.after]; omega) (fun e he => by have := o1.room e he; omega) 1000001 1000002 1000003 (by decide)
      rw [w1] at hw
      have hD2 : D.puts (l.take (i + 1)) = ((D.puts (l.take i)).write (l.getD i default).sec (l.getD i default).dat).2 := by rw [hnx, puts_snoc]
      rw [← hD2] at hw
      have h1 := hlow (i + 1)
      have h2 := hlowm (i + 1)
      clear hlow hlowm hD2 w2 w3 o2 hnx
      generalize hE2 : D.puts (l.take (i + 1)) = D2 at *
      generalize D.puts (l.take i) = D1 at *
      refine wk ?_
      generalize l.getD i default = p at *
      refine PWops.ldBA (row := secL p.dat) rfl rfl rfl rfl rfl rfl rfl (by rw [putL_len]; decide) (by show List.map PV.bare (List.take 64 (secL p.dat)) = secL p.dat; rw [List.take_of_length_le (by rw [secL_len]; omega), secL_bare]) ?_
      refine wk ?_
      refine loopP (i + 1) (by show i + 1 ≤ l.length; omega) (by show l.length - (i + 1) < l.length - i; omega) ?_
      dsimp only
      rw [hE2]
      exact sb
    · have e : i = l.length := by omega
      subst e
      rw [List.take_length]
      refine wk ?_
      exact RetH.mk rfl (Weak.refl _) ⟨⟨_, rfl, WeakL.refl _⟩, ⟨_, rfl, WeakL.refl _⟩, ⟨_, rfl, WeakL.refl _⟩, ⟨_, rfl, WeakL.refl _⟩, ⟨_, rfl, WeakL.refl _⟩, trivial⟩ ⟨⟨rfl, rfl⟩, trivial⟩
end Go.Proofs.YtilcpcpmkklobaaDoor

/- The journal: the head. -/
namespace Go.Proofs.YtilcpcpmkklobaaDoor
set_option linter.unusedSimpArgs false
set_option linter.unusedVariables false
set_option linter.unnecessarySimpa false
open Go.RowKit

theorem jc_putS {n k : Nat} {D : DM} (at_ most : Int) (h : OkD n k D) (l : List PPut) (hi : InD n l) (hk : k + l.length ≤ 100000000) (d c m j b0 b1 : Nat) (hd : ([d, c, m, j, b0, b1] : List Nat).Nodup) : HCalls Tryd.prog 40 [.ptr b1 0, .ptr b0 0] ((b0, [.ptr j 0]) :: (b1, [pputs l]) :: jG d c m j at_ most D) (dMs m D) (pint 0) ((b0, [.ptr j 0]) :: (b1, [pputs l]) :: jG d c m j at_ most (D.puts l)) (dMs m (D.puts l)) := by
  refine (jc_putS1 at_ most h l hi hk).at (ids4 d c m j ++ [(1000005, b0), (1000006, b1)]) (by simpa [ids4] using hd) (by simp [ResIds, jG, dG, dMs, ids4]) (by simp [jG, dG]) (by simp [dMs]) ?_ ?_ ?_ ?_ ?_ ?_ <;> (repeat (first | exact RenL.nil | exact RenB.nil | exact RenMs.nil | exact RenMs.cons _ _ _ _ _ (RenM.low (dM_low _)) RenMs.nil | refine RenB.cons _ _ _ _ _ ?_ ?_ | exact RenL.low (dC_low _) | refine RenL.cons ?_ ?_ | exact Ren.ptr _ _ (by simp [ResIds, dG, dMs, jG]) | exact Ren.mref _ (by simp [ResIds, dG, dMs, jG]) | exact Ren.msl _ _ _ _ (by simp [ResIds, dG, dMs, jG]) | exact Ren.low _ (Low.val _) | exact Ren.low _ (low_pputs _) | exact Ren.low _ (psec_low _) | exact RenL.low (by assumption) | refine ren_agg ?_ | refine ren_fn ?_ | refine ren_sl ?_))

/-- The head: a count, a digest. -/
def headI (n : Int) (G : List Int) : List Int := IntKind.u8.wrap n :: IntKind.u8.wrap (n / 256) :: (G ++ List.replicate 46 0)
def headSec (n : Int) (G : List Int) (hG : G.length = 16) (hr : ∀ x ∈ G, 0 ≤ x ∧ x < 256) : Sec := ⟨headI n G, by simp [headI, hG], by
  intro x hx
  rcases List.mem_cons.1 hx with rfl | hx
  · rw [IntKind.wrap_u8]; omega
  rcases List.mem_cons.1 hx with rfl | hx
  · rw [IntKind.wrap_u8]; omega
  rcases List.mem_append.1 hx with hx | hx
  · exact hr x hx
  · rw [(List.mem_replicate.1 hx).2]; omega⟩

theorem splice_head (n : Int) (G : List Int) (hG : G.length = 16) (hr : ∀ x ∈ G, 0 ≤ x ∧ x < 256) : splice (pbyte (IntKind.u8.wrap n) :: pbyte (IntKind.u8.wrap (n.fdiv (2 ^ min (Int.toNat 8) (IntKind.bits .i64)))) :: List.replicate 62 (pbyte 0)) 2 ((G.map pbyte).take 16) = secL (headSec n G hG hr) := by
  have e1 : (G.map pbyte).take 16 = G.map pbyte := List.take_of_length_le (by simp [hG])
  have e2 : (G.map pbyte).length = 16 := by simp [hG]
  have e3 : n.fdiv (2 ^ min (Int.toNat 8) (IntKind.bits .i64)) = n / 256 := by
    show n.fdiv 256 = n / 256
    exact Int.fdiv_eq_ediv_of_nonneg n (by decide)
  rw [e1, e3, splice, e2, secL]
  show _ = List.map pbyte (headI n G)
  rw [headI, List.map_cons, List.map_cons, List.map_append]
  show _ :: _ :: ([] ++ G.map pbyte ++ _) = _
  rw [List.nil_append]; rfl

set_option maxRecDepth 10000 in
set_option maxHeartbeats 1000000 in
theorem jc_headS1 (most : Int) {N k : Nat} {D : DM} (h : OkD N k D) (at_ n : Int) (h0 : 0 ≤ at_) (h1 : at_ < N) (hk : k < 100000000) (n0 : 0 ≤ n) (n1 : n < 65536) (G : List Int) (hG : G.length = 16) (hr : ∀ x ∈ G, 0 ≤ x ∧ x < 256) : HCalls Tryd.prog 43 [.ptr 1000006 0, .ptr 1000007 0, .ptr 1000005 0] ((1000005, [.ptr 1000004 0]) :: (1000006, [pint n]) :: (1000007, G.map pbyte) :: jG 1000001 1000002 1000003 1000004 at_ most D) (dMs 1000003 D) (pint 0) ((1000005, [.ptr 1000004 0]) :: (1000006, [pint n]) :: (1000007, G.map pbyte) :: jG 1000001 1000002 1000003 1000004 at_ most (D.write at_ (headSec n G hG hr)).2) (dMs 1000003 (D.write at_ (headSec n G hG hr)).2) := by
  have hlG : ∀ c ∈ G.map pbyte, Low c := low_map (fun _ => Low.val _) _
  have hl1 := dC_low D
  have hl2 := dM_low D
  have hl3 := dC_low (D.write at_ (headSec n G hG hr)).2
  have hl4 := dM_low (D.write at_ (headSec n G hG hr)).2
  refine hcalls_of_pw typeTab_ok Tryd.func43 rfl rfl (by simp [PV.ownB]) (Nat.le_of_ble_eq_true rfl) (by simp [ResIds, jG, dG, dMs]) (by simp [ResIds, jG, dG, dMs]) (by (refine ⟨by (repeat (first | exact li_nil | exact lb_nil | refine lb_cons ?_ ?_ | refine li_cons ?_ ?_ | exact dB_lowI (by simp [ResIds, dG, dMs, jG]) (by simp [ResIds, dG, dMs, jG]) _ | exact li_low (dC_low _) | exact LowI.ptr _ _ (by simp [ResIds, dG, dMs, jG]) | exact LowI.mref _ (by simp [ResIds, dG, dMs, jG]) | exact LowI.msl _ _ _ _ (by simp [ResIds, dG, dMs, jG]) | exact LowI.val _ | exact LowI.nilsl | exact Low.lowI (low_pputs _) | exact Low.lowI (psec_low _) | exact li_low (secL_low _) | exact li_low (by assumption) | refine LowI.agg _ ?_ | refine LowI.fn _ _ ?_ | refine LowI.tup _ ?_ | refine LowI.sl _ _ _ _ ?_)), by (repeat (first | exact li_nil | exact lb_nil | refine lb_cons ?_ ?_ | refine li_cons ?_ ?_ | exact dB_lowI (by simp [ResIds, dG, dMs, jG]) (by simp [ResIds, dG, dMs, jG]) _ | exact li_low (dC_low _) | exact LowI.ptr _ _ (by simp [ResIds, dG, dMs, jG]) | exact LowI.mref _ (by simp [ResIds, dG, dMs, jG]) | exact LowI.msl _ _ _ _ (by simp [ResIds, dG, dMs, jG]) | exact LowI.val _ | exact LowI.nilsl | exact Low.lowI (low_pputs _) | exact Low.lowI (psec_low _) | exact li_low (secL_low _) | exact li_low (by assumption) | refine LowI.agg _ ?_ | refine LowI.fn _ _ ?_ | refine LowI.tup _ ?_ | refine LowI.sl _ _ _ _ ?_)), by first | exact lm_nil | exact lm_cons (dM_low _) lm_nil, ?_, by (repeat (first | exact li_nil | exact lb_nil | refine lb_cons ?_ ?_ | refine li_cons ?_ ?_ | exact dB_lowI (by simp [ResIds, dG, dMs, jG]) (by simp [ResIds, dG, dMs, jG]) _ | exact li_low (dC_low _) | exact LowI.ptr _ _ (by simp [ResIds, dG, dMs, jG]) | exact LowI.mref _ (by simp [ResIds, dG, dMs, jG]) | exact LowI.msl _ _ _ _ (by simp [ResIds, dG, dMs, jG]) | exact LowI.val _ | exact LowI.nilsl | exact Low.lowI (low_pputs _) | exact Low.lowI (psec_low _) | exact li_low (secL_low _) | exact li_low (by assumption) | refine LowI.agg _ ?_ | refine LowI.fn _ _ ?_ | refine LowI.tup _ ?_ | refine LowI.sl _ _ _ _ ?_)), by first | exact lm_nil | exact lm_cons (dM_low _) lm_nil, by simp [jG, dG], by simp [dMs]⟩ ; (repeat (first | exact li_nil | exact lb_nil | refine lb_cons ?_ ?_ | refine li_cons ?_ ?_ | exact dB_lowI (by simp [ResIds, dG, dMs, jG]) (by simp [ResIds, dG, dMs, jG]) _ | exact li_low (dC_low _) | exact LowI.ptr _ _ (by simp [ResIds, dG, dMs, jG]) | exact LowI.mref _ (by simp [ResIds, dG, dMs, jG]) | exact LowI.msl _ _ _ _ (by simp [ResIds, dG, dMs, jG]) | exact LowI.val _ | exact LowI.nilsl | exact Low.lowI (low_pputs _) | exact Low.lowI (psec_low _) | exact li_low (secL_low _) | exact li_low (by assumption) | refine LowI.agg _ ?_ | refine LowI.fn _ _ ?_ | refine LowI.tup _ ?_ | refine LowI.sl _ _ _ _ ?_)))) ?_
  have hs := h.steps
  have w1 := (h.write h0 h1 (by omega) (headSec n G hG hr)).1
  have hw := dc_Write D at_ (headSec n G hG hr) ⟨by omega, by omega, by rw [h.after]; omega⟩ (by rw [h.after]; omega) (fun e he => by have := h.room e he; omega) 1000001 1000002 1000003 (by decide)
  rw [w1] at hw
  refine wg ?_
  refine PW.region typeTab_ok (by kernel_rfl) ?_
  refine wg ?_
  refine PW.region typeTab_ok (by kernel_rfl) ?_
  refine wg ?_
  refine PW.drawE typeTab_ok (by kernel_rfl) (by kernel_rfl) (by kernel_rfl) ?_
  refine wk ?_
  refine PWops.copy (n2 := 16) (cs := G.map pbyte) (out := secL (headSec n G hG hr)) rfl rfl rfl rfl rfl ?_ rfl rfl rfl ?_ ?_ ?_ ?_
  · show (if 0 + 0 * 1 + (16 - 0) * 1 ≤ (G.map pbyte).length then some (16 - 0, (((G.map pbyte).drop (0 + 0 * 1)).take ((16 - 0) * 1)).map PV.bare) else none) = _
    rw [if_pos (by simp [hG])]
    show some (16, List.map PV.bare (List.take 16 (G.map pbyte))) = _
    rw [List.take_of_length_le (by simp [hG]), List.map_map]; rfl
  · exact Nat.le_of_ble_eq_true rfl
  · rw [List.length_map, hG]; decide
  · exact splice_head n G hG hr
  generalize headSec n G hG hr = g at *
  refine wk ?_
  exact RetH.mk rfl (Weak.refl _) ⟨⟨_, rfl, WeakL.refl _⟩, ⟨_, rfl, WeakL.refl _⟩, ⟨_, rfl, WeakL.refl _⟩, ⟨_, rfl, WeakL.refl _⟩, ⟨_, rfl, WeakL.refl _⟩, ⟨_, rfl, WeakL.refl _⟩, trivial⟩ ⟨⟨rfl, rfl⟩, trivial⟩
theorem jc_headS {N k : Nat} {D : DM} (h : OkD N k D) (at_ most n : Int) (h0 : 0 ≤ at_) (h1 : at_ < N) (hk : k < 100000000) (n0 : 0 ≤ n) (n1 : n < 65536) (G : List Int) (hG : G.length = 16) (hr : ∀ x ∈ G, 0 ≤ x ∧ x < 256) (d c m j b0 b1 b2 : Nat) (hd : ([d, c, m, j, b0, b1, b2] : List Nat).Nodup) : HCalls Tryd.prog 43 [.ptr b1 0, .ptr b2 0, .ptr b0 0] ((b0, [.ptr j 0]) :: (b1, [pint n]) :: (b2, G.map pbyte) :: jG d c m j at_ most D) (dMs m D) (pint 0) ((b0, [.ptr j 0]) :: (b1, [pint n]) :: (b2, G.map pbyte) :: jG d c m j at_ most (D.write at_ (headSec n G hG hr)).2) (dMs m (D.write at_ (headSec n G hG hr)).2) := by
  have hl : ∀ c ∈ G.map pbyte, Low c := low_map (fun _ => Low.val _) _
  refine (jc_headS1 most h at_ n h0 h1 hk n0 n1 G hG hr).at (ids4 d c m j ++ [(1000005, b0), (1000006, b1), (1000007, b2)]) (by simpa [ids4] using hd) (by simp [ResIds, jG, dG, dMs, ids4]) (by simp [jG, dG]) (by simp [dMs]) ?_ ?_ ?_ ?_ ?_ ?_
  all_goals (repeat (first | exact RenL.nil | exact RenB.nil | exact RenMs.nil | exact RenMs.cons _ _ _ _ _ (RenM.low (dM_low _)) RenMs.nil | refine RenB.cons _ _ _ _ _ ?_ ?_ | exact RenL.low (dC_low _) | refine RenL.cons ?_ ?_ | exact Ren.ptr _ _ (by simp [ResIds, dG, dMs, jG]) | exact Ren.mref _ (by simp [ResIds, dG, dMs, jG]) | exact Ren.msl _ _ _ _ (by simp [ResIds, dG, dMs, jG]) | exact Ren.low _ (Low.val _) | exact Ren.low _ (low_pputs _) | exact Ren.low _ (psec_low _) | exact RenL.low (by assumption) | refine ren_agg ?_ | refine ren_fn ?_ | refine ren_sl ?_))
end Go.Proofs.YtilcpcpmkklobaaDoor

/- The journal: four steps one after the other. -/
namespace Go.Proofs.YtilcpcpmkklobaaDoor
set_option linter.unusedSimpArgs false
set_option linter.unusedVariables false
set_option linter.unnecessarySimpa false
open Go.RowKit

/-- The disk after the four steps of a part of an Apply. -/
def DM.four (D : DM) (at_ : Int) (l : List PPut) (g : Sec) : DM := ((D.puts l).sync.2.write at_ g).2.sync.2

/-- The same, after so many of them. -/
def DM.fourI (D : DM) (at_ : Int) (l : List PPut) (g : Sec) : Nat → DM
  | 0 => D
  | 1 => D.puts l
  | 2 => (D.puts l).sync.2
  | 3 => ((D.puts l).sync.2.write at_ g).2
  | _ => D.four at_ l g

/-- The four steps. -/
def stepsP (a b c d e f : Nat) : PV := .sl 4 1 [putF b a, syncF f, headF c d e, syncF f] none
theorem stepsP_ren {S : Nat → Prop} {a b c d e f : Nat} (h1 : S a) (h2 : S b) (h3 : S c) (h4 : S d) (h5 : S e) (h6 : S f) : Ren (fun i => i) S (stepsP a b c d e f) (stepsP a b c d e f) := by
  have k1 : RenL (fun i => i) S [.ptr b 0, .ptr a 0] [.ptr b 0, .ptr a 0] := .cons (.ptr _ _ h2) (.cons (.ptr _ _ h1) .nil)
  have k2 : RenL (fun i => i) S [.ptr f 0] [.ptr f 0] := .cons (.ptr _ _ h6) .nil
  have k3 : RenL (fun i => i) S [.ptr d 0, .ptr e 0, .ptr c 0] [.ptr d 0, .ptr e 0, .ptr c 0] := .cons (.ptr _ _ h4) (.cons (.ptr _ _ h5) (.cons (.ptr _ _ h3) .nil))
  have k : RenL (fun i => i) S [putF b a, syncF f, headF c d e, syncF f] [putF b a, syncF f, headF c d e, syncF f] := .cons (.fn _ _ _ k1.1 k1.2) (.cons (.fn _ _ _ k2.1 k2.2) (.cons (.fn _ _ _ k3.1 k3.2) (.cons (.fn _ _ _ k2.1 k2.2) .nil)))
  exact .sl _ _ _ _ k.1 k.2

set_option maxRecDepth 10000 in
set_option maxHeartbeats 2000000 in
theorem jc_all1 (most : Int) {N k : Nat} {D : DM} (h : OkD N k D) (at_ n : Int) (h0 : 0 ≤ at_) (h1 : at_ < N) (n0 : 0 ≤ n) (n1 : n < 65536) (G : List Int) (hG : G.length = 16) (hr : ∀ x ∈ G, 0 ≤ x ∧ x < 256) (l : List PPut) (hi : InD N l) (hk : k + l.length + 3 ≤ 100000000) (hNN : N ≤ 1000000000) : HCalls Tryd.prog 28 [stepsP 1000005 1000006 1000007 1000008 1000009 1000001]
    ((1000005, [.ptr 1000004 0]) :: (1000006, [pputs l]) :: (1000007, [.ptr 1000004 0]) :: (1000008, [pint n]) :: (1000009, G.map pbyte) :: jG 1000001 1000002 1000003 1000004 at_ most D) (dMs 1000003 D) (pint 0)
    ((1000005, [.ptr 1000004 0]) :: (1000006, [pputs l]) :: (1000007, [.ptr 1000004 0]) :: (1000008, [pint n]) :: (1000009, G.map pbyte) :: jG 1000001 1000002 1000003 1000004 at_ most (D.four at_ l (headSec n G hG hr))) (dMs 1000003 (D.four at_ l (headSec n G hG hr))) := by
  have hN : 0 < N := by omega
  obtain ⟨p1, -⟩ := OkD.puts l h hi (by omega)
  obtain ⟨s1, s2, -, -⟩ := p1.sync_ok hN
  obtain ⟨w1, w2, -⟩ := s2.write h0 h1 (by omega) (headSec n G hG hr)
  obtain ⟨t1, t2, -, -⟩ := w2.sync_ok hN
  have hput := jc_putS at_ most h l hi (by omega) 1000001 1000002 1000003 1000004 1000005 1000006 (by decide)
  have hhead := jc_headS s2 at_ most n h0 h1 (by omega) n0 n1 G hG hr 1000001 1000002 1000003 1000004 1000007 1000008 1000009 (by decide)
  have hlG : ∀ c ∈ G.map pbyte, Low c := low_map (fun _ => Low.val _) _
  have hll := low_pputs l
  have c1 := dC_low D
  have c2 := dM_low D
  have c3 := dC_low (D.four at_ l (headSec n G hG hr))
  have c4 := dM_low (D.four at_ l (headSec n G hG hr))
  refine hcalls_of_pw typeTab_ok Tryd.func28 rfl rfl (by simp [PV.ownB, stepsP]) (Nat.le_of_ble_eq_true rfl) (by simp [ResIds, jG, dG, dMs]) (by simp [ResIds, jG, dG, dMs]) (by (refine ⟨by (repeat (first | exact li_nil | exact lb_nil | refine lb_cons ?_ ?_ | refine li_cons ?_ ?_ | exact dB_lowI (by simp [ResIds, dG, dMs, jG]) (by simp [ResIds, dG, dMs, jG]) _ | exact li_low (dC_low _) | exact LowI.ptr _ _ (by simp [ResIds, dG, dMs, jG]) | exact LowI.mref _ (by simp [ResIds, dG, dMs, jG]) | exact LowI.msl _ _ _ _ (by simp [ResIds, dG, dMs, jG]) | exact LowI.val _ | exact LowI.nilsl | exact Low.lowI (low_pputs _) | exact Low.lowI (psec_low _) | exact li_low (secL_low _) | exact li_low (by assumption) | refine LowI.agg _ ?_ | refine LowI.fn _ _ ?_ | refine LowI.tup _ ?_ | refine LowI.sl _ _ _ _ ?_)), by (repeat (first | exact li_nil | exact lb_nil | refine lb_cons ?_ ?_ | refine li_cons ?_ ?_ | exact dB_lowI (by simp [ResIds, dG, dMs, jG]) (by simp [ResIds, dG, dMs, jG]) _ | exact li_low (dC_low _) | exact LowI.ptr _ _ (by simp [ResIds, dG, dMs, jG]) | exact LowI.mref _ (by simp [ResIds, dG, dMs, jG]) | exact LowI.msl _ _ _ _ (by simp [ResIds, dG, dMs, jG]) | exact LowI.val _ | exact LowI.nilsl | exact Low.lowI (low_pputs _) | exact Low.lowI (psec_low _) | exact li_low (secL_low _) | exact li_low (by assumption) | refine LowI.agg _ ?_ | refine LowI.fn _ _ ?_ | refine LowI.tup _ ?_ | refine LowI.sl _ _ _ _ ?_)), by first | exact lm_nil | exact lm_cons (dM_low _) lm_nil, ?_, by (repeat (first | exact li_nil | exact lb_nil | refine lb_cons ?_ ?_ | refine li_cons ?_ ?_ | exact dB_lowI (by simp [ResIds, dG, dMs, jG]) (by simp [ResIds, dG, dMs, jG]) _ | exact li_low (dC_low _) | exact LowI.ptr _ _ (by simp [ResIds, dG, dMs, jG]) | exact LowI.mref _ (by simp [ResIds, dG, dMs, jG]) | exact LowI.msl _ _ _ _ (by simp [ResIds, dG, dMs, jG]) | exact LowI.val _ | exact LowI.nilsl | exact Low.lowI (low_pputs _) | exact Low.lowI (psec_low _) | exact li_low (secL_low _) | exact li_low (by assumption) | refine LowI.agg _ ?_ | refine LowI.fn _ _ ?_ | refine LowI.tup _ ?_ | refine LowI.sl _ _ _ _ ?_)), by first | exact lm_nil | exact lm_cons (dM_low _) lm_nil, by simp [jG, dG], by simp [dMs]⟩ ; (repeat (first | exact li_nil | exact lb_nil | refine lb_cons ?_ ?_ | refine li_cons ?_ ?_ | exact dB_lowI (by simp [ResIds, dG, dMs, jG]) (by simp [ResIds, dG, dMs, jG]) _ | exact li_low (dC_low _) | exact LowI.ptr _ _ (by simp [ResIds, dG, dMs, jG]) | exact LowI.mref _ (by simp [ResIds, dG, dMs, jG]) | exact LowI.msl _ _ _ _ (by simp [ResIds, dG, dMs, jG]) | exact LowI.val _ | exact LowI.nilsl | exact Low.lowI (low_pputs _) | exact Low.lowI (psec_low _) | exact li_low (secL_low _) | exact li_low (by assumption) | refine LowI.agg _ ?_ | refine LowI.fn _ _ ?_ | refine LowI.tup _ ?_ | refine LowI.sl _ _ _ _ ?_)))) ?_
  have hy1 := dc_Sync (D.puts l) ⟨p1.steps.1, by have := p1.steps; omega, by rw [p1.after]; omega⟩ (by rw [p1.after]; omega) (by rw [p1.len]; omega) (by rw [p1.len]; exact p1.op) 1000001 1000002 1000003 (by decide)
  have hy2 := dc_Sync _ ⟨w2.steps.1, by have := w2.steps; omega, by rw [w2.after]; omega⟩ (by rw [w2.after]; omega) (by rw [w2.len]; omega) (by rw [w2.len]; exact w2.op) 1000001 1000002 1000003 (by decide)
  rw [s1] at hy1
  rw [t1] at hy2
  have f1 := fun i => dC_low (D.fourI at_ l (headSec n G hG hr) i)
  have f2 := fun i => dM_low (D.fourI at_ l (headSec n G hG hr) i)
  refine wk ?_
  refine PW.loop (fun i : Nat => (((((((((((bot.setb 1000005 [.ptr 1000004 0]).setb 1000006 [pputs l]).setb 1000007 [.ptr 1000004 0]).setb 1000008 [pint n]).setb 1000009 (G.map pbyte)).setb 1000004 (jB 1000001 at_ most)).setb 1000001 (dB 1000002 1000003 (D.fourI at_ l (headSec n G hG hr) i))).setb 1000002 (dC (D.fourI at_ l (headSec n G hG hr) i))).setm 1000003 (dM (D.fourI at_ l (headSec n G hG hr) i))).put 6 (stepsP 1000005 1000006 1000007 1000008 1000009 1000001)).put 7 (pint 4)).put 8 (pint i)) (fun i => i ≤ 4) (fun i => 4 - i) 0 (by omega) ?_ ?_
  · have g1 := f1 0
    have g2 := f2 0
    (refine Sub.same ?_ ; (repeat (first | exact SubR.bot | ((with_reducible refine SubR.isp ?_) ; refine SubR.put ?_ (.inl (stepsP_ren rfl rfl rfl rfl rfl rfl))) | ((with_reducible refine SubR.isp ?_) ; refine SubR.put ?_ (by (first | exact .inl (.ptr _ _ rfl) | exact .inl (.msl _ _ _ _ rfl) | exact .inl (.mref _ rfl) | exact .inl (.low _ (by (first | exact low_mapI | exact low_mapS | exact low_mapB | assumption | exact hlow _ | exact hlow _ _ | exact Low.agg _ (low_map (fun _ => Low.val _) _) | (simp [low_pu32, low_pu64, low_val, low_nilsl, low_sl, low_ep, low_agg, low_tup, low_fn, low_pint, low_pstr, low_pbool, low_pints, low_pstrs, low_pbyte, low_pbytes, hlow] ; done) | (simp [low_pu32, low_pu64, low_val, low_nilsl, low_sl, low_ep, low_agg, low_tup, low_fn, low_pint, low_pstr, low_pbool, low_pints, low_pstrs, low_pbyte, low_pbytes] ; done) | simp [low_pu32, low_pu64, low_val, low_nilsl, low_sl, low_ep, low_agg, low_tup, low_fn, low_pint, low_pstr, low_pbool, low_pints, low_pstrs, low_pbyte, low_pbytes, low_pattrs, low_pdefs, low_pschema, low_pentry]))) | exact .inr (.inl (.low _ (by (first | exact low_mapI | exact low_mapS | exact low_mapB | assumption | exact hlow _ | exact hlow _ _ | exact Low.agg _ (low_map (fun _ => Low.val _) _) | (simp [low_pu32, low_pu64, low_val, low_nilsl, low_sl, low_ep, low_agg, low_tup, low_fn, low_pint, low_pstr, low_pbool, low_pints, low_pstrs, low_pbyte, low_pbytes, hlow] ; done) | (simp [low_pu32, low_pu64, low_val, low_nilsl, low_sl, low_ep, low_agg, low_tup, low_fn, low_pint, low_pstr, low_pbool, low_pints, low_pstrs, low_pbyte, low_pbytes] ; done) | simp [low_pu32, low_pu64, low_val, low_nilsl, low_sl, low_ep, low_agg, low_tup, low_fn, low_pint, low_pstr, low_pbool, low_pints, low_pstrs, low_pbyte, low_pbytes, low_pattrs, low_pdefs, low_pschema, low_pentry])))) | exact .inr (.inr ⟨_, _, rfl, rfl⟩)))) | ((with_reducible refine SubR.isb ?_) ; refine SubR.setb ?_ rfl rfl (by (first | exact RenQL.low (by first | assumption | exact hlow _ | exact hlow _ _ | exact low_map (fun _ => Low.val _) _) | exact RenQL.lowE (by assumption) (low_map (fun _ => Low.val _) _) | ((repeat (refine RenQL.cons (by (first | exact .inl (.ptr _ _ rfl) | exact .inl (.msl _ _ _ _ rfl) | exact .inl (.mref _ rfl) | exact .inl (.low _ (by (first | exact low_mapI | exact low_mapS | exact low_mapB | assumption | exact hlow _ | exact hlow _ _ | exact Low.agg _ (low_map (fun _ => Low.val _) _) | (simp [low_pu32, low_pu64, low_val, low_nilsl, low_sl, low_ep, low_agg, low_tup, low_fn, low_pint, low_pstr, low_pbool, low_pints, low_pstrs, low_pbyte, low_pbytes, hlow] ; done) | (simp [low_pu32, low_pu64, low_val, low_nilsl, low_sl, low_ep, low_agg, low_tup, low_fn, low_pint, low_pstr, low_pbool, low_pints, low_pstrs, low_pbyte, low_pbytes] ; done) | simp [low_pu32, low_pu64, low_val, low_nilsl, low_sl, low_ep, low_agg, low_tup, low_fn, low_pint, low_pstr, low_pbool, low_pints, low_pstrs, low_pbyte, low_pbytes, low_pattrs, low_pdefs, low_pschema, low_pentry]))) | exact .inr (.inl (.low _ (by (first | exact low_mapI | exact low_mapS | exact low_mapB | assumption | exact hlow _ | exact hlow _ _ | exact Low.agg _ (low_map (fun _ => Low.val _) _) | (simp [low_pu32, low_pu64, low_val, low_nilsl, low_sl, low_ep, low_agg, low_tup, low_fn, low_pint, low_pstr, low_pbool, low_pints, low_pstrs, low_pbyte, low_pbytes, hlow] ; done) | (simp [low_pu32, low_pu64, low_val, low_nilsl, low_sl, low_ep, low_agg, low_tup, low_fn, low_pint, low_pstr, low_pbool, low_pints, low_pstrs, low_pbyte, low_pbytes] ; done) | simp [low_pu32, low_pu64, low_val, low_nilsl, low_sl, low_ep, low_agg, low_tup, low_fn, low_pint, low_pstr, low_pbool, low_pints, low_pstrs, low_pbyte, low_pbytes, low_pattrs, low_pdefs, low_pschema, low_pentry])))) | exact .inr (.inr ⟨_, _, rfl, rfl⟩))) ?_)) ; exact RenQL.nil)))) | ((with_reducible refine SubR.ism ?_) ; refine SubR.setm ?_ rfl rfl (by (first | exact ⟨rfl, rfl, rfl, rfl, rfl⟩ | exact RenM.low (by first | assumption | exact hlowm _ | exact hlowm _ _)))))))
  · intro i hi
    have hq : i = 0 ∨ i = 1 ∨ i = 2 ∨ i = 3 ∨ i = 4 := by omega
    rcases hq with rfl | rfl | rfl | rfl | rfl
    · have g1 := f1 1
      have g2 := f2 1
      rw [show D.fourI at_ l (headSec n G hG hr) 0 = D from rfl]
      refine wk ?_
      refine loopP 1 (by omega) (by omega) ?_
      rw [show D.fourI at_ l (headSec n G hG hr) 1 = D.puts l from rfl] at g1 g2 ⊢
      (refine Sub.same ?_ ; (repeat (first | exact SubR.bot | ((with_reducible refine SubR.isp ?_) ; refine SubR.put ?_ (.inl (stepsP_ren rfl rfl rfl rfl rfl rfl))) | ((with_reducible refine SubR.isp ?_) ; refine SubR.put ?_ (by (first | exact .inl (.ptr _ _ rfl) | exact .inl (.msl _ _ _ _ rfl) | exact .inl (.mref _ rfl) | exact .inl (.low _ (by (first | exact low_mapI | exact low_mapS | exact low_mapB | assumption | exact hlow _ | exact hlow _ _ | exact Low.agg _ (low_map (fun _ => Low.val _) _) | (simp [low_pu32, low_pu64, low_val, low_nilsl, low_sl, low_ep, low_agg, low_tup, low_fn, low_pint, low_pstr, low_pbool, low_pints, low_pstrs, low_pbyte, low_pbytes, hlow] ; done) | (simp [low_pu32, low_pu64, low_val, low_nilsl, low_sl, low_ep, low_agg, low_tup, low_fn, low_pint, low_pstr, low_pbool, low_pints, low_pstrs, low_pbyte, low_pbytes] ; done) | simp [low_pu32, low_pu64, low_val, low_nilsl, low_sl, low_ep, low_agg, low_tup, low_fn, low_pint, low_pstr, low_pbool, low_pints, low_pstrs, low_pbyte, low_pbytes, low_pattrs, low_pdefs, low_pschema, low_pentry]))) | exact .inr (.inl (.low _ (by (first | exact low_mapI | exact low_mapS | exact low_mapB | assumption | exact hlow _ | exact hlow _ _ | exact Low.agg _ (low_map (fun _ => Low.val _) _) | (simp [low_pu32, low_pu64, low_val, low_nilsl, low_sl, low_ep, low_agg, low_tup, low_fn, low_pint, low_pstr, low_pbool, low_pints, low_pstrs, low_pbyte, low_pbytes, hlow] ; done) | (simp [low_pu32, low_pu64, low_val, low_nilsl, low_sl, low_ep, low_agg, low_tup, low_fn, low_pint, low_pstr, low_pbool, low_pints, low_pstrs, low_pbyte, low_pbytes] ; done) | simp [low_pu32, low_pu64, low_val, low_nilsl, low_sl, low_ep, low_agg, low_tup, low_fn, low_pint, low_pstr, low_pbool, low_pints, low_pstrs, low_pbyte, low_pbytes, low_pattrs, low_pdefs, low_pschema, low_pentry])))) | exact .inr (.inr ⟨_, _, rfl, rfl⟩)))) | ((with_reducible refine SubR.isb ?_) ; refine SubR.setb ?_ rfl rfl (by (first | exact RenQL.low (by first | assumption | exact hlow _ | exact hlow _ _ | exact low_map (fun _ => Low.val _) _) | exact RenQL.lowE (by assumption) (low_map (fun _ => Low.val _) _) | ((repeat (refine RenQL.cons (by (first | exact .inl (.ptr _ _ rfl) | exact .inl (.msl _ _ _ _ rfl) | exact .inl (.mref _ rfl) | exact .inl (.low _ (by (first | exact low_mapI | exact low_mapS | exact low_mapB | assumption | exact hlow _ | exact hlow _ _ | exact Low.agg _ (low_map (fun _ => Low.val _) _) | (simp [low_pu32, low_pu64, low_val, low_nilsl, low_sl, low_ep, low_agg, low_tup, low_fn, low_pint, low_pstr, low_pbool, low_pints, low_pstrs, low_pbyte, low_pbytes, hlow] ; done) | (simp [low_pu32, low_pu64, low_val, low_nilsl, low_sl, low_ep, low_agg, low_tup, low_fn, low_pint, low_pstr, low_pbool, low_pints, low_pstrs, low_pbyte, low_pbytes] ; done) | simp [low_pu32, low_pu64, low_val, low_nilsl, low_sl, low_ep, low_agg, low_tup, low_fn, low_pint, low_pstr, low_pbool, low_pints, low_pstrs, low_pbyte, low_pbytes, low_pattrs, low_pdefs, low_pschema, low_pentry]))) | exact .inr (.inl (.low _ (by (first | exact low_mapI | exact low_mapS | exact low_mapB | assumption | exact hlow _ | exact hlow _ _ | exact Low.agg _ (low_map (fun _ => Low.val _) _) | (simp [low_pu32, low_pu64, low_val, low_nilsl, low_sl, low_ep, low_agg, low_tup, low_fn, low_pint, low_pstr, low_pbool, low_pints, low_pstrs, low_pbyte, low_pbytes, hlow] ; done) | (simp [low_pu32, low_pu64, low_val, low_nilsl, low_sl, low_ep, low_agg, low_tup, low_fn, low_pint, low_pstr, low_pbool, low_pints, low_pstrs, low_pbyte, low_pbytes] ; done) | simp [low_pu32, low_pu64, low_val, low_nilsl, low_sl, low_ep, low_agg, low_tup, low_fn, low_pint, low_pstr, low_pbool, low_pints, low_pstrs, low_pbyte, low_pbytes, low_pattrs, low_pdefs, low_pschema, low_pentry])))) | exact .inr (.inr ⟨_, _, rfl, rfl⟩))) ?_)) ; exact RenQL.nil)))) | ((with_reducible refine SubR.ism ?_) ; refine SubR.setm ?_ rfl rfl (by (first | exact ⟨rfl, rfl, rfl, rfl, rfl⟩ | exact RenM.low (by first | assumption | exact hlowm _ | exact hlowm _ _)))))))
    · have g1 := f1 2
      have g2 := f2 2
      rw [show D.fourI at_ l (headSec n G hG hr) 1 = D.puts l from rfl]
      clear hy2
      refine wk ?_
      refine loopP 2 (by omega) (by omega) ?_
      rw [show D.fourI at_ l (headSec n G hG hr) 2 = (D.puts l).sync.2 from rfl] at g1 g2 ⊢
      (refine Sub.same ?_ ; (repeat (first | exact SubR.bot | ((with_reducible refine SubR.isp ?_) ; refine SubR.put ?_ (.inl (stepsP_ren rfl rfl rfl rfl rfl rfl))) | ((with_reducible refine SubR.isp ?_) ; refine SubR.put ?_ (by (first | exact .inl (.ptr _ _ rfl) | exact .inl (.msl _ _ _ _ rfl) | exact .inl (.mref _ rfl) | exact .inl (.low _ (by (first | exact low_mapI | exact low_mapS | exact low_mapB | assumption | exact hlow _ | exact hlow _ _ | exact Low.agg _ (low_map (fun _ => Low.val _) _) | (simp [low_pu32, low_pu64, low_val, low_nilsl, low_sl, low_ep, low_agg, low_tup, low_fn, low_pint, low_pstr, low_pbool, low_pints, low_pstrs, low_pbyte, low_pbytes, hlow] ; done) | (simp [low_pu32, low_pu64, low_val, low_nilsl, low_sl, low_ep, low_agg, low_tup, low_fn, low_pint, low_pstr, low_pbool, low_pints, low_pstrs, low_pbyte, low_pbytes] ; done) | simp [low_pu32, low_pu64, low_val, low_nilsl, low_sl, low_ep, low_agg, low_tup, low_fn, low_pint, low_pstr, low_pbool, low_pints, low_pstrs, low_pbyte, low_pbytes, low_pattrs, low_pdefs, low_pschema, low_pentry]))) | exact .inr (.inl (.low _ (by (first | exact low_mapI | exact low_mapS | exact low_mapB | assumption | exact hlow _ | exact hlow _ _ | exact Low.agg _ (low_map (fun _ => Low.val _) _) | (simp [low_pu32, low_pu64, low_val, low_nilsl, low_sl, low_ep, low_agg, low_tup, low_fn, low_pint, low_pstr, low_pbool, low_pints, low_pstrs, low_pbyte, low_pbytes, hlow] ; done) | (simp [low_pu32, low_pu64, low_val, low_nilsl, low_sl, low_ep, low_agg, low_tup, low_fn, low_pint, low_pstr, low_pbool, low_pints, low_pstrs, low_pbyte, low_pbytes] ; done) | simp [low_pu32, low_pu64, low_val, low_nilsl, low_sl, low_ep, low_agg, low_tup, low_fn, low_pint, low_pstr, low_pbool, low_pints, low_pstrs, low_pbyte, low_pbytes, low_pattrs, low_pdefs, low_pschema, low_pentry])))) | exact .inr (.inr ⟨_, _, rfl, rfl⟩)))) | ((with_reducible refine SubR.isb ?_) ; refine SubR.setb ?_ rfl rfl (by (first | exact RenQL.low (by first | assumption | exact hlow _ | exact hlow _ _ | exact low_map (fun _ => Low.val _) _) | exact RenQL.lowE (by assumption) (low_map (fun _ => Low.val _) _) | ((repeat (refine RenQL.cons (by (first | exact .inl (.ptr _ _ rfl) | exact .inl (.msl _ _ _ _ rfl) | exact .inl (.mref _ rfl) | exact .inl (.low _ (by (first | exact low_mapI | exact low_mapS | exact low_mapB | assumption | exact hlow _ | exact hlow _ _ | exact Low.agg _ (low_map (fun _ => Low.val _) _) | (simp [low_pu32, low_pu64, low_val, low_nilsl, low_sl, low_ep, low_agg, low_tup, low_fn, low_pint, low_pstr, low_pbool, low_pints, low_pstrs, low_pbyte, low_pbytes, hlow] ; done) | (simp [low_pu32, low_pu64, low_val, low_nilsl, low_sl, low_ep, low_agg, low_tup, low_fn, low_pint, low_pstr, low_pbool, low_pints, low_pstrs, low_pbyte, low_pbytes] ; done) | simp [low_pu32, low_pu64, low_val, low_nilsl, low_sl, low_ep, low_agg, low_tup, low_fn, low_pint, low_pstr, low_pbool, low_pints, low_pstrs, low_pbyte, low_pbytes, low_pattrs, low_pdefs, low_pschema, low_pentry]))) | exact .inr (.inl (.low _ (by (first | exact low_mapI | exact low_mapS | exact low_mapB | assumption | exact hlow _ | exact hlow _ _ | exact Low.agg _ (low_map (fun _ => Low.val _) _) | (simp [low_pu32, low_pu64, low_val, low_nilsl, low_sl, low_ep, low_agg, low_tup, low_fn, low_pint, low_pstr, low_pbool, low_pints, low_pstrs, low_pbyte, low_pbytes, hlow] ; done) | (simp [low_pu32, low_pu64, low_val, low_nilsl, low_sl, low_ep, low_agg, low_tup, low_fn, low_pint, low_pstr, low_pbool, low_pints, low_pstrs, low_pbyte, low_pbytes] ; done) | simp [low_pu32, low_pu64, low_val, low_nilsl, low_sl, low_ep, low_agg, low_tup, low_fn, low_pint, low_pstr, low_pbool, low_pints, low_pstrs, low_pbyte, low_pbytes, low_pattrs, low_pdefs, low_pschema, low_pentry])))) | exact .inr (.inr ⟨_, _, rfl, rfl⟩))) ?_)) ; exact RenQL.nil)))) | ((with_reducible refine SubR.ism ?_) ; refine SubR.setm ?_ rfl rfl (by (first | exact ⟨rfl, rfl, rfl, rfl, rfl⟩ | exact RenM.low (by first | assumption | exact hlowm _ | exact hlowm _ _)))))))
    · have g1 := f1 3
      have g2 := f2 3
      rw [show D.fourI at_ l (headSec n G hG hr) 2 = (D.puts l).sync.2 from rfl]
      refine wk ?_
      refine loopP 3 (by omega) (by omega) ?_
      rw [show D.fourI at_ l (headSec n G hG hr) 3 = ((D.puts l).sync.2.write at_ (headSec n G hG hr)).2 from rfl] at g1 g2 ⊢
      (refine Sub.same ?_ ; (repeat (first | exact SubR.bot | ((with_reducible refine SubR.isp ?_) ; refine SubR.put ?_ (.inl (stepsP_ren rfl rfl rfl rfl rfl rfl))) | ((with_reducible refine SubR.isp ?_) ; refine SubR.put ?_ (by (first | exact .inl (.ptr _ _ rfl) | exact .inl (.msl _ _ _ _ rfl) | exact .inl (.mref _ rfl) | exact .inl (.low _ (by (first | exact low_mapI | exact low_mapS | exact low_mapB | assumption | exact hlow _ | exact hlow _ _ | exact Low.agg _ (low_map (fun _ => Low.val _) _) | (simp [low_pu32, low_pu64, low_val, low_nilsl, low_sl, low_ep, low_agg, low_tup, low_fn, low_pint, low_pstr, low_pbool, low_pints, low_pstrs, low_pbyte, low_pbytes, hlow] ; done) | (simp [low_pu32, low_pu64, low_val, low_nilsl, low_sl, low_ep, low_agg, low_tup, low_fn, low_pint, low_pstr, low_pbool, low_pints, low_pstrs, low_pbyte, low_pbytes] ; done) | simp [low_pu32, low_pu64, low_val, low_nilsl, low_sl, low_ep, low_agg, low_tup, low_fn, low_pint, low_pstr, low_pbool, low_pints, low_pstrs, low_pbyte, low_pbytes, low_pattrs, low_pdefs, low_pschema, low_pentry]))) | exact .inr (.inl (.low _ (by (first | exact low_mapI | exact low_mapS | exact low_mapB | assumption | exact hlow _ | exact hlow _ _ | exact Low.agg _ (low_map (fun _ => Low.val _) _) | (simp [low_pu32, low_pu64, low_val, low_nilsl, low_sl, low_ep, low_agg, low_tup, low_fn, low_pint, low_pstr, low_pbool, low_pints, low_pstrs, low_pbyte, low_pbytes, hlow] ; done) | (simp [low_pu32, low_pu64, low_val, low_nilsl, low_sl, low_ep, low_agg, low_tup, low_fn, low_pint, low_pstr, low_pbool, low_pints, low_pstrs, low_pbyte, low_pbytes] ; done) | simp [low_pu32, low_pu64, low_val, low_nilsl, low_sl, low_ep, low_agg, low_tup, low_fn, low_pint, low_pstr, low_pbool, low_pints, low_pstrs, low_pbyte, low_pbytes, low_pattrs, low_pdefs, low_pschema, low_pentry])))) | exact .inr (.inr ⟨_, _, rfl, rfl⟩)))) | ((with_reducible refine SubR.isb ?_) ; refine SubR.setb ?_ rfl rfl (by (first | exact RenQL.low (by first | assumption | exact hlow _ | exact hlow _ _ | exact low_map (fun _ => Low.val _) _) | exact RenQL.lowE (by assumption) (low_map (fun _ => Low.val _) _) | ((repeat (refine RenQL.cons (by (first | exact .inl (.ptr _ _ rfl) | exact .inl (.msl _ _ _ _ rfl) | exact .inl (.mref _ rfl) | exact .inl (.low _ (by (first | exact low_mapI | exact low_mapS | exact low_mapB | assumption | exact hlow _ | exact hlow _ _ | exact Low.agg _ (low_map (fun _ => Low.val _) _) | (simp [low_pu32, low_pu64, low_val, low_nilsl, low_sl, low_ep, low_agg, low_tup, low_fn, low_pint, low_pstr, low_pbool, low_pints, low_pstrs, low_pbyte, low_pbytes, hlow] ; done) | (simp [low_pu32, low_pu64, low_val, low_nilsl, low_sl, low_ep, low_agg, low_tup, low_fn, low_pint, low_pstr, low_pbool, low_pints, low_pstrs, low_pbyte, low_pbytes] ; done) | simp [low_pu32, low_pu64, low_val, low_nilsl, low_sl, low_ep, low_agg, low_tup, low_fn, low_pint, low_pstr, low_pbool, low_pints, low_pstrs, low_pbyte, low_pbytes, low_pattrs, low_pdefs, low_pschema, low_pentry]))) | exact .inr (.inl (.low _ (by (first | exact low_mapI | exact low_mapS | exact low_mapB | assumption | exact hlow _ | exact hlow _ _ | exact Low.agg _ (low_map (fun _ => Low.val _) _) | (simp [low_pu32, low_pu64, low_val, low_nilsl, low_sl, low_ep, low_agg, low_tup, low_fn, low_pint, low_pstr, low_pbool, low_pints, low_pstrs, low_pbyte, low_pbytes, hlow] ; done) | (simp [low_pu32, low_pu64, low_val, low_nilsl, low_sl, low_ep, low_agg, low_tup, low_fn, low_pint, low_pstr, low_pbool, low_pints, low_pstrs, low_pbyte, low_pbytes] ; done) | simp [low_pu32, low_pu64, low_val, low_nilsl, low_sl, low_ep, low_agg, low_tup, low_fn, low_pint, low_pstr, low_pbool, low_pints, low_pstrs, low_pbyte, low_pbytes, low_pattrs, low_pdefs, low_pschema, low_pentry])))) | exact .inr (.inr ⟨_, _, rfl, rfl⟩))) ?_)) ; exact RenQL.nil)))) | ((with_reducible refine SubR.ism ?_) ; refine SubR.setm ?_ rfl rfl (by (first | exact ⟨rfl, rfl, rfl, rfl, rfl⟩ | exact RenM.low (by first | assumption | exact hlowm _ | exact hlowm _ _)))))))
    · have g1 := f1 4
      have g2 := f2 4
      rw [show D.fourI at_ l (headSec n G hG hr) 3 = ((D.puts l).sync.2.write at_ (headSec n G hG hr)).2 from rfl]
      refine wk ?_
      refine loopP 4 (by omega) (by omega) ?_
      rw [show D.fourI at_ l (headSec n G hG hr) 4 = D.four at_ l (headSec n G hG hr) from rfl] at g1 g2 ⊢
      (refine Sub.same ?_ ; (repeat (first | exact SubR.bot | ((with_reducible refine SubR.isp ?_) ; refine SubR.put ?_ (.inl (stepsP_ren rfl rfl rfl rfl rfl rfl))) | ((with_reducible refine SubR.isp ?_) ; refine SubR.put ?_ (by (first | exact .inl (.ptr _ _ rfl) | exact .inl (.msl _ _ _ _ rfl) | exact .inl (.mref _ rfl) | exact .inl (.low _ (by (first | exact low_mapI | exact low_mapS | exact low_mapB | assumption | exact hlow _ | exact hlow _ _ | exact Low.agg _ (low_map (fun _ => Low.val _) _) | (simp [low_pu32, low_pu64, low_val, low_nilsl, low_sl, low_ep, low_agg, low_tup, low_fn, low_pint, low_pstr, low_pbool, low_pints, low_pstrs, low_pbyte, low_pbytes, hlow] ; done) | (simp [low_pu32, low_pu64, low_val, low_nilsl, low_sl, low_ep, low_agg, low_tup, low_fn, low_pint, low_pstr, low_pbool, low_pints, low_pstrs, low_pbyte, low_pbytes] ; done) | simp [low_pu32, low_pu64, low_val, low_nilsl, low_sl, low_ep, low_agg, low_tup, low_fn, low_pint, low_pstr, low_pbool, low_pints, low_pstrs, low_pbyte, low_pbytes, low_pattrs, low_pdefs, low_pschema, low_pentry]))) | exact .inr (.inl (.low _ (by (first | exact low_mapI | exact low_mapS | exact low_mapB | assumption | exact hlow _ | exact hlow _ _ | exact Low.agg _ (low_map (fun _ => Low.val _) _) | (simp [low_pu32, low_pu64, low_val, low_nilsl, low_sl, low_ep, low_agg, low_tup, low_fn, low_pint, low_pstr, low_pbool, low_pints, low_pstrs, low_pbyte, low_pbytes, hlow] ; done) | (simp [low_pu32, low_pu64, low_val, low_nilsl, low_sl, low_ep, low_agg, low_tup, low_fn, low_pint, low_pstr, low_pbool, low_pints, low_pstrs, low_pbyte, low_pbytes] ; done) | simp [low_pu32, low_pu64, low_val, low_nilsl, low_sl, low_ep, low_agg, low_tup, low_fn, low_pint, low_pstr, low_pbool, low_pints, low_pstrs, low_pbyte, low_pbytes, low_pattrs, low_pdefs, low_pschema, low_pentry])))) | exact .inr (.inr ⟨_, _, rfl, rfl⟩)))) | ((with_reducible refine SubR.isb ?_) ; refine SubR.setb ?_ rfl rfl (by (first | exact RenQL.low (by first | assumption | exact hlow _ | exact hlow _ _ | exact low_map (fun _ => Low.val _) _) | exact RenQL.lowE (by assumption) (low_map (fun _ => Low.val _) _) | ((repeat (refine RenQL.cons (by (first | exact .inl (.ptr _ _ rfl) | exact .inl (.msl _ _ _ _ rfl) | exact .inl (.mref _ rfl) | exact .inl (.low _ (by (first | exact low_mapI | exact low_mapS | exact low_mapB | assumption | exact hlow _ | exact hlow _ _ | exact Low.agg _ (low_map (fun _ => Low.val _) _) | (simp [low_pu32, low_pu64, low_val, low_nilsl, low_sl, low_ep, low_agg, low_tup, low_fn, low_pint, low_pstr, low_pbool, low_pints, low_pstrs, low_pbyte, low_pbytes, hlow] ; done) | (simp [low_pu32, low_pu64, low_val, low_nilsl, low_sl, low_ep, low_agg, low_tup, low_fn, low_pint, low_pstr, low_pbool, low_pints, low_pstrs, low_pbyte, low_pbytes] ; done) | simp [low_pu32, low_pu64, low_val, low_nilsl, low_sl, low_ep, low_agg, low_tup, low_fn, low_pint, low_pstr, low_pbool, low_pints, low_pstrs, low_pbyte, low_pbytes, low_pattrs, low_pdefs, low_pschema, low_pentry]))) | exact .inr (.inl (.low _ (by (first | exact low_mapI | exact low_mapS | exact low_mapB | assumption | exact hlow _ | exact hlow _ _ | exact Low.agg _ (low_map (fun _ => Low.val _) _) | (simp [low_pu32, low_pu64, low_val, low_nilsl, low_sl, low_ep, low_agg, low_tup, low_fn, low_pint, low_pstr, low_pbool, low_pints, low_pstrs, low_pbyte, low_pbytes, hlow] ; done) | (simp [low_pu32, low_pu64, low_val, low_nilsl, low_sl, low_ep, low_agg, low_tup, low_fn, low_pint, low_pstr, low_pbool, low_pints, low_pstrs, low_pbyte, low_pbytes] ; done) | simp [low_pu32, low_pu64, low_val, low_nilsl, low_sl, low_ep, low_agg, low_tup, low_fn, low_pint, low_pstr, low_pbool, low_pints, low_pstrs, low_pbyte, low_pbytes, low_pattrs, low_pdefs, low_pschema, low_pentry])))) | exact .inr (.inr ⟨_, _, rfl, rfl⟩))) ?_)) ; exact RenQL.nil)))) | ((with_reducible refine SubR.ism ?_) ; refine SubR.setm ?_ rfl rfl (by (first | exact ⟨rfl, rfl, rfl, rfl, rfl⟩ | exact RenM.low (by first | assumption | exact hlowm _ | exact hlowm _ _)))))))
    · refine wk ?_
      exact RetH.mk rfl (Weak.refl _) ⟨⟨_, rfl, WeakL.refl _⟩, ⟨_, rfl, WeakL.refl _⟩, ⟨_, rfl, WeakL.refl _⟩, ⟨_, rfl, WeakL.refl _⟩, ⟨_, rfl, WeakL.refl _⟩, ⟨_, rfl, WeakL.refl _⟩, ⟨_, rfl, WeakL.refl _⟩, ⟨_, rfl, WeakL.refl _⟩, trivial⟩ ⟨⟨rfl, rfl⟩, trivial⟩
end Go.Proofs.YtilcpcpmkklobaaDoor

/- The journal: the second part of an Apply. -/
namespace Go.Proofs.YtilcpcpmkklobaaDoor
set_option linter.unusedSimpArgs false
set_option linter.unusedVariables false
set_option linter.unnecessarySimpa false
open Go.RowKit

theorem stepsP_renR {ρ : Nat → Nat} {S : Nat → Prop} {a b c d e f : Nat} (h1 : S a) (h2 : S b) (h3 : S c) (h4 : S d) (h5 : S e) (h6 : S f) : Ren ρ S (stepsP a b c d e f) (stepsP (ρ a) (ρ b) (ρ c) (ρ d) (ρ e) (ρ f)) := by
  have k1 : RenL ρ S [.ptr b 0, .ptr a 0] [.ptr (ρ b) 0, .ptr (ρ a) 0] := .cons (.ptr _ _ h2) (.cons (.ptr _ _ h1) .nil)
  have k2 : RenL ρ S [.ptr f 0] [.ptr (ρ f) 0] := .cons (.ptr _ _ h6) .nil
  have k3 : RenL ρ S [.ptr d 0, .ptr e 0, .ptr c 0] [.ptr (ρ d) 0, .ptr (ρ e) 0, .ptr (ρ c) 0] := .cons (.ptr _ _ h4) (.cons (.ptr _ _ h5) (.cons (.ptr _ _ h3) .nil))
  have k : RenL ρ S [putF b a, syncF f, headF c d e, syncF f] [putF (ρ b) (ρ a), syncF (ρ f), headF (ρ c) (ρ d) (ρ e), syncF (ρ f)] := .cons (.fn _ _ _ k1.1 k1.2) (.cons (.fn _ _ _ k2.1 k2.2) (.cons (.fn _ _ _ k3.1 k3.2) (.cons (.fn _ _ _ k2.1 k2.2) .nil)))
  exact .sl _ _ _ _ k.1 k.2
def idsA (d c m j b0 b1 b2 b3 b4 : Nat) : List (Nat × Nat) := ids4 d c m j ++ [(1000005, b0), (1000006, b1), (1000007, b2), (1000008, b3), (1000009, b4)]
theorem jc_all (most : Int) {N k : Nat} {D : DM} (h : OkD N k D) (at_ n : Int) (h0 : 0 ≤ at_) (h1 : at_ < N) (n0 : 0 ≤ n) (n1 : n < 65536) (G : List Int) (hG : G.length = 16) (hr : ∀ x ∈ G, 0 ≤ x ∧ x < 256) (l : List PPut) (hi : InD N l) (hk : k + l.length + 3 ≤ 100000000) (hNN : N ≤ 1000000000) (d c m j b0 b1 b2 b3 b4 : Nat) (hd : ([d, c, m, j, b0, b1, b2, b3, b4] : List Nat).Nodup) : HCalls Tryd.prog 28 [stepsP b0 b1 b2 b3 b4 d]
    ((b0, [.ptr j 0]) :: (b1, [pputs l]) :: (b2, [.ptr j 0]) :: (b3, [pint n]) :: (b4, G.map pbyte) :: jG d c m j at_ most D) (dMs m D) (pint 0)
    ((b0, [.ptr j 0]) :: (b1, [pputs l]) :: (b2, [.ptr j 0]) :: (b3, [pint n]) :: (b4, G.map pbyte) :: jG d c m j at_ most (D.four at_ l (headSec n G hG hr))) (dMs m (D.four at_ l (headSec n G hG hr))) := by
  have hl : ∀ c ∈ G.map pbyte, Low c := low_map (fun _ => Low.val _) _
  refine (jc_all1 most h at_ n h0 h1 n0 n1 G hG hr l hi hk hNN).at (idsA d c m j b0 b1 b2 b3 b4) (by simpa [ids4, idsA] using hd) (by simp [ResIds, jG, dG, dMs, ids4, idsA]) (by simp [jG, dG]) (by simp [dMs]) ?_ ?_ ?_ ?_ ?_ ?_
  · exact .cons (stepsP_renR (by simp [ResIds, dG, dMs, jG]) (by simp [ResIds, dG, dMs, jG]) (by simp [ResIds, dG, dMs, jG]) (by simp [ResIds, dG, dMs, jG]) (by simp [ResIds, dG, dMs, jG]) (by simp [ResIds, dG, dMs, jG])) .nil
  all_goals (repeat (first | exact RenL.nil | exact RenB.nil | exact RenMs.nil | exact RenMs.cons _ _ _ _ _ (RenM.low (dM_low _)) RenMs.nil | refine RenB.cons _ _ _ _ _ ?_ ?_ | exact RenL.low (dC_low _) | refine RenL.cons ?_ ?_ | exact Ren.ptr _ _ (by simp [ResIds, dG, dMs, jG]) | exact Ren.mref _ (by simp [ResIds, dG, dMs, jG]) | exact Ren.msl _ _ _ _ (by simp [ResIds, dG, dMs, jG]) | exact Ren.low _ (Low.val _) | exact Ren.low _ (low_pputs _) | exact Ren.low _ (psec_low _) | exact RenL.low (by assumption) | refine ren_agg ?_ | refine ren_fn ?_ | refine ren_sl ?_))

/-- The second part: the change itself, the head is emptied. -/
def zeroDig : List Int := List.replicate 16 0
theorem zeroDig_ok : ∀ x ∈ zeroDig, 0 ≤ x ∧ x < 256 := by decide
def emptyHead : Sec := headSec 0 zeroDig rfl zeroDig_ok
set_option maxRecDepth 10000 in
set_option maxHeartbeats 2000000 in
theorem jc_finish1 (most : Int) {N k : Nat} {D : DM} (h : OkD N k D) (at_ : Int) (h0 : 0 ≤ at_) (h1 : at_ < N) (l : List PPut) (hi : InD N l) (hk : k + l.length + 3 ≤ 100000000) (hNN : N ≤ 1000000000) : HCalls Tryd.prog 34 [.ptr 1000004 0, pputs l] (jG 1000001 1000002 1000003 1000004 at_ most D) (dMs 1000003 D) (pint 0) (jG 1000001 1000002 1000003 1000004 at_ most (D.four at_ l emptyHead)) (dMs 1000003 (D.four at_ l emptyHead)) := by
  refine hcalls_of_pw typeTab_ok Tryd.func34 rfl rfl (by simp [PV.ownB, pputs]) (Nat.le_of_ble_eq_true rfl) (by simp [ResIds, jG, dG, dMs]) (by simp [ResIds, jG, dG, dMs]) (by (refine ⟨by (repeat (first | exact li_nil | exact lb_nil | refine lb_cons ?_ ?_ | refine li_cons ?_ ?_ | exact dB_lowI (by simp [ResIds, dG, dMs, jG]) (by simp [ResIds, dG, dMs, jG]) _ | exact li_low (dC_low _) | exact LowI.ptr _ _ (by simp [ResIds, dG, dMs, jG]) | exact LowI.mref _ (by simp [ResIds, dG, dMs, jG]) | exact LowI.msl _ _ _ _ (by simp [ResIds, dG, dMs, jG]) | exact LowI.val _ | exact LowI.nilsl | exact Low.lowI (low_pputs _) | exact Low.lowI (psec_low _) | exact li_low (secL_low _) | exact li_low (by assumption) | refine LowI.agg _ ?_ | refine LowI.fn _ _ ?_ | refine LowI.tup _ ?_ | refine LowI.sl _ _ _ _ ?_)), by (repeat (first | exact li_nil | exact lb_nil | refine lb_cons ?_ ?_ | refine li_cons ?_ ?_ | exact dB_lowI (by simp [ResIds, dG, dMs, jG]) (by simp [ResIds, dG, dMs, jG]) _ | exact li_low (dC_low _) | exact LowI.ptr _ _ (by simp [ResIds, dG, dMs, jG]) | exact LowI.mref _ (by simp [ResIds, dG, dMs, jG]) | exact LowI.msl _ _ _ _ (by simp [ResIds, dG, dMs, jG]) | exact LowI.val _ | exact LowI.nilsl | exact Low.lowI (low_pputs _) | exact Low.lowI (psec_low _) | exact li_low (secL_low _) | exact li_low (by assumption) | refine LowI.agg _ ?_ | refine LowI.fn _ _ ?_ | refine LowI.tup _ ?_ | refine LowI.sl _ _ _ _ ?_)), by first | exact lm_nil | exact lm_cons (dM_low _) lm_nil, ?_, by (repeat (first | exact li_nil | exact lb_nil | refine lb_cons ?_ ?_ | refine li_cons ?_ ?_ | exact dB_lowI (by simp [ResIds, dG, dMs, jG]) (by simp [ResIds, dG, dMs, jG]) _ | exact li_low (dC_low _) | exact LowI.ptr _ _ (by simp [ResIds, dG, dMs, jG]) | exact LowI.mref _ (by simp [ResIds, dG, dMs, jG]) | exact LowI.msl _ _ _ _ (by simp [ResIds, dG, dMs, jG]) | exact LowI.val _ | exact LowI.nilsl | exact Low.lowI (low_pputs _) | exact Low.lowI (psec_low _) | exact li_low (secL_low _) | exact li_low (by assumption) | refine LowI.agg _ ?_ | refine LowI.fn _ _ ?_ | refine LowI.tup _ ?_ | refine LowI.sl _ _ _ _ ?_)), by first | exact lm_nil | exact lm_cons (dM_low _) lm_nil, by simp [jG, dG], by simp [dMs]⟩ ; (repeat (first | exact li_nil | exact lb_nil | refine lb_cons ?_ ?_ | refine li_cons ?_ ?_ | exact dB_lowI (by simp [ResIds, dG, dMs, jG]) (by simp [ResIds, dG, dMs, jG]) _ | exact li_low (dC_low _) | exact LowI.ptr _ _ (by simp [ResIds, dG, dMs, jG]) | exact LowI.mref _ (by simp [ResIds, dG, dMs, jG]) | exact LowI.msl _ _ _ _ (by simp [ResIds, dG, dMs, jG]) | exact LowI.val _ | exact LowI.nilsl | exact Low.lowI (low_pputs _) | exact Low.lowI (psec_low _) | exact li_low (secL_low _) | exact li_low (by assumption) | refine LowI.agg _ ?_ | refine LowI.fn _ _ ?_ | refine LowI.tup _ ?_ | refine LowI.sl _ _ _ _ ?_)))) ?_
  have hput := jc_put at_ most D l 1000001 1000002 1000003 1000004 900005 900006 (by decide)
  have hsync := jc_sync at_ most D 1000001 1000002 1000003 1000004 (by decide)
  have hhead := jc_head at_ most D 0 zeroDig rfl 1000001 1000002 1000003 1000004 900007 900008 900009 (by decide)
  have hall := jc_all most h at_ 0 h0 h1 (by decide) (by decide) zeroDig rfl zeroDig_ok l hi hk hNN 1000001 1000002 1000003 1000004 900005 900006 900007 900008 900009 (by decide)
  refine wk ?_
  exact RetH.mk rfl (Weak.refl _) ⟨⟨_, rfl, WeakL.refl _⟩, ⟨_, rfl, WeakL.refl _⟩, ⟨_, rfl, WeakL.refl _⟩, trivial⟩ ⟨⟨rfl, rfl⟩, trivial⟩
theorem jc_finish (most : Int) {N k : Nat} {D : DM} (h : OkD N k D) (at_ : Int) (h0 : 0 ≤ at_) (h1 : at_ < N) (l : List PPut) (hi : InD N l) (hk : k + l.length + 3 ≤ 100000000) (hNN : N ≤ 1000000000) (d c m j : Nat) (hd : ([d, c, m, j] : List Nat).Nodup) : HCalls Tryd.prog 34 [.ptr j 0, pputs l] (jG d c m j at_ most D) (dMs m D) (pint 0) (jG d c m j at_ most (D.four at_ l emptyHead)) (dMs m (D.four at_ l emptyHead)) := by
  refine (jc_finish1 most h at_ h0 h1 l hi hk hNN).at (ids4 d c m j) hd (by simp [ResIds, jG, dG, dMs, ids4]) (by simp [jG, dG]) (by simp [dMs]) ?_ ?_ ?_ ?_ ?_ ?_ <;> (repeat (first | exact RenL.nil | exact RenB.nil | exact RenMs.nil | exact RenMs.cons _ _ _ _ _ (RenM.low (dM_low _)) RenMs.nil | refine RenB.cons _ _ _ _ _ ?_ ?_ | exact RenL.low (dC_low _) | refine RenL.cons ?_ ?_ | exact Ren.ptr _ _ (by simp [ResIds, dG, dMs, jG]) | exact Ren.mref _ (by simp [ResIds, dG, dMs, jG]) | exact Ren.msl _ _ _ _ (by simp [ResIds, dG, dMs, jG]) | exact Ren.low _ (Low.val _) | exact Ren.low _ (low_pputs _) | exact Ren.low _ (psec_low _) | exact RenL.low (by assumption) | refine ren_agg ?_ | refine ren_fn ?_ | refine ren_sl ?_))
end Go.Proofs.YtilcpcpmkklobaaDoor

/- The journal: the area. -/
namespace Go.Proofs.YtilcpcpmkklobaaDoor
set_option linter.unusedSimpArgs false
set_option linter.unusedVariables false
set_option linter.unnecessarySimpa false
open Go.RowKit

/-- The sectors of numbers after so many bytes. -/
def rowsT (l : List PPut) (R : Nat) : Nat → List Sec
  | 0 => List.replicate R zeroSec
  | t + 1 => (rowsT l R t).set (t / 64) (setB ((rowsT l R t).getD (t / 64) default) (t % 64) ((l.getD (t / 4) default).sec.fdiv (2 ^ min (8 * (t % 4)) 64)))
theorem rowsT_len (l : List PPut) (R : Nat) : ∀ t, (rowsT l R t).length = R
  | 0 => List.length_replicate ..
  | t + 1 => by rw [rowsT, List.length_set, rowsT_len l R t]
theorem rows0 (l : List PPut) (R : Nat) : (List.replicate (R : Int).toNat (List.replicate 64 (pbyte 0))).flatten = (rowsT l R 0).flatMap secL := by
  rw [rowsT, List.flatMap, List.map_replicate]; rfl
theorem rowsF_len (l : List PPut) (R t : Nat) : ((rowsT l R t).flatMap secL).length = R * 64 := by rw [flatMap_len (fun _ => secL_len _), rowsT_len]
theorem set_row (z : Int) (k : Nat) (hk : k < 64) : ∀ (rs : List Sec) (r : Nat), r < rs.length → (rs.flatMap secL).set (r * 64 + k) (pbyte (IntKind.u8.wrap z)) = (rs.set r (setB (rs.getD r default) k z)).flatMap secL
  | [], r, h => absurd h (by simp)
  | s :: rs, 0, _ => by
    rw [List.flatMap_cons, List.set_append_left _ _ (by rw [secL_len]; omega), List.set_cons_zero, List.flatMap_cons]
    show _ = List.map pbyte (s.1.set k _) ++ _
    rw [List.map_set, Nat.zero_mul, Nat.zero_add]; rfl
  | s :: rs, r + 1, h => by
    rw [List.flatMap_cons, List.set_append_right _ _ (by rw [secL_len]; omega), secL_len, show (r + 1) * 64 + k - 64 = r * 64 + k by omega, set_row z k hk rs r (by simpa using h), List.set_cons_succ, List.flatMap_cons]
    rfl
theorem row_step (l : List PPut) (R i e : Nat) (hi : i / 16 < R) (he : e < 4) : splice ((rowsT l R (4 * i + e)).flatMap secL) (0 + ((i : Int) / 16).toNat * 64 + ((i : Int) % 16 * 4 + e).toNat * 1) [pbyte (IntKind.u8.wrap ((l.getD i default).sec.fdiv (2 ^ min (8 * (e : Int)).toNat 64)))] = (rowsT l R (4 * i + (e + 1))).flatMap secL := by
  have e1 : 0 + ((i : Int) / 16).toNat * 64 + ((i : Int) % 16 * 4 + e).toNat * 1 = i / 16 * 64 + (i % 16 * 4 + e) := by omega
  have e2 : (4 * i + e) / 64 = i / 16 := by omega
  have e3 : (4 * i + e) % 64 = i % 16 * 4 + e := by omega
  have e4 : (4 * i + e) / 4 = i := by omega
  have e5 : (8 * (e : Int)).toNat = 8 * ((4 * i + e) % 4) := by omega
  rw [e1, splice_one (by rw [rowsF_len]; omega), set_row _ _ (by omega) _ _ (by rw [rowsT_len]; omega), ← Nat.add_assoc (4 * i) e 1, rowsT, e2, e3, e4, e5]
/-- The change's own sectors in the area. -/
def areaP (at_ most : Int) (l : List PPut) : List PPut := (List.range l.length).map fun (i : Nat) => ⟨at_ + 1 + numbersI most + i, (l.getD i default).dat⟩
def areaN (at_ : Int) (rs : List Sec) : List PPut := (List.range rs.length).map fun (i : Nat) => ⟨at_ + 1 + i, rs.getD i default⟩
def areaJ (at_ most : Int) (l : List PPut) : List PPut := areaP at_ most l ++ areaN at_ (rowsT l (numbersI l.length).toNat (4 * l.length))
/-- The list so far. -/
def outA (l : List PPut) : Nat → PV
  | 0 => .nilsl
  | k + 1 => .sl (k + 1) 65 ((l.take (k + 1)).flatMap putL) (some 59)
theorem low_outA (l : List PPut) : ∀ k, Low (outA l k)
  | 0 => .nilsl
  | k + 1 => .sl _ _ _ _ (flat_low putL_low _)

theorem fill_put (z : Int) (s : Sec) : pfill (fun i => (([(0, 1, false), (1, 64, true)] : List (Nat × Nat × Bool))[i]?).map fun x => (x.1, x.2.1)) ([PV.val (.int .i64 0)] ++ List.replicate 64 (PV.val (.int .u8 0))) [(0, pint z), (1, .agg (secL s))] = some (putL ⟨z, s⟩) := by
  have h1 : pcells (pint z) = some [pint z] := rfl
  have h2 : pcells (.agg (secL s)) = some (secL s) := by rw [pcells, secL_one, secL_bare]; rfl
  rw [pfill, h1]
  show (if [pint z].length = 1 ∧ 0 + 1 ≤ 65 then pfill _ (pint z :: List.replicate 64 (PV.val (.int .u8 0))) [(1, .agg (secL s))] else none) = _
  rw [if_pos ⟨rfl, by decide⟩, pfill, h2]
  show (if (secL s).length = 64 ∧ 1 + 64 ≤ 65 then pfill _ (splF (pint z :: List.replicate 64 (PV.val (.int .u8 0))) 1 (secL s)) [] else none) = _
  rw [if_pos ⟨secL_len s, by decide⟩, pfill, splF_eq _ _ _ (by rw [secL_len]; exact Nat.le_of_ble_eq_true rfl), splice, secL_len]
  show some (pint z :: ([] ++ secL s ++ [])) = _
  rw [List.nil_append, List.append_nil]; rfl
theorem areaP_get (at_ most : Int) (l : List PPut) (k : Nat) (h : k < l.length) : (areaP at_ most l).getD k default = ⟨at_ + 1 + numbersI most + k, (l.getD k default).dat⟩ := by
  rw [areaP, List.getD_eq_getElem?_getD, List.getElem?_map, List.getElem?_range h]; rfl
theorem areaP_len (at_ most : Int) (l : List PPut) : (areaP at_ most l).length = l.length := by simp [areaP]
theorem outA_area (at_ most : Int) (l : List PPut) (k : Nat) (h : k < l.length) : outA (areaP at_ most l) (k + 1) = .sl (k + 1) 65 (((areaP at_ most l).take k).flatMap putL ++ putL ⟨at_ + 1 + numbersI most + k, (l.getD k default).dat⟩) (some 59) := by
  rw [outA, take_getD default (by rw [areaP_len]; exact h), areaP_get at_ most l k h, List.flatMap_append]
  show PV.sl _ _ (_ ++ (putL _ ++ [])) _ = _
  rw [List.append_nil]
theorem outA_full (at_ most : Int) (l : List PPut) (h : 0 < l.length) : outA (areaP at_ most l) l.length = .sl l.length 65 ((areaP at_ most l).flatMap putL) (some 59) := by
  have e := areaP_len at_ most l
  generalize areaP at_ most l = A at *
  rw [← e] at h ⊢
  cases A with
  | nil => exact absurd h (by simp)
  | cons a A => show outA (a :: A) (A.length + 1) = _; rw [outA, List.take_of_length_le (by simp)]; rfl
section
variable {P : Program} {T : Tab} {σ : PS} {o : Oper} {i base : Nat} {ops : Array Oper} {ok : Nat → Nat → Bool} {rest : List (Nat × Oper)} {K : PS → Prop}
/-- A struct of which two fields are given. -/
theorem PWops.bld2 {d f g : Nat} {out : List PV} {px py : PV} {x y : Operand} {t : TypeId} {ti : TyI} {l : List (Nat × Nat × Bool)} (hg : pguard ops σ o = some true) (hd : o.dst = some d) (hop : o.op = .build t #[(f, x), (g, y)]) (hx : pev σ x = px) (hy : pev σ y = py) (ht : T.at t = some ti) (hk : ti.kind = .struct l) (hb : σ.freeB (base + i) = true) (hf : pfill (fun i => (l[i]?).map fun x => (x.1, x.2.1)) ti.zero [(f, px), (g, py)] = some out)
    (kn : PWops P T ops base ok rest K (σ.put d (.agg out))) : PWops P T ops base ok ((i, o) :: rest) K σ := by
  refine PWops.valEq hg hd (p := .agg out) ?_ rfl hb kn
  simp only [hop, presE, pvalA, pval, ht, pbuild, hk, List.map_cons, List.map_nil, pev_only, hx, hy, hf, Option.map_some]
end

set_option maxRecDepth 10000 in
set_option maxHeartbeats 2000000 in
theorem jc_area1 (at_ most : Int) (D : DM) (l : List PPut) (h0 : 0 ≤ at_) (h1 : at_ < 1000000000) (m0 : 1 ≤ most) (m1 : most ≤ 1024) (hl : l.length ≤ 1024) (hl0 : 0 < l.length) : HCalls Tryd.prog 30 [.ptr 1000004 0, pputs l] (jG 1000001 1000002 1000003 1000004 at_ most D) (dMs 1000003 D) (pputs (areaJ at_ most l)) (jG 1000001 1000002 1000003 1000004 at_ most D) (dMs 1000003 D) := by
  have hll := low_pputs l
  have hla := low_pputs (areaJ at_ most l)
  have c1 := dC_low D
  have c2 := dM_low D
  refine hcalls_of_pw typeTab_ok Tryd.func30 rfl rfl (by simp [PV.ownB, pputs]) (Nat.le_of_ble_eq_true rfl) (by simp [ResIds, jG, dG, dMs]) (by simp [ResIds, jG, dG, dMs]) (by (refine ⟨by (repeat (first | exact li_nil | exact lb_nil | refine lb_cons ?_ ?_ | refine li_cons ?_ ?_ | exact dB_lowI (by simp [ResIds, dG, dMs, jG]) (by simp [ResIds, dG, dMs, jG]) _ | exact li_low (dC_low _) | exact LowI.ptr _ _ (by simp [ResIds, dG, dMs, jG]) | exact LowI.mref _ (by simp [ResIds, dG, dMs, jG]) | exact LowI.msl _ _ _ _ (by simp [ResIds, dG, dMs, jG]) | exact LowI.val _ | exact LowI.nilsl | exact Low.lowI (low_pputs _) | exact Low.lowI (psec_low _) | exact li_low (secL_low _) | exact li_low (by assumption) | refine LowI.agg _ ?_ | refine LowI.fn _ _ ?_ | refine LowI.tup _ ?_ | refine LowI.sl _ _ _ _ ?_)), by (repeat (first | exact li_nil | exact lb_nil | refine lb_cons ?_ ?_ | refine li_cons ?_ ?_ | exact dB_lowI (by simp [ResIds, dG, dMs, jG]) (by simp [ResIds, dG, dMs, jG]) _ | exact li_low (dC_low _) | exact LowI.ptr _ _ (by simp [ResIds, dG, dMs, jG]) | exact LowI.mref _ (by simp [ResIds, dG, dMs, jG]) | exact LowI.msl _ _ _ _ (by simp [ResIds, dG, dMs, jG]) | exact LowI.val _ | exact LowI.nilsl | exact Low.lowI (low_pputs _) | exact Low.lowI (psec_low _) | exact li_low (secL_low _) | exact li_low (by assumption) | refine LowI.agg _ ?_ | refine LowI.fn _ _ ?_ | refine LowI.tup _ ?_ | refine LowI.sl _ _ _ _ ?_)), by first | exact lm_nil | exact lm_cons (dM_low _) lm_nil, ?_, by (repeat (first | exact li_nil | exact lb_nil | refine lb_cons ?_ ?_ | refine li_cons ?_ ?_ | exact dB_lowI (by simp [ResIds, dG, dMs, jG]) (by simp [ResIds, dG, dMs, jG]) _ | exact li_low (dC_low _) | exact LowI.ptr _ _ (by simp [ResIds, dG, dMs, jG]) | exact LowI.mref _ (by simp [ResIds, dG, dMs, jG]) | exact LowI.msl _ _ _ _ (by simp [ResIds, dG, dMs, jG]) | exact LowI.val _ | exact LowI.nilsl | exact Low.lowI (low_pputs _) | exact Low.lowI (psec_low _) | exact li_low (secL_low _) | exact li_low (by assumption) | refine LowI.agg _ ?_ | refine LowI.fn _ _ ?_ | refine LowI.tup _ ?_ | refine LowI.sl _ _ _ _ ?_)), by first | exact lm_nil | exact lm_cons (dM_low _) lm_nil, by simp [jG, dG], by simp [dMs]⟩ ; (repeat (first | exact li_nil | exact lb_nil | refine lb_cons ?_ ?_ | refine li_cons ?_ ?_ | exact dB_lowI (by simp [ResIds, dG, dMs, jG]) (by simp [ResIds, dG, dMs, jG]) _ | exact li_low (dC_low _) | exact LowI.ptr _ _ (by simp [ResIds, dG, dMs, jG]) | exact LowI.mref _ (by simp [ResIds, dG, dMs, jG]) | exact LowI.msl _ _ _ _ (by simp [ResIds, dG, dMs, jG]) | exact LowI.val _ | exact LowI.nilsl | exact Low.lowI (low_pputs _) | exact Low.lowI (psec_low _) | exact li_low (secL_low _) | exact li_low (by assumption) | refine LowI.agg _ ?_ | refine LowI.fn _ _ ?_ | refine LowI.tup _ ?_ | refine LowI.sl _ _ _ _ ?_)))) ?_
  have hn := pw_numbers l.length (by omega) (by omega)
  have hnm := pw_numbers most (by omega) (by omega)
  obtain ⟨R, hR⟩ : ∃ R : Nat, numbersI l.length = R := ⟨(numbersI l.length).toNat, by unfold numbersI; omega⟩
  have hRb : R ≤ 64 := by unfold numbersI at hR; omega
  rw [hR] at hn
  refine wk ?_
  refine PWops.mkS (out := (rowsT l R 0).flatMap secL) rfl rfl rfl rfl rfl rfl rfl rfl ⟨by omega, by omega, by omega⟩ (rows0 l R) ?_
  refine wk ?_
  rw [Int.toNat_natCast]
  have a1 := low_outA (areaP at_ most l)
  have a2 : ∀ k, ∀ c ∈ (rowsT l R k).flatMap secL, Low c := fun k => flat_low secL_low _
  have a3 := rowsF_len l R
  have hRl : (R : Int) = ((l.length : Int) + 15) / 16 := hR.symm
  refine PW.loop (fun i : Nat => ((((((((((bot.setb 1000004 (jB 1000001 at_ most)).setb 1000001 (dB 1000002 1000003 D)).setb 1000002 (dC D)).setm 1000003 (dM D)).setb 1003 ((rowsT l R (4 * i)).flatMap secL)).put 0 (.ptr 1000004 0)).put 5 (.msl 1003 0 R 64)).put 6 (outA (areaP at_ most l) i)).put 16 (pputs l)).put 17 (pint l.length)).put 18 (pint i)) (fun i => i ≤ l.length) (fun i => l.length - i) 0 (by omega) ?_ ?_
  · have b1 := a1 0
    have b2 := a2 0
    exact sb
  · intro i hi
    by_cases hlt : i < l.length
    · refine wk ?_
      refine PW.loop (fun e : Nat => (((((((((((((bot.setb 1000004 (jB 1000001 at_ most)).setb 1000001 (dB 1000002 1000003 D)).setb 1000002 (dC D)).setm 1000003 (dM D)).setb 1003 ((rowsT l R (4 * i + e)).flatMap secL)).setb 5003 (putL (l.getD i default))).put 0 (.ptr 1000004 0)).put 5 (.msl 1003 0 R 64)).put 6 (outA (areaP at_ most l) i)).put 7 (pint i)).put 8 (.ptr 5003 0)).put 16 (pputs l)).put 17 (pint l.length)).put 18 (pint i) |>.put 23 (pint e)) (fun e => e ≤ 4) (fun e => 4 - e) 0 (by omega) ?_ ?_
      · have b1 := a1 i
        have b2 := a2 (4 * i + 0)
        have hp := putL_low (l.getD i default)
        exact sb
      · intro e he
        by_cases hlt4 : e < 4
        · have hi16 : (i : Int) / 16 < R := by omega
          have hi0 : 0 ≤ (i : Int) / 16 := by omega
          have hj0 : 0 ≤ (i : Int) % 16 * 4 + e := by omega
          have hj1 : (i : Int) % 16 * 4 + e < 64 := by omega
          refine wk ?_
          refine PWops.stB (out := (rowsT l R (4 * i + (e + 1))).flatMap secL) rfl rfl rfl rfl rfl rfl rfl rfl rfl ⟨rfl, by rw [a3]; simp only [List.length_cons, List.length_nil]; omega⟩ (row_step l R i e (by omega) hlt4) ?_
          have b1 := a1 i
          have b2 := a2 (4 * i + (e + 1))
          have hp := putL_low (l.getD i default)
          refine wk ?_
          refine loopP (e + 1) (by omega) (by omega) ?_
          exact sb
        · have ee : e = 4 := by omega
          subst ee
          have ho := outA_area at_ most l i hlt
          have b1 := a1 (i + 1)
          rw [ho] at b1
          have hnb : 0 ≤ numbersI most ∧ numbersI most ≤ 1000 := by unfold numbersI; omega
          generalize hnM : numbersI most = nM at *
          cases i with
          | zero =>
            refine wk ?_
            generalize l.getD (0) default = p at *
            refine PWops.ldBA (row := secL p.dat) rfl rfl rfl rfl rfl rfl rfl (by rw [putL_len]; decide) (by show List.map PV.bare (List.take 64 (secL p.dat)) = secL p.dat; rw [List.take_of_length_le (by rw [secL_len]; omega), secL_bare]) ?_
            refine PWops.bld2 (out := putL ⟨at_ + 1 + nM + ((0 : Nat) : Int), p.dat⟩) rfl rfl rfl rfl rfl rfl rfl rfl ?_ ?_
            · exact fill_put _ _
            refine wk ?_
            refine loopP (0 + 1) (by omega) (by omega) ?_
            try dsimp only
            rw [ho, show 4 * (0 + 1) = 4 * (0) + 4 by omega]
            have b2 := a2 (4 * (0) + 4)
            exact sb
          | succ k =>
            refine wk ?_
            generalize l.getD (k + 1) default = p at *
            refine PWops.ldBA (row := secL p.dat) rfl rfl rfl rfl rfl rfl rfl (by rw [putL_len]; decide) (by show List.map PV.bare (List.take 64 (secL p.dat)) = secL p.dat; rw [List.take_of_length_le (by rw [secL_len]; omega), secL_bare]) ?_
            refine PWops.bld2 (out := putL ⟨at_ + 1 + nM + ((k + 1 : Nat) : Int), p.dat⟩) rfl rfl rfl rfl rfl rfl rfl rfl ?_ ?_
            · exact fill_put _ _
            refine wk ?_
            refine loopP (k + 1 + 1) (by omega) (by omega) ?_
            try dsimp only
            rw [ho, show 4 * (k + 1 + 1) = 4 * (k + 1) + 4 by omega]
            have b2 := a2 (4 * (k + 1) + 4)
            exact sb
    · have e : i = l.length := by omega
      subst e
      rw [outA_full at_ most l hl0]
      have b0 : Low (.sl l.length 65 ((areaP at_ most l).flatMap putL) (some 59)) := .sl _ _ _ _ (flat_low putL_low _)
      have b2 := a2 (4 * l.length)
      have a4 := rowsT_len l R (4 * l.length)
      have a5 : areaJ at_ most l = areaP at_ most l ++ areaN at_ (rowsT l R (4 * l.length)) := by rw [areaJ, hR, Int.toNat_natCast]
      have a6 := areaP_len at_ most l
      rw [a5]
      clear a5 hla a2 a3 a1 hRl
      generalize rowsT l R (4 * l.length) = rs at *
      generalize areaP at_ most l = A at *
      refine wk ?_
      refine PW.loop (fun i : Nat => ((((((((((bot.setb 1000004 (jB 1000001 at_ most)).setb 1000001 (dB 1000002 1000003 D)).setb 1000002 (dC D)).setm 1000003 (dM D)).setb 1003 (rs.flatMap secL)).put 0 (.ptr 1000004 0)).put 6 (.sl (l.length + i) 65 (A.flatMap putL ++ ((areaN at_ rs).take i).flatMap putL) (some 59))).put 63 (.msl 1003 0 R 64)).put 64 (pint R)).put 65 (pint i))) (fun i => i ≤ R) (fun i => R - i) 0 (by omega) ?_ ?_
      · rw [show A.flatMap putL ++ ((areaN at_ rs).take 0).flatMap putL = A.flatMap putL by simp, Nat.add_zero]
        exact sb
      · intro i hi
        by_cases hlt : i < R
        · have hrow : (((rs.flatMap secL).drop (0 + (i : Int).toNat * 64)).take 64).map PV.bare = secL (rs.getD i default) := by
            rw [show 0 + (i : Int).toNat * 64 = i * 64 by omega, flatMap_row (fun _ => secL_len _) (x := rs.getD i default) (by rw [List.getD_eq_getElem?_getD, List.getElem?_eq_getElem (by omega)]; rfl), secL_bare]
          have hlen : (rs.flatMap secL).length = R * 64 := by rw [flatMap_len (fun _ => secL_len _), a4]
          refine wg ?_
          refine PW.region typeTab_ok (by kernel_rfl) ?_
          refine wg ?_
          refine PW.region typeTab_ok (by kernel_rfl) ?_
          ((with_reducible refine PWops.idd ?_) ; first | (first | refine PWops.stepA rfl ?_ | refine PWops.doneI rfl ?_ | refine PWops.boolK true rfl rfl rfl rfl (by (first | rfl | assumption | (simp only [decide_eq_true_eq, decide_eq_false_iff_not, bne_iff_ne, beq_iff_eq, beq_eq_false_iff_ne, bne_eq_false_iff_eq, ne_eq] ; omega))) rfl ?_ | refine PWops.boolK false rfl rfl rfl rfl (by (first | rfl | assumption | (simp only [decide_eq_true_eq, decide_eq_false_iff_not, bne_iff_ne, beq_iff_eq, beq_eq_false_iff_ne, bne_eq_false_iff_eq, ne_eq] ; omega))) rfl ?_ | refine PWops.fitsK rfl rfl rfl rfl (by (first | omega | (dsimp only ; omega))) (by (first | omega | (dsimp only ; omega))) rfl ?_ | refine PWops.remK rfl rfl rfl rfl (by (first | omega | (dsimp only ; omega))) rfl ?_ | refine PWops.quoK rfl rfl rfl rfl (by (first | omega | (dsimp only ; omega))) rfl ?_ | refine PWops.app rfl rfl rfl rfl rfl rfl rfl rfl (by (first | omega | (dsimp only ; omega))) (by (first | omega | (dsimp only ; omega))) (by first | rfl | exact secL_one _ | exact putL_one _ | exact one_pint _ | exact one_pstr _ | exact one_pbyte _ | exact one_pattrs _) ?_ | refine PWops.app0 rfl rfl rfl rfl rfl rfl rfl rfl (by (first | omega | (dsimp only ; omega))) (by (first | omega | (dsimp only ; omega))) (by first | rfl | exact secL_one _ | exact putL_one _ | exact one_pint _ | exact one_pstr _ | exact one_pbyte _ | exact one_pattrs _) ?_ | refine PWops.idx1 rfl rfl rfl rfl rfl rfl rfl rfl (by (first | omega | (dsimp only ; omega))) ?_ | refine PWops.idx rfl rfl rfl rfl rfl rfl rfl rfl (by (first | omega | (dsimp only ; omega))) ?_ | refine PWops.ld rfl rfl rfl rfl rfl rfl rfl (by assumption) rfl ?_ | refine PWops.ldA rfl rfl rfl rfl rfl rfl (by (first | omega | (dsimp only ; omega))) (by assumption) ?_ | refine PWops.str rfl rfl rfl rfl rfl rfl rfl rfl rfl rfl rfl ?_) | (first | refine PWops.arU rfl rfl rfl rfl rfl rfl ?_ | refine PWops.boxA rfl rfl rfl rfl rfl (by (first | rfl | exact secL_one _ | exact dcellL_one _ | exact putL_one _ | exact one_map (fun _ => rfl) _)) (by (first | rfl | exact secL_bare _ | exact dcellL_bare _ | exact putL_bare _ | exact bare_map (fun _ => rfl) _)) ?_ | refine PWops.litA rfl rfl rfl rfl rfl rfl rfl (by (first | rfl | exact secL_len _ | exact dcellL_len _ | exact putL_len _ | exact len_map (by assumption) | exact len_map rfl)) rfl rfl rfl (by (first | rfl | exact secL_one _ | exact dcellL_one _ | exact putL_one _ | exact one_map (fun _ => rfl) _)) (by (first | rfl | exact secL_bare _ | exact dcellL_bare _ | exact putL_bare _ | exact bare_map (fun _ => rfl) _)) ?_ | refine PWops.shlK rfl rfl rfl rfl rfl rfl (by (first | omega | (dsimp only ; omega) | decide)) ?_ | refine PWops.shrK rfl rfl rfl rfl rfl rfl (by (first | omega | (dsimp only ; omega) | decide)) ?_ | refine PWops.ldBC rfl rfl rfl rfl rfl rfl rfl rfl (by (first | exact secL_len | exact dcellL_len | exact putL_len | (intro; rfl))) (by (first | omega | (dsimp only ; omega))) (by (first | rfl | exact dcellL_64 _)) rfl ?_ | refine PWops.ldRB rfl rfl rfl rfl rfl rfl (by (first | exact secL_len | exact dcellL_len | exact putL_len | (intro; rfl))) (by (first | omega | (dsimp only ; omega))) (by (first | exact secL_bare | exact dcellL_bare | exact putL_bare | (intro; rfl))) ?_ | refine PWops.ldSec rfl rfl rfl rfl rfl rfl rfl (by (first | omega | (dsimp only ; omega))) ?_ | refine PWops.ldBR rfl rfl rfl rfl rfl rfl rfl (by (first | exact secL_len | exact dcellL_len | exact putL_len | (intro; rfl))) (by (first | omega | (dsimp only ; omega))) (by (first | exact secL_bare _ | exact dcellL_bare _ | exact putL_bare _ | rfl)) ?_ | refine PWops.lkp rfl rfl rfl rfl rfl rfl rfl rfl rfl rfl rfl (by assumption) ?_ | refine PWops.ldAll rfl rfl rfl rfl rfl rfl rfl (by (first | rfl | exact secL_len _ | exact dcellL_len _ | exact putL_len _ | exact len_map (by assumption) | exact len_map rfl)) (by (first | rfl | exact secL_bare _ | exact dcellL_bare _ | exact putL_bare _ | exact bare_map (fun _ => rfl) _)) ?_ | refine PWops.stAll rfl rfl rfl rfl rfl rfl rfl rfl rfl (by (first | rfl | exact secL_len _ | exact dcellL_len _ | exact putL_len _ | exact len_map (by assumption) | exact len_map rfl)) (by (first | rfl | exact secL_len _ | exact dcellL_len _ | exact putL_len _ | exact len_map (by assumption) | exact len_map rfl)) (by (first | rfl | exact secL_one _ | exact dcellL_one _ | exact putL_one _ | exact one_map (fun _ => rfl) _)) (by (first | rfl | exact secL_bare _ | exact dcellL_bare _ | exact putL_bare _ | exact bare_map (fun _ => rfl) _)) ?_ | refine PWops.idxM rfl rfl rfl rfl rfl rfl rfl rfl (by (first | omega | (dsimp only ; omega))) ?_ | refine PWops.idxP1 rfl rfl rfl rfl rfl rfl rfl rfl (by (first | omega | (dsimp only ; omega))) ?_ | refine PWops.idxP rfl rfl rfl rfl rfl rfl rfl rfl (by (first | omega | (dsimp only ; omega))) ?_ | (refine PWops.call rfl rfl rfl (by assumption) ?_) | (refine PWops.callR rfl rfl (by assumption) (by (first | exact trivial | exact ⟨⟨rfl, rfl⟩, trivial⟩ | exact ⟨⟨rfl, rfl⟩, ⟨rfl, rfl⟩, trivial⟩ | exact ⟨⟨rfl, rfl⟩, ⟨rfl, rfl⟩, ⟨rfl, rfl⟩, trivial⟩ | exact ⟨⟨rfl, rfl⟩, ⟨rfl, rfl⟩, ⟨rfl, rfl⟩, ⟨rfl, rfl⟩, trivial⟩ | exact ⟨⟨rfl, rfl⟩, ⟨rfl, rfl⟩, ⟨rfl, rfl⟩, ⟨rfl, rfl⟩, ⟨rfl, rfl⟩, trivial⟩ | exact ⟨⟨rfl, rfl⟩, ⟨rfl, rfl⟩, ⟨rfl, rfl⟩, ⟨rfl, rfl⟩, ⟨rfl, rfl⟩, ⟨rfl, rfl⟩, trivial⟩ | exact ⟨⟨rfl, rfl⟩, ⟨rfl, rfl⟩, ⟨rfl, rfl⟩, ⟨rfl, rfl⟩, ⟨rfl, rfl⟩, ⟨rfl, rfl⟩, ⟨rfl, rfl⟩, trivial⟩ | exact ⟨⟨rfl, rfl⟩, ⟨rfl, rfl⟩, ⟨rfl, rfl⟩, ⟨rfl, rfl⟩, ⟨rfl, rfl⟩, ⟨rfl, rfl⟩, ⟨rfl, rfl⟩, ⟨rfl, rfl⟩, trivial⟩)) (by (first | exact trivial | exact ⟨⟨rfl, rfl⟩, trivial⟩ | exact ⟨⟨rfl, rfl⟩, ⟨rfl, rfl⟩, trivial⟩ | exact ⟨⟨rfl, rfl⟩, ⟨rfl, rfl⟩, ⟨rfl, rfl⟩, trivial⟩ | exact ⟨⟨rfl, rfl⟩, ⟨rfl, rfl⟩, ⟨rfl, rfl⟩, ⟨rfl, rfl⟩, trivial⟩ | exact ⟨⟨rfl, rfl⟩, ⟨rfl, rfl⟩, ⟨rfl, rfl⟩, ⟨rfl, rfl⟩, ⟨rfl, rfl⟩, trivial⟩ | exact ⟨⟨rfl, rfl⟩, ⟨rfl, rfl⟩, ⟨rfl, rfl⟩, ⟨rfl, rfl⟩, ⟨rfl, rfl⟩, ⟨rfl, rfl⟩, trivial⟩ | exact ⟨⟨rfl, rfl⟩, ⟨rfl, rfl⟩, ⟨rfl, rfl⟩, ⟨rfl, rfl⟩, ⟨rfl, rfl⟩, ⟨rfl, rfl⟩, ⟨rfl, rfl⟩, trivial⟩ | exact ⟨⟨rfl, rfl⟩, ⟨rfl, rfl⟩, ⟨rfl, rfl⟩, ⟨rfl, rfl⟩, ⟨rfl, rfl⟩, ⟨rfl, rfl⟩, ⟨rfl, rfl⟩, ⟨rfl, rfl⟩, trivial⟩)) rfl (by first | exact .inl rfl | exact .inr (fun _ _ => rfl)) ?_) | (refine PWops.callH rfl rfl (by assumption) (by (first | exact trivial | exact ⟨⟨rfl, rfl⟩, trivial⟩ | exact ⟨⟨rfl, rfl⟩, ⟨rfl, rfl⟩, trivial⟩ | exact ⟨⟨rfl, rfl⟩, ⟨rfl, rfl⟩, ⟨rfl, rfl⟩, trivial⟩ | exact ⟨⟨rfl, rfl⟩, ⟨rfl, rfl⟩, ⟨rfl, rfl⟩, ⟨rfl, rfl⟩, trivial⟩ | exact ⟨⟨rfl, rfl⟩, ⟨rfl, rfl⟩, ⟨rfl, rfl⟩, ⟨rfl, rfl⟩, ⟨rfl, rfl⟩, trivial⟩ | exact ⟨⟨rfl, rfl⟩, ⟨rfl, rfl⟩, ⟨rfl, rfl⟩, ⟨rfl, rfl⟩, ⟨rfl, rfl⟩, ⟨rfl, rfl⟩, trivial⟩ | exact ⟨⟨rfl, rfl⟩, ⟨rfl, rfl⟩, ⟨rfl, rfl⟩, ⟨rfl, rfl⟩, ⟨rfl, rfl⟩, ⟨rfl, rfl⟩, ⟨rfl, rfl⟩, trivial⟩ | exact ⟨⟨rfl, rfl⟩, ⟨rfl, rfl⟩, ⟨rfl, rfl⟩, ⟨rfl, rfl⟩, ⟨rfl, rfl⟩, ⟨rfl, rfl⟩, ⟨rfl, rfl⟩, ⟨rfl, rfl⟩, trivial⟩)) (by (first | exact trivial | exact ⟨⟨rfl, rfl⟩, trivial⟩ | exact ⟨⟨rfl, rfl⟩, ⟨rfl, rfl⟩, trivial⟩ | exact ⟨⟨rfl, rfl⟩, ⟨rfl, rfl⟩, ⟨rfl, rfl⟩, trivial⟩ | exact ⟨⟨rfl, rfl⟩, ⟨rfl, rfl⟩, ⟨rfl, rfl⟩, ⟨rfl, rfl⟩, trivial⟩ | exact ⟨⟨rfl, rfl⟩, ⟨rfl, rfl⟩, ⟨rfl, rfl⟩, ⟨rfl, rfl⟩, ⟨rfl, rfl⟩, trivial⟩ | exact ⟨⟨rfl, rfl⟩, ⟨rfl, rfl⟩, ⟨rfl, rfl⟩, ⟨rfl, rfl⟩, ⟨rfl, rfl⟩, ⟨rfl, rfl⟩, trivial⟩ | exact ⟨⟨rfl, rfl⟩, ⟨rfl, rfl⟩, ⟨rfl, rfl⟩, ⟨rfl, rfl⟩, ⟨rfl, rfl⟩, ⟨rfl, rfl⟩, ⟨rfl, rfl⟩, trivial⟩ | exact ⟨⟨rfl, rfl⟩, ⟨rfl, rfl⟩, ⟨rfl, rfl⟩, ⟨rfl, rfl⟩, ⟨rfl, rfl⟩, ⟨rfl, rfl⟩, ⟨rfl, rfl⟩, ⟨rfl, rfl⟩, trivial⟩)) rfl (by first | exact .inl rfl | exact .inr (fun _ _ => rfl)) ?_) | refine PWops.idxZ1 rfl rfl rfl rfl rfl rfl rfl rfl (by (first | omega | (dsimp only ; omega))) ?_ | refine PWops.idxZ rfl rfl rfl rfl rfl rfl rfl rfl (by (first | omega | (dsimp only ; omega))) ?_ | refine PWops.ld rfl rfl rfl rfl rfl rfl rfl rfl rfl ?_ | refine PWops.slcL rfl rfl rfl rfl rfl rfl rfl rfl (by (first | omega | (dsimp only ; omega))) ?_ | refine PWops.slcH rfl rfl rfl rfl rfl rfl rfl rfl (by (first | omega | (dsimp only ; omega))) ?_ | refine PWops.slcRL rfl rfl rfl rfl rfl rfl rfl rfl (by intro; rfl) (by (first | omega | (dsimp only ; omega))) ?_ | refine PWops.slcRH rfl rfl rfl rfl rfl rfl rfl rfl (by intro; rfl) (by (first | omega | (dsimp only ; omega))) ?_ | refine PWops.slcM rfl rfl rfl rfl rfl rfl rfl rfl rfl (by (first | omega | (dsimp only ; omega))) ?_ | refine PWops.ldM rfl rfl rfl rfl rfl rfl rfl (by (first | omega | (dsimp only ; omega))) rfl ?_ | refine PWops.ldR rfl rfl rfl rfl rfl rfl rfl (by (first | exact secL_len | exact dcellL_len | exact putL_len | (intro; rfl))) (by (first | omega | (dsimp only ; omega))) rfl rfl ?_ | refine PWops.ldRA rfl rfl rfl rfl rfl rfl (by intro; rfl) (by (first | omega | (dsimp only ; omega))) rfl ?_ | refine PWops.slcP rfl rfl rfl rfl rfl rfl rfl rfl rfl (by decide) ?_ | refine PWops.idxE1 rfl rfl rfl rfl rfl rfl rfl rfl (by (first | omega | (dsimp only ; omega))) ?_ | refine PWops.ldG rfl rfl rfl rfl rfl rfl (by (first | rfl | exact secL_len _ | exact dcellL_len _ | exact putL_len _ | exact len_map (by assumption) | exact len_map rfl)) (by (first | rfl | exact secL_bare _ | exact dcellL_bare _ | exact putL_bare _ | exact bare_map (fun _ => rfl) _)) ?_ | refine PWops.ldMB rfl rfl rfl rfl rfl rfl rfl rfl (by (first | omega | (dsimp only ; omega))) rfl rfl ?_ | refine PWops.stMB rfl rfl rfl rfl rfl rfl rfl rfl rfl rfl (by (first | omega | (dsimp only ; omega))) ?_ | refine PWops.idxV rfl rfl rfl rfl rfl rfl rfl rfl (by (first | omega | (dsimp only ; omega))) rfl ?_))
          ((with_reducible refine PWops.idd ?_) ; first | (first | refine PWops.stepA rfl ?_ | refine PWops.doneI rfl ?_ | refine PWops.boolK true rfl rfl rfl rfl (by (first | rfl | assumption | (simp only [decide_eq_true_eq, decide_eq_false_iff_not, bne_iff_ne, beq_iff_eq, beq_eq_false_iff_ne, bne_eq_false_iff_eq, ne_eq] ; omega))) rfl ?_ | refine PWops.boolK false rfl rfl rfl rfl (by (first | rfl | assumption | (simp only [decide_eq_true_eq, decide_eq_false_iff_not, bne_iff_ne, beq_iff_eq, beq_eq_false_iff_ne, bne_eq_false_iff_eq, ne_eq] ; omega))) rfl ?_ | refine PWops.fitsK rfl rfl rfl rfl (by (first | omega | (dsimp only ; omega))) (by (first | omega | (dsimp only ; omega))) rfl ?_ | refine PWops.remK rfl rfl rfl rfl (by (first | omega | (dsimp only ; omega))) rfl ?_ | refine PWops.quoK rfl rfl rfl rfl (by (first | omega | (dsimp only ; omega))) rfl ?_ | refine PWops.app rfl rfl rfl rfl rfl rfl rfl rfl (by (first | omega | (dsimp only ; omega))) (by (first | omega | (dsimp only ; omega))) (by first | rfl | exact secL_one _ | exact putL_one _ | exact one_pint _ | exact one_pstr _ | exact one_pbyte _ | exact one_pattrs _) ?_ | refine PWops.app0 rfl rfl rfl rfl rfl rfl rfl rfl (by (first | omega | (dsimp only ; omega))) (by (first | omega | (dsimp only ; omega))) (by first | rfl | exact secL_one _ | exact putL_one _ | exact one_pint _ | exact one_pstr _ | exact one_pbyte _ | exact one_pattrs _) ?_ | refine PWops.idx1 rfl rfl rfl rfl rfl rfl rfl rfl (by (first | omega | (dsimp only ; omega))) ?_ | refine PWops.idx rfl rfl rfl rfl rfl rfl rfl rfl (by (first | omega | (dsimp only ; omega))) ?_ | refine PWops.ld rfl rfl rfl rfl rfl rfl rfl (by assumption) rfl ?_ | refine PWops.ldA rfl rfl rfl rfl rfl rfl (by (first | omega | (dsimp only ; omega))) (by assumption) ?_ | refine PWops.str rfl rfl rfl rfl rfl rfl rfl rfl rfl rfl rfl ?_) | (first | refine PWops.arU rfl rfl rfl rfl rfl rfl ?_ | refine PWops.boxA rfl rfl rfl rfl rfl (by (first | rfl | exact secL_one _ | exact dcellL_one _ | exact putL_one _ | exact one_map (fun _ => rfl) _)) (by (first | rfl | exact secL_bare _ | exact dcellL_bare _ | exact putL_bare _ | exact bare_map (fun _ => rfl) _)) ?_ | refine PWops.litA rfl rfl rfl rfl rfl rfl rfl (by (first | rfl | exact secL_len _ | exact dcellL_len _ | exact putL_len _ | exact len_map (by assumption) | exact len_map rfl)) rfl rfl rfl (by (first | rfl | exact secL_one _ | exact dcellL_one _ | exact putL_one _ | exact one_map (fun _ => rfl) _)) (by (first | rfl | exact secL_bare _ | exact dcellL_bare _ | exact putL_bare _ | exact bare_map (fun _ => rfl) _)) ?_ | refine PWops.shlK rfl rfl rfl rfl rfl rfl (by (first | omega | (dsimp only ; omega) | decide)) ?_ | refine PWops.shrK rfl rfl rfl rfl rfl rfl (by (first | omega | (dsimp only ; omega) | decide)) ?_ | refine PWops.ldBC rfl rfl rfl rfl rfl rfl rfl rfl (by (first | exact secL_len | exact dcellL_len | exact putL_len | (intro; rfl))) (by (first | omega | (dsimp only ; omega))) (by (first | rfl | exact dcellL_64 _)) rfl ?_ | refine PWops.ldRB rfl rfl rfl rfl rfl rfl (by (first | exact secL_len | exact dcellL_len | exact putL_len | (intro; rfl))) (by (first | omega | (dsimp only ; omega))) (by (first | exact secL_bare | exact dcellL_bare | exact putL_bare | (intro; rfl))) ?_ | refine PWops.ldSec rfl rfl rfl rfl rfl rfl rfl (by (first | omega | (dsimp only ; omega))) ?_ | refine PWops.ldBR rfl rfl rfl rfl rfl rfl rfl (by (first | exact secL_len | exact dcellL_len | exact putL_len | (intro; rfl))) (by (first | omega | (dsimp only ; omega))) (by (first | exact secL_bare _ | exact dcellL_bare _ | exact putL_bare _ | rfl)) ?_ | refine PWops.lkp rfl rfl rfl rfl rfl rfl rfl rfl rfl rfl rfl (by assumption) ?_ | refine PWops.ldAll rfl rfl rfl rfl rfl rfl rfl (by (first | rfl | exact secL_len _ | exact dcellL_len _ | exact putL_len _ | exact len_map (by assumption) | exact len_map rfl)) (by (first | rfl | exact secL_bare _ | exact dcellL_bare _ | exact putL_bare _ | exact bare_map (fun _ => rfl) _)) ?_ | refine PWops.stAll rfl rfl rfl rfl rfl rfl rfl rfl rfl (by (first | rfl | exact secL_len _ | exact dcellL_len _ | exact putL_len _ | exact len_map (by assumption) | exact len_map rfl)) (by (first | rfl | exact secL_len _ | exact dcellL_len _ | exact putL_len _ | exact len_map (by assumption) | exact len_map rfl)) (by (first | rfl | exact secL_one _ | exact dcellL_one _ | exact putL_one _ | exact one_map (fun _ => rfl) _)) (by (first | rfl | exact secL_bare _ | exact dcellL_bare _ | exact putL_bare _ | exact bare_map (fun _ => rfl) _)) ?_ | refine PWops.idxM rfl rfl rfl rfl rfl rfl rfl rfl (by (first | omega | (dsimp only ; omega))) ?_ | refine PWops.idxP1 rfl rfl rfl rfl rfl rfl rfl rfl (by (first | omega | (dsimp only ; omega))) ?_ | refine PWops.idxP rfl rfl rfl rfl rfl rfl rfl rfl (by (first | omega | (dsimp only ; omega))) ?_ | (refine PWops.call rfl rfl rfl (by assumption) ?_) | (refine PWops.callR rfl rfl (by assumption) (by (first | exact trivial | exact ⟨⟨rfl, rfl⟩, trivial⟩ | exact ⟨⟨rfl, rfl⟩, ⟨rfl, rfl⟩, trivial⟩ | exact ⟨⟨rfl, rfl⟩, ⟨rfl, rfl⟩, ⟨rfl, rfl⟩, trivial⟩ | exact ⟨⟨rfl, rfl⟩, ⟨rfl, rfl⟩, ⟨rfl, rfl⟩, ⟨rfl, rfl⟩, trivial⟩ | exact ⟨⟨rfl, rfl⟩, ⟨rfl, rfl⟩, ⟨rfl, rfl⟩, ⟨rfl, rfl⟩, ⟨rfl, rfl⟩, trivial⟩ | exact ⟨⟨rfl, rfl⟩, ⟨rfl, rfl⟩, ⟨rfl, rfl⟩, ⟨rfl, rfl⟩, ⟨rfl, rfl⟩, ⟨rfl, rfl⟩, trivial⟩ | exact ⟨⟨rfl, rfl⟩, ⟨rfl, rfl⟩, ⟨rfl, rfl⟩, ⟨rfl, rfl⟩, ⟨rfl, rfl⟩, ⟨rfl, rfl⟩, ⟨rfl, rfl⟩, trivial⟩ | exact ⟨⟨rfl, rfl⟩, ⟨rfl, rfl⟩, ⟨rfl, rfl⟩, ⟨rfl, rfl⟩, ⟨rfl, rfl⟩, ⟨rfl, rfl⟩, ⟨rfl, rfl⟩, ⟨rfl, rfl⟩, trivial⟩)) (by (first | exact trivial | exact ⟨⟨rfl, rfl⟩, trivial⟩ | exact ⟨⟨rfl, rfl⟩, ⟨rfl, rfl⟩, trivial⟩ | exact ⟨⟨rfl, rfl⟩, ⟨rfl, rfl⟩, ⟨rfl, rfl⟩, trivial⟩ | exact ⟨⟨rfl, rfl⟩, ⟨rfl, rfl⟩, ⟨rfl, rfl⟩, ⟨rfl, rfl⟩, trivial⟩ | exact ⟨⟨rfl, rfl⟩, ⟨rfl, rfl⟩, ⟨rfl, rfl⟩, ⟨rfl, rfl⟩, ⟨rfl, rfl⟩, trivial⟩ | exact ⟨⟨rfl, rfl⟩, ⟨rfl, rfl⟩, ⟨rfl, rfl⟩, ⟨rfl, rfl⟩, ⟨rfl, rfl⟩, ⟨rfl, rfl⟩, trivial⟩ | exact ⟨⟨rfl, rfl⟩, ⟨rfl, rfl⟩, ⟨rfl, rfl⟩, ⟨rfl, rfl⟩, ⟨rfl, rfl⟩, ⟨rfl, rfl⟩, ⟨rfl, rfl⟩, trivial⟩ | exact ⟨⟨rfl, rfl⟩, ⟨rfl, rfl⟩, ⟨rfl, rfl⟩, ⟨rfl, rfl⟩, ⟨rfl, rfl⟩, ⟨rfl, rfl⟩, ⟨rfl, rfl⟩, ⟨rfl, rfl⟩, trivial⟩)) rfl (by first | exact .inl rfl | exact .inr (fun _ _ => rfl)) ?_) | (refine PWops.callH rfl rfl (by assumption) (by (first | exact trivial | exact ⟨⟨rfl, rfl⟩, trivial⟩ | exact ⟨⟨rfl, rfl⟩, ⟨rfl, rfl⟩, trivial⟩ | exact ⟨⟨rfl, rfl⟩, ⟨rfl, rfl⟩, ⟨rfl, rfl⟩, trivial⟩ | exact ⟨⟨rfl, rfl⟩, ⟨rfl, rfl⟩, ⟨rfl, rfl⟩, ⟨rfl, rfl⟩, trivial⟩ | exact ⟨⟨rfl, rfl⟩, ⟨rfl, rfl⟩, ⟨rfl, rfl⟩, ⟨rfl, rfl⟩, ⟨rfl, rfl⟩, trivial⟩ | exact ⟨⟨rfl, rfl⟩, ⟨rfl, rfl⟩, ⟨rfl, rfl⟩, ⟨rfl, rfl⟩, ⟨rfl, rfl⟩, ⟨rfl, rfl⟩, trivial⟩ | exact ⟨⟨rfl, rfl⟩, ⟨rfl, rfl⟩, ⟨rfl, rfl⟩, ⟨rfl, rfl⟩, ⟨rfl, rfl⟩, ⟨rfl, rfl⟩, ⟨rfl, rfl⟩, trivial⟩ | exact ⟨⟨rfl, rfl⟩, ⟨rfl, rfl⟩, ⟨rfl, rfl⟩, ⟨rfl, rfl⟩, ⟨rfl, rfl⟩, ⟨rfl, rfl⟩, ⟨rfl, rfl⟩, ⟨rfl, rfl⟩, trivial⟩)) (by (first | exact trivial | exact ⟨⟨rfl, rfl⟩, trivial⟩ | exact ⟨⟨rfl, rfl⟩, ⟨rfl, rfl⟩, trivial⟩ | exact ⟨⟨rfl, rfl⟩, ⟨rfl, rfl⟩, ⟨rfl, rfl⟩, trivial⟩ | exact ⟨⟨rfl, rfl⟩, ⟨rfl, rfl⟩, ⟨rfl, rfl⟩, ⟨rfl, rfl⟩, trivial⟩ | exact ⟨⟨rfl, rfl⟩, ⟨rfl, rfl⟩, ⟨rfl, rfl⟩, ⟨rfl, rfl⟩, ⟨rfl, rfl⟩, trivial⟩ | exact ⟨⟨rfl, rfl⟩, ⟨rfl, rfl⟩, ⟨rfl, rfl⟩, ⟨rfl, rfl⟩, ⟨rfl, rfl⟩, ⟨rfl, rfl⟩, trivial⟩ | exact ⟨⟨rfl, rfl⟩, ⟨rfl, rfl⟩, ⟨rfl, rfl⟩, ⟨rfl, rfl⟩, ⟨rfl, rfl⟩, ⟨rfl, rfl⟩, ⟨rfl, rfl⟩, trivial⟩ | exact ⟨⟨rfl, rfl⟩, ⟨rfl, rfl⟩, ⟨rfl, rfl⟩, ⟨rfl, rfl⟩, ⟨rfl, rfl⟩, ⟨rfl, rfl⟩, ⟨rfl, rfl⟩, ⟨rfl, rfl⟩, trivial⟩)) rfl (by first | exact .inl rfl | exact .inr (fun _ _ => rfl)) ?_) | refine PWops.idxZ1 rfl rfl rfl rfl rfl rfl rfl rfl (by (first | omega | (dsimp only ; omega))) ?_ | refine PWops.idxZ rfl rfl rfl rfl rfl rfl rfl rfl (by (first | omega | (dsimp only ; omega))) ?_ | refine PWops.ld rfl rfl rfl rfl rfl rfl rfl rfl rfl ?_ | refine PWops.slcL rfl rfl rfl rfl rfl rfl rfl rfl (by (first | omega | (dsimp only ; omega))) ?_ | refine PWops.slcH rfl rfl rfl rfl rfl rfl rfl rfl (by (first | omega | (dsimp only ; omega))) ?_ | refine PWops.slcRL rfl rfl rfl rfl rfl rfl rfl rfl (by intro; rfl) (by (first | omega | (dsimp only ; omega))) ?_ | refine PWops.slcRH rfl rfl rfl rfl rfl rfl rfl rfl (by intro; rfl) (by (first | omega | (dsimp only ; omega))) ?_ | refine PWops.slcM rfl rfl rfl rfl rfl rfl rfl rfl rfl (by (first | omega | (dsimp only ; omega))) ?_ | refine PWops.ldM rfl rfl rfl rfl rfl rfl rfl (by (first | omega | (dsimp only ; omega))) rfl ?_ | refine PWops.ldR rfl rfl rfl rfl rfl rfl rfl (by (first | exact secL_len | exact dcellL_len | exact putL_len | (intro; rfl))) (by (first | omega | (dsimp only ; omega))) rfl rfl ?_ | refine PWops.ldRA rfl rfl rfl rfl rfl rfl (by intro; rfl) (by (first | omega | (dsimp only ; omega))) rfl ?_ | refine PWops.slcP rfl rfl rfl rfl rfl rfl rfl rfl rfl (by decide) ?_ | refine PWops.idxE1 rfl rfl rfl rfl rfl rfl rfl rfl (by (first | omega | (dsimp only ; omega))) ?_ | refine PWops.ldG rfl rfl rfl rfl rfl rfl (by (first | rfl | exact secL_len _ | exact dcellL_len _ | exact putL_len _ | exact len_map (by assumption) | exact len_map rfl)) (by (first | rfl | exact secL_bare _ | exact dcellL_bare _ | exact putL_bare _ | exact bare_map (fun _ => rfl) _)) ?_ | refine PWops.ldMB rfl rfl rfl rfl rfl rfl rfl rfl (by (first | omega | (dsimp only ; omega))) rfl rfl ?_ | refine PWops.stMB rfl rfl rfl rfl rfl rfl rfl rfl rfl rfl (by (first | omega | (dsimp only ; omega))) ?_ | refine PWops.idxV rfl rfl rfl rfl rfl rfl rfl rfl (by (first | omega | (dsimp only ; omega))) rfl ?_))
          refine PWops.ldBA (row := secL (rs.getD i default)) rfl rfl rfl rfl rfl rfl rfl (by rw [hlen]; omega) hrow ?_
          clear hrow
          obtain ⟨s, hs⟩ : ∃ s, s = rs.getD i default := ⟨_, rfl⟩
          rw [← hs]
          have hsl := secL_low s
          have hN : (areaN at_ rs).take (i + 1) = (areaN at_ rs).take i ++ [⟨at_ + 1 + i, s⟩] := by
            rw [take_getD default (by simp [areaN]; omega)]
            have : (areaN at_ rs).getD i default = ⟨at_ + 1 + i, s⟩ := by
              rw [areaN, List.getD_eq_getElem?_getD, List.getElem?_map, List.getElem?_range (by omega), hs]; rfl
            rw [this]
          clear hs
          refine wk ?_
          refine PWops.bld2 (out := putL ⟨at_ + 1 + (i : Int), s⟩) rfl rfl rfl rfl rfl rfl rfl rfl (fill_put _ _) ?_
          refine wk ?_
          refine loopP (i + 1) (by omega) (by omega) ?_
          have b6 : Low (.sl (l.length + i + 1) 65 (A.flatMap putL ++ ((areaN at_ rs).take i).flatMap putL ++ putL ⟨at_ + 1 + (i : Int), s⟩) (some 59)) := .sl _ _ _ _ (fun c hc => (List.mem_append.1 hc).elim (fun hc => (List.mem_append.1 hc).elim (flat_low putL_low _ c) (flat_low putL_low _ c)) (putL_low _ c))
          try dsimp only
          rw [hN, List.flatMap_append, show ([⟨at_ + 1 + (i : Int), s⟩] : List PPut).flatMap putL = putL ⟨at_ + 1 + (i : Int), s⟩ from List.append_nil _, ← List.append_assoc, ← Nat.add_assoc]
          exact sb
        · have e : i = R := by omega
          subst e
          have a7 : (areaN at_ rs).length = i := by simp [areaN, a4]
          rw [List.take_of_length_le (by omega), show pputs (A ++ areaN at_ rs) = .sl (l.length + i) 65 (A.flatMap putL ++ (areaN at_ rs).flatMap putL) none by rw [pputs, List.length_append, a6, a7, List.flatMap_append]]
          have b5 : Low (.sl (l.length + i) 65 (A.flatMap putL ++ (areaN at_ rs).flatMap putL) (some 59)) := .sl _ _ _ _ (fun c hc => (List.mem_append.1 hc).elim (flat_low putL_low _ c) (flat_low putL_low _ c))
          generalize A.flatMap putL ++ (areaN at_ rs).flatMap putL = B at *
          refine wk ?_
          exact RetH.mk rfl (Weak.refl _) ⟨⟨_, rfl, WeakL.refl _⟩, ⟨_, rfl, WeakL.refl _⟩, ⟨_, rfl, WeakL.refl _⟩, trivial⟩ ⟨⟨rfl, rfl⟩, trivial⟩
end Go.Proofs.YtilcpcpmkklobaaDoor

/- The journal: the area, for all numbers. -/
namespace Go.Proofs.YtilcpcpmkklobaaDoor
set_option linter.unusedSimpArgs false
set_option linter.unusedVariables false
set_option linter.unnecessarySimpa false
open Go.RowKit

theorem jc_area (at_ most : Int) (D : DM) (l : List PPut) (h0 : 0 ≤ at_) (h1 : at_ < 1000000000) (m0 : 1 ≤ most) (m1 : most ≤ 1024) (hl : l.length ≤ 1024) (hl0 : 0 < l.length) (d c m j : Nat) (hd : ([d, c, m, j] : List Nat).Nodup) : HCalls Tryd.prog 30 [.ptr j 0, pputs l] (jG d c m j at_ most D) (dMs m D) (pputs (areaJ at_ most l)) (jG d c m j at_ most D) (dMs m D) := by
  refine (jc_area1 at_ most D l h0 h1 m0 m1 hl hl0).at (ids4 d c m j) hd (by simp [ResIds, jG, dG, dMs, ids4]) (by simp [jG, dG]) (by simp [dMs]) ?_ ?_ ?_ ?_ ?_ ?_ <;> (repeat (first | exact RenL.nil | exact RenB.nil | exact RenMs.nil | exact RenMs.cons _ _ _ _ _ (RenM.low (dM_low _)) RenMs.nil | refine RenB.cons _ _ _ _ _ ?_ ?_ | exact RenL.low (dC_low _) | refine RenL.cons ?_ ?_ | exact Ren.ptr _ _ (by simp [ResIds, dG, dMs, jG]) | exact Ren.mref _ (by simp [ResIds, dG, dMs, jG]) | exact Ren.msl _ _ _ _ (by simp [ResIds, dG, dMs, jG]) | exact Ren.low _ (Low.val _) | exact Ren.low _ (low_pputs _) | exact Ren.low _ (psec_low _) | exact RenL.low (by assumption) | refine ren_agg ?_ | refine ren_fn ?_ | refine ren_sl ?_))
end Go.Proofs.YtilcpcpmkklobaaDoor

/- The hash: words, their operations; rotations; the schedule. -/
namespace Go.Proofs.YtilcpcpmkklobaaDoor
set_option linter.unusedSimpArgs false
set_option linter.unusedVariables false
set_option linter.unnecessarySimpa false
open Go.RowKit

def addU (a b : Int) : Int := IntKind.u32.wrap (a + b)
def xorU (a b : Int) : Int := IntKind.u32.wrap (BitVec.ofInt IntKind.u32.bits a ^^^ BitVec.ofInt IntKind.u32.bits b).toNat
def andU (a b : Int) : Int := IntKind.u32.wrap (BitVec.ofInt IntKind.u32.bits a &&& BitVec.ofInt IntKind.u32.bits b).toNat
def orU (a b : Int) : Int := IntKind.u32.wrap (BitVec.ofInt IntKind.u32.bits a ||| BitVec.ofInt IntKind.u32.bits b).toNat
def shlU (a : Int) (n : Nat) : Int := IntKind.u32.wrap (a * 2 ^ n)
def shrU (a : Int) (n : Nat) : Int := a.fdiv (2 ^ n)
def notU (a : Int) : Int := IntKind.u32.wrap (BitVec.ofInt IntKind.u32.bits 4294967295 ^^^ BitVec.ofInt IntKind.u32.bits a).toNat
def rotI (x : Int) (r : Nat) : Int := orU (shlU x (32 - r)) (shrU x r)

set_option maxRecDepth 10000 in
set_option maxHeartbeats 1000000 in
theorem pw_rotl (x : Int) (r : Nat) (hr : r ∈ [2, 6, 7, 11, 13, 17, 18, 19, 22, 25]) : PCalls Tryd.prog 74 [pu32 x, pint (-(r : Int))] (· = pu32 (rotI x r)) := by
  refine pcalls_of_pw typeTab_ok Tryd.func74 rfl (by kernel_rfl) (by exact lw) (by simp [pu32, pint, PV.ownB]) (Nat.le_of_ble_eq_true rfl) ?_
  simp only [List.mem_cons, List.not_mem_nil, or_false] at hr
  rcases hr with rfl | rfl | rfl | rfl | rfl | rfl | rfl | rfl | rfl | rfl
  all_goals
    refine wk ?_
    refine retP rfl (by exact lw) rfl

def mixI (x : Int) (i j k : Nat) : Int := xorU (xorU (rotI x i) (rotI x j)) (rotI x k)
set_option maxRecDepth 10000 in
set_option maxHeartbeats 1000000 in
theorem pw_mixA (x : Int) : PCalls Tryd.prog 67 [pu32 x, pint 6, pint 11, pint 25] (· = pu32 (mixI x 6 11 25)) := by
  refine pcalls_of_pw typeTab_ok Tryd.func67 rfl (by kernel_rfl) (by exact lw) (by simp [pu32, pint, PV.ownB]) (Nat.le_of_ble_eq_true rfl) ?_
  have r1 := pw_rotl x 6 (by simp)
  have r2 := pw_rotl x 11 (by simp)
  have r3 := pw_rotl x 25 (by simp)
  refine wk ?_
  refine retP rfl (by exact lw) rfl
set_option maxRecDepth 10000 in
set_option maxHeartbeats 1000000 in
theorem pw_mixB (x : Int) : PCalls Tryd.prog 67 [pu32 x, pint 2, pint 13, pint 22] (· = pu32 (mixI x 2 13 22)) := by
  refine pcalls_of_pw typeTab_ok Tryd.func67 rfl (by kernel_rfl) (by exact lw) (by simp [pu32, pint, PV.ownB]) (Nat.le_of_ble_eq_true rfl) ?_
  have r1 := pw_rotl x 2 (by simp)
  have r2 := pw_rotl x 13 (by simp)
  have r3 := pw_rotl x 22 (by simp)
  refine wk ?_
  refine retP rfl (by exact lw) rfl

def beI (l : List Int) : Int := l.foldl (fun a x => orU (shlU a 8) (IntKind.u32.wrap x)) 0
def sigI (x : Int) (i j k : Nat) : Int := xorU (xorU (rotI x i) (rotI x j)) (shrU x k)
def schV (W : List Int) (t : Nat) : Int := addU (addU (addU (W.getD (t - 16) 0) (sigI (W.getD (t - 15) 0) 7 18 3)) (W.getD (t - 7) 0)) (sigI (W.getD (t - 2) 0) 17 19 10)
def schW (b : List Int) : Nat → List Int
  | 0 => List.replicate 64 0
  | t + 1 => (schW b t).set t (if t < 16 then beI ((b.drop (4 * t)).take 4) else schV (schW b t) t)
theorem schW_len (b : List Int) : ∀ t, (schW b t).length = 64
  | 0 => by simp [schW]
  | t + 1 => by rw [schW, List.length_set, schW_len b t]
def schI (W C : List Int) (t j : Nat) : List Int := W.set t (beI (C.take j))
theorem hgetD_set {l : List Int} {t : Nat} {x d : Int} (h : t < l.length) : (l.set t x).getD t d = x := by
  rw [List.getD_eq_getElem?_getD, List.getElem?_set_self h]; rfl
theorem beI_succ {C : List Int} {j : Nat} (h : j < C.length) : beI (C.take (j + 1)) = orU (shlU (beI (C.take j)) 8) (IntKind.u32.wrap (C.getD j default)) := by
  rw [take_getD default h, beI, List.foldl_append]; rfl
theorem schI_succ {W C : List Int} {t j : Nat} (ht : t < W.length) (h : j < C.length) : schI W C t (j + 1) = (schI W C t j).set t (orU (shlU ((schI W C t j).getD t default) 8) (IntKind.u32.wrap (C.getD j default))) := by
  rw [schI, schI, hgetD_set ht, List.set_set, beI_succ h]
theorem schI_zero {W : List Int} (C : List Int) {t : Nat} (h : W[t]? = some 0) : W = schI W C t 0 := by
  rw [schI, List.take_zero]
  show W = W.set t 0
  apply List.ext_getElem?
  intro i
  rw [List.getElem?_set]
  split
  · subst i; rw [h]; have := (List.getElem?_eq_some_iff.1 h).1; simp [this]
  · rfl
theorem schW_zero (b : List Int) : ∀ t k, t ≤ k → k < 64 → (schW b t)[k]? = some 0
  | 0, k, _, h => by rw [schW, List.getElem?_replicate]; simp [h]
  | t + 1, k, h1, h2 => by rw [schW, List.getElem?_set, if_neg (by omega)]; exact schW_zero b t k (by omega) h2

set_option maxRecDepth 10000 in
set_option maxHeartbeats 2000000 in
theorem pw_schedule (b : List Int) (hb : b.length = 64) : PCalls Tryd.prog 66 [pbytes b] (· = .agg ((schW b 64).map pu32)) := by
  refine pcalls_of_pw typeTab_ok Tryd.func66 rfl (by kernel_rfl) (by exact lw) (by simp [pbytes, PV.ownB]) (Nat.le_of_ble_eq_true rfl) ?_
  refine wk ?_
  refine PW.loop (fun t : Nat => (((((bot.setb 0 (List.replicate 64 (pu32 0))).put 2 (.ptr 0 0)).setb 1000 ((schW b t).map pu32)).put 3 (.ptr 1000 0)).put 0 (pbytes b)).put 11 (pint t)) (fun t => t ≤ 64) (fun t => 64 - t) 0 (by omega) ?_ ?_
  · exact sb
  · intro t ht
    have hl := schW_len b t
    by_cases h64 : t < 64
    · by_cases h16 : t < 16
      · obtain ⟨C, hC⟩ : ∃ C, C = (b.drop (4 * t)).take 4 := ⟨_, rfl⟩
        have hCl : C.length = 4 := by rw [hC, List.length_take, List.length_drop]; omega
        refine wk ?_
        rw [show List.take ((4 * (t : Int) + 4).toNat - (4 * (t : Int)).toNat) (List.drop (4 * (t : Int)).toNat b) = C by
          rw [hC]; congr 1 <;> omega]
        have h0 : (schI (schW b t) C t 0).map pu32 = (schW b t).map pu32 := by rw [← schI_zero C (schW_zero b t t (Nat.le_refl _) h64)]
        refine PW.loop (fun j : Nat => ((((((((bot.setb 0 (List.replicate 64 (pu32 0))).put 2 (.ptr 0 0)).setb 1000 ((schI (schW b t) C t j).map pu32)).put 3 (.ptr 1000 0)).put 0 (pbytes b)).put 11 (pint t)).put 4 (pint t)).put 22 (pbytes C)).put 23 (pint C.length) |>.put 24 (pint j)) (fun j => j ≤ 4) (fun j => 4 - j) 0 (by omega) ?_ ?_
        · exact sb
        · intro j hj
          have hl2 : (schI (schW b t) C t j).length = 64 := by rw [schI, List.length_set, hl]
          by_cases h4 : j < 4
          · have hS : (schI (schW b t) C t (j + 1)).map pu32 = ((schI (schW b t) C t j).set t (orU (shlU ((schI (schW b t) C t j).getD t default) 8) (IntKind.u32.wrap (C.getD j default)))).map pu32 := by rw [schI_succ (by omega) (by omega)]
            refine wk ?_
            refine loopP (j + 1) (by omega) (by omega) ?_
            exact sb
          · have e : j = 4 := by omega
            subst e
            have hS : (schW b (t + 1)).map pu32 = (schI (schW b t) C t 4).map pu32 := by
              rw [schW, if_pos h16, schI, ← hC, List.take_of_length_le (by omega)]
            generalize schI (schW b t) C t 4 = W4 at *
            refine wk ?_
            refine loopP (t + 1) (by omega) (by omega) ?_
            exact sb
      · have r1 := pw_rotl ((schW b t).getD ((t : Int) - 15).toNat default) 7 (by simp)
        have r2 := pw_rotl ((schW b t).getD ((t : Int) - 15).toNat default) 18 (by simp)
        have r3 := pw_rotl ((schW b t).getD ((t : Int) - 2).toNat default) 17 (by simp)
        have r4 := pw_rotl ((schW b t).getD ((t : Int) - 2).toNat default) 19 (by simp)
        have hS : (schW b (t + 1)).map pu32 = ((schW b t).set (t : Int).toNat (addU (addU (addU ((schW b t).getD ((t : Int) - 16).toNat default) (sigI ((schW b t).getD ((t : Int) - 15).toNat default) 7 18 3)) ((schW b t).getD ((t : Int) - 7).toNat default)) (sigI ((schW b t).getD ((t : Int) - 2).toNat default) 17 19 10))).map pu32 := by
          rw [schW, if_neg h16, schV, show ((t : Int) - 16).toNat = t - 16 by omega, show ((t : Int) - 15).toNat = t - 15 by omega, show ((t : Int) - 7).toNat = t - 7 by omega, show ((t : Int) - 2).toNat = t - 2 by omega]; rfl
        refine wk ?_
        refine loopP (t + 1) (by omega) (by omega) ?_
        exact sb
    · have e : t = 64 := by omega
      subst e
      generalize schW b 64 = W at *
      refine wk ?_
      exact ⟨_, presult1 (pres_cell rfl rfl rfl (len_map hl) (bare_map (fun _ => rfl) _)), by exact lw, rfl⟩
end Go.Proofs.YtilcpcpmkklobaaDoor

/- The hash: one block. -/
namespace Go.Proofs.YtilcpcpmkklobaaDoor
set_option linter.unusedSimpArgs false
set_option linter.unusedVariables false
set_option linter.unnecessarySimpa false
open Go.RowKit

structure H8 where
  (a b c d e f g h : Int)
def pH (s : H8) : List PV := [pu32 s.a, pu32 s.b, pu32 s.c, pu32 s.d, pu32 s.e, pu32 s.f, pu32 s.g, pu32 s.h]
theorem low_pH (s : H8) : ∀ c ∈ pH s, Low c := by intro c hc; simp [pH] at hc; rcases hc with rfl | rfl | rfl | rfl | rfl | rfl | rfl | rfl <;> exact .val _
def rndX (v : H8) (k w : Int) : Int := addU (addU (addU (addU v.h (mixI v.e 6 11 25)) (xorU (andU v.e v.f) (andU (notU v.e) v.g))) k) w
def rndY (v : H8) : Int := addU (mixI v.a 2 13 22) (xorU (xorU (andU v.a v.b) (andU v.a v.c)) (andU v.b v.c))
def rnd (v : H8) (k w : Int) : H8 := ⟨addU (rndX v k w) (rndY v), v.a, v.b, v.c, addU v.d (rndX v k w), v.e, v.f, v.g⟩
def rnds (ks ws : List Int) (v : H8) : Nat → H8
  | 0 => v
  | t + 1 => rnd (rnds ks ws v t) (ks.getD t default) (ws.getD t default)
def addH (s v : H8) : H8 := ⟨addU s.a v.a, addU s.b v.b, addU s.c v.c, addU s.d v.d, addU s.e v.e, addU s.f v.f, addU s.g v.g, addU s.h v.h⟩
def cmpH (ks : List Int) (s : H8) (b : List Int) : H8 := addH s (rnds ks (schW b 64) s 64)

set_option maxRecDepth 10000 in
set_option maxHeartbeats 2000000 in
theorem pw_compress (s : H8) (b : List Int) (hb : b.length = 64) : PCalls Tryd.prog 53 [.agg (pH s), pbytes b] (· = .agg (pH (cmpH glob0 s b))) := by
  refine pcalls_of_pw typeTab_ok Tryd.func53 rfl (by kernel_rfl) (by intro p hp; simp at hp; rcases hp with rfl | rfl; exact .agg _ (low_pH s); exact lw) (by simp [pbytes, PV.ownB]) (Nat.le_of_ble_eq_true rfl) ?_
  have hs := pw_schedule b hb
  have hg : glob0.length = 64 := rfl
  have hwl := schW_len b 64
  obtain ⟨W, hW⟩ : ∃ W, W = schW b 64 := ⟨_, rfl⟩
  rw [← hW] at hs hwl
  rw [show cmpH glob0 s b = addH s (rnds glob0 W s 64) by rw [cmpH, hW]]
  obtain ⟨G, hG⟩ : ∃ G, G = glob0 := ⟨_, rfl⟩
  refine wk ?_
  refine PW.loop (fun t : Nat => (((((((((((bot.setb 0 (pH s)).put 2 (.ptr 0 0)).setb 1 (List.replicate 8 (pu32 0))).put 4 (.ptr 1 0)).setb 1002 (W.map pu32)).put 5 (.ptr 1002 0)).setb 2006 [pu32 (rnds glob0 W s t).a, pu32 (rnds glob0 W s t).b, pu32 (rnds glob0 W s t).c, pu32 (rnds glob0 W s t).d]).setb 2007 [pu32 (rnds glob0 W s t).e, pu32 (rnds glob0 W s t).f, pu32 (rnds glob0 W s t).g, pu32 (rnds glob0 W s t).h]).put 6 (.ptr 2006 0)).put 7 (.ptr 2007 0)).put 21 (.agg (glob0.map pu32))).put 22 (pint t)) (fun t => t ≤ 64) (fun t => 64 - t) 0 (by omega) ?_ ?_
  · exact sb
  · intro t ht
    by_cases h64 : t < 64
    · obtain ⟨v, hv⟩ : ∃ v, v = rnds glob0 W s t := ⟨_, rfl⟩
      have hn : rnds glob0 W s (t + 1) = rnd v (glob0.getD t default) (W.getD t default) := by rw [rnds, hv]
      rw [← hv]
      have m1 := pw_mixA v.e
      have m2 := pw_mixB v.a
      refine wk ?_
      refine loopP (t + 1) (by omega) (by omega) ?_
      simp only [hn]
      exact sb
    · have e : t = 64 := by omega
      subst e
      generalize rnds glob0 W s 64 = v at *
      refine wk ?_
      refine PW.unroll ?_
      refine wk ?_
      refine loopU ?_
      refine wk ?_
      refine loopU ?_
      refine wk ?_
      refine loopU ?_
      refine wk ?_
      refine loopU ?_
      refine wk ?_
      refine ⟨_, presult1 (pres_cell rfl rfl rfl rfl rfl), .agg _ ?_, ?_⟩
      · exact low_pH (addH s v)
      · rfl
end Go.Proofs.YtilcpcpmkklobaaDoor

/- Plain lists: what the functions of the packages bits and antiquaryref11 compute, and lemmas on it. No program in sight. -/
namespace Go.Proofs.YtilcpcpmkklobaaDoor
set_option linter.unusedSimpArgs false
set_option linter.unusedVariables false
set_option linter.unnecessarySimpa false

def hasL : List Int → Int → Bool
  | a :: b :: r, x => (decide (a ≤ x) && decide (x < b)) || hasL r x
  | _, _ => false

theorem hasL_short (l : List Int) (x : Int) (h : l.length ≤ 1) : hasL l x = false := by
  match l with
  | [] => rfl
  | [_] => rfl
  | _ :: _ :: _ => simp at h

theorem drop_two {α : Type} (zs : List α) (k : Nat) (a b : α) (ha : zs[k]? = some a) (hb : zs[k+1]? = some b) : zs.drop k = a :: b :: zs.drop (k+2) := by
  obtain ⟨hk, rfl⟩ := List.getElem?_eq_some_iff.1 hb
  rw [List.drop_eq_getElem_cons (by omega), List.drop_eq_getElem_cons (by omega)]
  obtain ⟨hk', rfl⟩ := List.getElem?_eq_some_iff.1 ha
  rfl

theorem drop_one {α : Type} (zs : List α) (k : Nat) (a : α) (ha : zs[k]? = some a) : zs.drop k = a :: zs.drop (k+1) := by
  obtain ⟨hk, rfl⟩ := List.getElem?_eq_some_iff.1 ha
  rw [List.drop_eq_getElem_cons (by omega)]

theorem take_one {α : Type} (zs : List α) (k : Nat) (a : α) (ha : zs[k]? = some a) : zs.take (k+1) = zs.take k ++ [a] := by
  rw [List.take_add_one, ha]; rfl

theorem hasL_drop (zs : List Int) (k : Nat) (a b x : Int) (ha : zs[k]? = some a) (hb : zs[k+1]? = some b) :
    hasL (zs.drop k) x = ((decide (a ≤ x) && decide (x < b)) || hasL (zs.drop (k+2)) x) := by
  rw [drop_two zs k a b ha hb, hasL]

/-- Each element is greater than the one before it (the first: than lo) and at most 4096. -/
def ascB (lo : Int) : List Int → Bool
  | [] => true
  | z :: r => decide (lo < z) && decide (z ≤ 4096) && ascB z r

def validB (zs : List Int) : Bool := ascB (-1) zs && decide (zs.length % 2 = 0)

def prevAt (zs : List Int) (k : Nat) : Int := if k = 0 then -1 else zs.getD (k - 1) 0

theorem ascB_drop (zs : List Int) (k : Nat) (a lo : Int) (ha : zs[k]? = some a) : ascB lo (zs.drop k) = (decide (lo < a) && decide (a ≤ 4096) && ascB a (zs.drop (k+1))) := by
  rw [drop_one zs k a ha, ascB]

theorem prevAt_succ (zs : List Int) (k : Nat) (a : Int) (ha : zs[k]? = some a) : prevAt zs (k+1) = a := by
  simp [prevAt, ha]

theorem ascB_end (zs : List Int) (k : Nat) (lo : Int) (h : zs.length ≤ k) : ascB lo (zs.drop k) = true := by
  rw [List.drop_eq_nil_of_le h, ascB]

/-- What is known of a valid set. -/
structure Good (zs : List Int) : Prop where
  even : zs.length % 2 = 0
  len : zs.length ≤ 4097
  rng : ∀ (k : Nat) (y : Int), zs[k]? = some y → 0 ≤ y ∧ y ≤ 4096
  asc : ∀ (k : Nat) (y z : Int), zs[k]? = some y → zs[k+1]? = some z → y < z

theorem ascB_rng : ∀ (zs : List Int) (lo : Int), ascB lo zs = true → ∀ (k : Nat) (y : Int), zs[k]? = some y → lo < y ∧ y ≤ 4096
  | [], _, _, k, y, h => by simp at h
  | z :: r, lo, h, k, y, hk => by
    simp only [ascB, Bool.and_eq_true, decide_eq_true_eq] at h
    cases k with
    | zero => simp at hk; subst hk; exact h.1
    | succ k => have := ascB_rng r z h.2 k y (by simpa using hk); omega

theorem ascB_asc : ∀ (zs : List Int) (lo : Int), ascB lo zs = true → ∀ (k : Nat) (y z : Int), zs[k]? = some y → zs[k+1]? = some z → y < z
  | [], _, _, k, y, z, h, _ => by simp at h
  | x :: r, lo, h, k, y, z, hk, hk1 => by
    simp only [ascB, Bool.and_eq_true, decide_eq_true_eq] at h
    cases k with
    | zero => simp at hk; subst hk; exact (ascB_rng r x h.2 0 z (by simpa using hk1)).1
    | succ k => exact ascB_asc r x h.2 k y z (by simpa using hk) (by simpa using hk1)

theorem ascB_len : ∀ (zs : List Int) (lo : Int), ascB lo zs = true → lo ≤ 4096 → (zs.length : Int) ≤ 4096 - lo
  | [], lo, _, h => by simp; omega
  | z :: r, lo, h, _ => by
    simp only [ascB, Bool.and_eq_true, decide_eq_true_eq] at h
    have := ascB_len r z h.2 h.1.2
    simp; omega

theorem good_of_valid {zs : List Int} (h : validB zs = true) : Good zs := by
  simp only [validB, Bool.and_eq_true, decide_eq_true_eq] at h
  refine ⟨h.2, ?_, fun k y hk => ?_, ascB_asc zs (-1) h.1⟩
  · have := ascB_len zs (-1) h.1 (by omega); omega
  · have := ascB_rng zs (-1) h.1 k y hk; omega

def rankL : List Int → Int → Int
  | a :: b :: r, s => if a < s then (min b s - a) + rankL r s else 0
  | _, _ => 0

theorem rankL_drop (zs : List Int) (k : Nat) (a b s : Int) (ha : zs[k]? = some a) (hb : zs[k+1]? = some b) :
    rankL (zs.drop k) s = if a < s then (min b s - a) + rankL (zs.drop (k+2)) s else 0 := by
  rw [drop_two zs k a b ha hb, rankL]

theorem rankL_short (l : List Int) (x : Int) (h : l.length ≤ 1) : rankL l x = 0 := by
  match l with
  | [] => rfl
  | [_] => rfl
  | _ :: _ :: _ => simp at h

def selL : List Int → Int → Int
  | a :: b :: r, n => if b - a ≤ n then selL r (n - (b - a)) else a + n
  | _, _ => -1

theorem selL_drop (zs : List Int) (k : Nat) (a b s : Int) (ha : zs[k]? = some a) (hb : zs[k+1]? = some b) :
    selL (zs.drop k) s = if b - a ≤ s then selL (zs.drop (k+2)) (s - (b - a)) else a + s := by
  rw [drop_two zs k a b ha hb, selL]

theorem selL_short (l : List Int) (x : Int) (h : l.length ≤ 1) : selL l x = -1 := by
  match l with
  | [] => rfl
  | [_] => rfl
  | _ :: _ :: _ => simp at h

def selB (zs : List Int) (s : Int) : Int := if s < 0 then -1 else selL zs s

def sameFrom (a b : List Int) (k : Nat) : Bool := a.drop k == b.drop k

theorem sameFrom_step (a b : List Int) (k : Nat) (x y : Int) (ha : a[k]? = some x) (hb : b[k]? = some y) : sameFrom a b k = ((x == y) && sameFrom a b (k+1)) := by
  unfold sameFrom
  rw [drop_one a k x ha, drop_one b k y hb]
  rfl


/-- What bits.merge does from here on; pa, pb, po: whether an odd number of borders of a, of b, of the result has been passed. -/
def mergeF (r : Bool → Bool → Bool) : Nat → List Int → List Int → Bool → Bool → Bool → List Int
  | 0, _, _, _, _, _ => []
  | _ + 1, [], [], _, _, _ => []
  | n + 1, a :: az, [], pa, pb, po => if r (!pa) pb != po then a :: mergeF r n az [] (!pa) pb (!po) else mergeF r n az [] (!pa) pb po
  | n + 1, [], b :: bs, pa, pb, po => if r pa (!pb) != po then b :: mergeF r n [] bs pa (!pb) (!po) else mergeF r n [] bs pa (!pb) po
  | n + 1, a :: az, b :: bs, pa, pb, po =>
    if a < b then (if r (!pa) pb != po then a :: mergeF r n az (b :: bs) (!pa) pb (!po) else mergeF r n az (b :: bs) (!pa) pb po)
    else if b < a then (if r pa (!pb) != po then b :: mergeF r n (a :: az) bs pa (!pb) (!po) else mergeF r n (a :: az) bs pa (!pb) po)
    else (if r (!pa) (!pb) != po then a :: mergeF r n az bs (!pa) (!pb) (!po) else mergeF r n az bs (!pa) (!pb) po)

def mergeL (r : Bool → Bool → Bool) (az bs : List Int) : List Int := mergeF r (az.length + bs.length) az bs false false false

theorem mergeF_nil (r : Bool → Bool → Bool) (n : Nat) (pa pb po : Bool) : mergeF r n [] [] pa pb po = [] := by cases n <;> rfl

theorem mergeF_left (r : Bool → Bool → Bool) (n : Nat) (a : Int) (az : List Int) (pa pb po : Bool) :
    mergeF r (n+1) (a :: az) [] pa pb po = if r (!pa) pb != po then a :: mergeF r n az [] (!pa) pb (!po) else mergeF r n az [] (!pa) pb po := rfl
theorem mergeF_right (r : Bool → Bool → Bool) (n : Nat) (b : Int) (bs : List Int) (pa pb po : Bool) :
    mergeF r (n+1) [] (b :: bs) pa pb po = if r pa (!pb) != po then b :: mergeF r n [] bs pa (!pb) (!po) else mergeF r n [] bs pa (!pb) po := rfl

theorem mergeF_more (r : Bool → Bool → Bool) : ∀ (n : Nat) (az bs : List Int) (pa pb po : Bool), az.length + bs.length ≤ n → mergeF r (n+1) az bs pa pb po = mergeF r n az bs pa pb po
  | 0, az, bs, pa, pb, po, h => by
    have h1 : az = [] := List.eq_nil_of_length_eq_zero (by omega)
    have h2 : bs = [] := List.eq_nil_of_length_eq_zero (by omega)
    subst h1; subst h2; rfl
  | n + 1, az, bs, pa, pb, po, h => by
    match az, bs with
    | [], [] => rfl
    | a :: az, [] =>
      have := fun po => mergeF_more r n az [] (!pa) pb po (by simp at h ⊢; omega)
      rw [mergeF_left, mergeF_left, this, this]
    | [], b :: bs =>
      have := fun po => mergeF_more r n [] bs pa (!pb) po (by simp at h ⊢; omega)
      rw [mergeF_right, mergeF_right, this, this]
    | a :: az, b :: bs =>
      have h1 := fun po => mergeF_more r n az (b :: bs) (!pa) pb po (by simp at h ⊢; omega)
      have h2 := fun po => mergeF_more r n (a :: az) bs pa (!pb) po (by simp at h ⊢; omega)
      have h3 := fun po => mergeF_more r n az bs (!pa) (!pb) po (by simp at h ⊢; omega)
      simp only [mergeF.eq_5, h1, h2, h3]

theorem mergeF_len (r : Bool → Bool → Bool) : ∀ (n : Nat) (az bs : List Int) (pa pb po : Bool), (mergeF r n az bs pa pb po).length ≤ n
  | 0, _, _, _, _, _ => by simp [mergeF]
  | n + 1, az, bs, pa, pb, po => by
    match az, bs with
    | [], [] => simp [mergeF]
    | a :: az, [] =>
      have := fun po => mergeF_len r n az [] (!pa) pb po
      rw [mergeF_left]; split <;> simp <;> grind
    | [], b :: bs =>
      have := fun po => mergeF_len r n [] bs pa (!pb) po
      rw [mergeF_right]; split <;> simp <;> grind
    | a :: az, b :: bs =>
      have h1 := fun po => mergeF_len r n az (b :: bs) (!pa) pb po
      have h2 := fun po => mergeF_len r n (a :: az) bs pa (!pb) po
      have h3 := fun po => mergeF_len r n az bs (!pa) (!pb) po
      simp only [mergeF.eq_5]
      repeat' split
      all_goals simp
      all_goals grind

/-- The state of the loop in merge: i and k borders have been passed, out has been laid down. -/
def MergeAt (r : Bool → Bool → Bool) (az bs : List Int) (i k : Nat) (out : List Int) : Prop :=
  mergeL r az bs = out ++ mergeF r (az.length - i + (bs.length - k)) (az.drop i) (bs.drop k) (decide (i % 2 = 1)) (decide (k % 2 = 1)) (decide (out.length % 2 = 1))

theorem MergeAt.start (r : Bool → Bool → Bool) (az bs : List Int) : MergeAt r az bs 0 0 [] := by simp [MergeAt, mergeL]

theorem MergeAt.done {r : Bool → Bool → Bool} {az bs : List Int} {i k : Nat} {out : List Int} (h : MergeAt r az bs i k out) (hi : az.length ≤ i) (hk : bs.length ≤ k) : mergeL r az bs = out := by
  rw [MergeAt, List.drop_eq_nil_of_le hi, List.drop_eq_nil_of_le hk, mergeF_nil] at h
  simpa using h

theorem odd_succ (i : Nat) : decide ((i+1) % 2 = 1) = !decide (i % 2 = 1) := by
  by_cases h : i % 2 = 1
  · have : (i+1) % 2 = 0 := by omega
    simp [h, this]
  · have : (i+1) % 2 = 1 := by omega
    simp [h, this]

/-- What one round adds. -/
def addIf (c : Bool) (out : List Int) (x : Int) : List Int := if c then out ++ [x] else out

theorem MergeAt.left {r : Bool → Bool → Bool} {az bs : List Int} {i k : Nat} {out : List Int} (h : MergeAt r az bs i k out) (x : Int) (hx : az[i]? = some x) (hk : bs.length ≤ k ∨ ∃ y, bs[k]? = some y ∧ x < y) (c : Bool)
    (hc : c = (r (decide ((i+1) % 2 = 1)) (decide (k % 2 = 1)) != decide (out.length % 2 = 1))) : MergeAt r az bs (i+1) k (addIf c out x) := by
  obtain ⟨hi, _⟩ := List.getElem?_eq_some_iff.1 hx
  unfold MergeAt at h ⊢
  rw [h]
  have e1 : az.length - i + (bs.length - k) = (az.length - (i+1) + (bs.length - k)) + 1 := by omega
  rw [e1, drop_one az i x hx]
  rw [odd_succ] at hc
  have step : mergeF r (az.length - (i + 1) + (bs.length - k) + 1) (x :: az.drop (i+1)) (bs.drop k) (decide (i % 2 = 1)) (decide (k % 2 = 1)) (decide (out.length % 2 = 1)) =
      if c then x :: mergeF r (az.length - (i + 1) + (bs.length - k)) (az.drop (i+1)) (bs.drop k) (!decide (i % 2 = 1)) (decide (k % 2 = 1)) (!decide (out.length % 2 = 1))
      else mergeF r (az.length - (i + 1) + (bs.length - k)) (az.drop (i+1)) (bs.drop k) (!decide (i % 2 = 1)) (decide (k % 2 = 1)) (decide (out.length % 2 = 1)) := by
    rcases hk with hk | ⟨y, hy, hxy⟩
    · rw [List.drop_eq_nil_of_le hk, mergeF_left, hc]
    · rw [drop_one bs k y hy, mergeF.eq_5, if_pos hxy, hc]
  rw [step, odd_succ]
  cases c
  · simp [addIf]
  · simp only [addIf, if_true, List.length_append, List.length_cons, List.length_nil, Nat.zero_add, odd_succ, List.append_assoc, List.cons_append, List.nil_append]

theorem MergeAt.right {r : Bool → Bool → Bool} {az bs : List Int} {i k : Nat} {out : List Int} (h : MergeAt r az bs i k out) (x : Int) (hx : bs[k]? = some x) (hk : az.length ≤ i ∨ ∃ y, az[i]? = some y ∧ x < y) (c : Bool)
    (hc : c = (r (decide (i % 2 = 1)) (decide ((k+1) % 2 = 1)) != decide (out.length % 2 = 1))) : MergeAt r az bs i (k+1) (addIf c out x) := by
  obtain ⟨hi, _⟩ := List.getElem?_eq_some_iff.1 hx
  unfold MergeAt at h ⊢
  rw [h]
  have e1 : az.length - i + (bs.length - k) = (az.length - i + (bs.length - (k+1))) + 1 := by omega
  rw [e1, drop_one bs k x hx]
  rw [odd_succ] at hc
  have step : mergeF r (az.length - i + (bs.length - (k+1)) + 1) (az.drop i) (x :: bs.drop (k+1)) (decide (i % 2 = 1)) (decide (k % 2 = 1)) (decide (out.length % 2 = 1)) =
      if c then x :: mergeF r (az.length - i + (bs.length - (k+1))) (az.drop i) (bs.drop (k+1)) (decide (i % 2 = 1)) (!decide (k % 2 = 1)) (!decide (out.length % 2 = 1))
      else mergeF r (az.length - i + (bs.length - (k+1))) (az.drop i) (bs.drop (k+1)) (decide (i % 2 = 1)) (!decide (k % 2 = 1)) (decide (out.length % 2 = 1)) := by
    rcases hk with hk | ⟨y, hy, hxy⟩
    · rw [List.drop_eq_nil_of_le hk, mergeF_right, hc]
    · rw [drop_one az i y hy, mergeF.eq_5, if_neg (by omega), if_pos hxy, hc]
  rw [step, odd_succ]
  cases c
  · simp [addIf]
  · simp only [addIf, if_true, List.length_append, List.length_cons, List.length_nil, Nat.zero_add, odd_succ, List.append_assoc, List.cons_append, List.nil_append]

theorem MergeAt.both {r : Bool → Bool → Bool} {az bs : List Int} {i k : Nat} {out : List Int} (h : MergeAt r az bs i k out) (x : Int) (hx : az[i]? = some x) (hy : bs[k]? = some x) (c : Bool)
    (hc : c = (r (decide ((i+1) % 2 = 1)) (decide ((k+1) % 2 = 1)) != decide (out.length % 2 = 1))) : MergeAt r az bs (i+1) (k+1) (addIf c out x) := by
  obtain ⟨hi, _⟩ := List.getElem?_eq_some_iff.1 hx
  obtain ⟨hj, _⟩ := List.getElem?_eq_some_iff.1 hy
  unfold MergeAt at h ⊢
  rw [h]
  have e1 : az.length - i + (bs.length - k) = (az.length - (i+1) + (bs.length - (k+1)) + 1) + 1 := by omega
  rw [e1, drop_one bs k x hy, drop_one az i x hx]
  rw [odd_succ, odd_succ] at hc
  have m := fun po => mergeF_more r (az.length - (i+1) + (bs.length - (k+1))) (az.drop (i+1)) (bs.drop (k+1)) (!decide (i % 2 = 1)) (!decide (k % 2 = 1)) po (by simp)
  rw [mergeF.eq_5, if_neg (by omega), if_neg (by omega), ← hc, m, m, odd_succ, odd_succ]
  cases c
  · simp [addIf]
  · simp only [addIf, if_true, List.length_append, List.length_cons, List.length_nil, Nat.zero_add, odd_succ, List.append_assoc, List.cons_append, List.nil_append]

theorem odd_int (n : Nat) : (((n : Int) % 2) == 1) = decide (n % 2 = 1) := by
  rw [Bool.eq_iff_iff]; simp only [beq_iff_eq, decide_eq_true_eq]; omega
theorem odd_int1 (n : Nat) : ((((n : Int) + 1) % 2) == 1) = decide ((n + 1) % 2 = 1) := by
  rw [Bool.eq_iff_iff]; simp only [beq_iff_eq, decide_eq_true_eq]; omega


/-- The table of a rule at 0 to 4095. -/
def tab (f : Int → Bool) : List Bool := (List.range 4096).map (fun j => f (j : Nat))

theorem tab_length (f : Int → Bool) : (tab f).length = 4096 := by simp [tab]
theorem tab_get (f : Int → Bool) (x : Nat) (h : x < 4096) : (tab f)[x]? = some (f x) := by simp [tab, h]
theorem tab_set (f : Int → Bool) (x : Nat) (b : Bool) : (tab f).set x b = tab (fun j => if j = x then b else f j) := by
  apply List.ext_getElem
  · simp [tab]
  · intro k h1 h2
    simp only [tab, List.getElem_set, List.getElem_map, List.getElem_range]
    by_cases h : x = k
    · subst h; simp
    · rw [if_neg h, if_neg (by omega)]
theorem tab_congr {f g : Int → Bool} (h : ∀ j : Int, 0 ≤ j → j < 4096 → f j = g j) : tab f = tab g := by
  apply List.ext_getElem
  · simp [tab]
  · intro k h1 h2
    simp only [tab, List.getElem_map, List.getElem_range]
    simp [tab] at h1
    exact h k (by omega) (by omega)
theorem tab_false : List.replicate 4096 false = tab (fun _ => false) := by
  apply List.ext_getElem
  · rw [List.length_replicate, tab_length]
  · intro k h1 h2
    rw [List.getElem_replicate]
    simp only [tab, List.getElem_map]

theorem hasL_snoc (a b x : Int) : ∀ (l : List Int), l.length % 2 = 0 → hasL (l ++ [a, b]) x = (hasL l x || (decide (a ≤ x) && decide (x < b)))
  | [], _ => by simp [hasL]
  | [_], h => by simp at h
  | c :: d :: r, h => by
    have := hasL_snoc a b x r (by simp at h; omega)
    simp only [List.cons_append, hasL, this, Bool.or_assoc]

theorem take_two {α : Type} (zs : List α) (k : Nat) (a b : α) (ha : zs[k]? = some a) (hb : zs[k+1]? = some b) : zs.take (k+2) = zs.take k ++ [a, b] := by
  rw [take_one zs (k+1) b hb, take_one zs k a ha]; simp

theorem hasL_take (zs : List Int) (k : Nat) (a b x : Int) (ha : zs[k]? = some a) (hb : zs[k+1]? = some b) (hk : k % 2 = 0) :
    hasL (zs.take (k+2)) x = (hasL (zs.take k) x || (decide (a ≤ x) && decide (x < b))) := by
  rw [take_two zs k a b ha hb]
  refine hasL_snoc a b x _ ?_
  obtain ⟨h, _⟩ := List.getElem?_eq_some_iff.1 ha
  rw [List.length_take, Nat.min_eq_left (by omega)]; exact hk

/-- What antiquaryref11.Bits does. -/
def bitsGo : List Bool → Int → Bool → List Int
  | [], x, was => if was then [x] else []
  | c :: r, x, was => if c = was then bitsGo r (x + 1) was else x :: bitsGo r (x + 1) c
def bitsL (l : List Bool) : List Int := bitsGo l 0 false

theorem bitsGo_drop (l : List Bool) (k : Nat) (c : Bool) (x : Int) (was : Bool) (h : l[k]? = some c) : bitsGo (l.drop k) x was = if c = was then bitsGo (l.drop (k+1)) (x + 1) was else x :: bitsGo (l.drop (k+1)) (x + 1) c := by
  rw [drop_one l k c h, bitsGo]

/-- The slots of a set, one after the other. -/
def upto (a : Int) : Nat → List Int
  | 0 => []
  | n + 1 => a :: upto (a + 1) n
def slotsL : List Int → List Int
  | a :: b :: r => upto a (b - a).toNat ++ slotsL r
  | _ => []

theorem upto_snoc (a : Int) : ∀ n, upto a (n + 1) = upto a n ++ [a + n]
  | 0 => by simp [upto]
  | n + 1 => by
    have := upto_snoc (a + 1) n
    rw [upto, this, upto]
    simp; omega
theorem upto_length (a : Int) : ∀ n, (upto a n).length = n
  | 0 => rfl
  | n + 1 => by simp [upto, upto_length (a+1) n]

theorem slotsL_snoc (a b : Int) : ∀ (l : List Int), l.length % 2 = 0 → slotsL (l ++ [a, b]) = slotsL l ++ upto a (b - a).toNat
  | [], _ => by simp [slotsL]
  | [_], h => by simp at h
  | c :: d :: r, h => by
    have := slotsL_snoc a b r (by simp at h; omega)
    simp only [List.cons_append, slotsL, this, List.append_assoc]
theorem slotsL_take (zs : List Int) (k : Nat) (a b : Int) (ha : zs[k]? = some a) (hb : zs[k+1]? = some b) (hk : k % 2 = 0) :
    slotsL (zs.take (k+2)) = slotsL (zs.take k) ++ upto a (b - a).toNat := by
  rw [take_two zs k a b ha hb]
  refine slotsL_snoc a b _ ?_
  obtain ⟨h, _⟩ := List.getElem?_eq_some_iff.1 ha
  rw [List.length_take, Nat.min_eq_left (by omega)]; exact hk

end Go.Proofs.YtilcpcpmkklobaaDoor

/- Plain lists, second part. -/
namespace Go.Proofs.YtilcpcpmkklobaaDoor
set_option linter.unusedSimpArgs false
set_option linter.unusedVariables false
set_option linter.unnecessarySimpa false

def inR (x : Int) : Bool := decide (0 ≤ x) && decide (x < 4096)
def ofB (l : List Int) : List Int := if l.all inR then bitsL (tab (fun j => l.contains j)) else []
def ofE (l : List Int) : Int := if l.all inR then 0 else 1

theorem all_take (l : List Int) (k : Nat) (y : Int) (h : l[k]? = some y) : (l.take (k+1)).all inR = ((l.take k).all inR && inR y) := by
  rw [take_one l k y h]; simp
theorem not_all (l : List Int) (k : Nat) (y : Int) (h : l[k]? = some y) (hy : inR y = false) : l.all inR = false := by
  rw [List.all_eq_false]
  exact ⟨y, List.mem_of_getElem? h, by simp [hy]⟩
theorem contains_take (l : List Int) (k : Nat) (y j : Int) (h : l[k]? = some y) : (l.take (k+1)).contains j = ((l.take k).contains j || decide (j = y)) := by
  rw [take_one l k y h]; simp

/-- How many of the first elements are less than s. -/
def countLess (l : List Int) (s : Int) : Int := (l.filter (fun x => decide (x < s))).length
theorem countLess_take (l : List Int) (k : Nat) (y s : Int) (h : l[k]? = some y) : countLess (l.take (k+1)) s = countLess (l.take k) s + if y < s then 1 else 0 := by
  rw [countLess, take_one l k y h, List.filter_append, countLess]
  by_cases g : y < s <;> simp [g]
theorem countLess_le (l : List Int) (s : Int) : 0 ≤ countLess l s ∧ countLess l s ≤ l.length := by
  unfold countLess; have := List.length_filter_le (fun x => decide (x < s)) l; omega

def selR (l : List Int) (n : Int) : Int := if n < 0 ∨ (l.length : Int) ≤ n then -1 else l.getD n.toNat 0

theorem asc_le_last : ∀ (zs : List Int) (lo : Int), ascB lo zs = true → ∀ y ∈ zs, lo < y ∧ y ≤ 4096
  | [], _, _, y, h => by simp at h
  | z :: r, lo, h, y, hy => by
    simp only [ascB, Bool.and_eq_true, decide_eq_true_eq] at h
    rcases List.mem_cons.1 hy with rfl | hy
    · exact h.1
    · have := asc_le_last r z h.2 y hy; omega

/-- The slots before the k-th border are at most as many as that border. -/
theorem slotsL_len (zs : List Int) (hg : Good zs) : ∀ k, k ≤ zs.length → k % 2 = 0 → (slotsL (zs.take k)).length ≤ prevAt zs k + 1 ∨ k = 0 := by
  intro k
  induction k using Nat.strongRecOn with
  | _ k ih =>
    intro hk hk2
    match k, hk2 with
    | 0, _ => exact .inr rfl
    | 1, h => omega
    | k + 2, hk2 =>
      left
      obtain ⟨y, ha⟩ : ∃ y, zs[k]? = some y := ⟨zs[k], by simp⟩
      obtain ⟨z, hb⟩ : ∃ y, zs[k+1]? = some y := ⟨zs[k+1], by simp⟩
      rw [slotsL_take zs k _ _ ha hb (by omega), List.length_append, upto_length, prevAt_succ zs (k+1) _ hb]
      have h1 := hg.asc k _ _ ha hb
      have h2 := hg.rng k _ ha
      rcases ih k (by omega) (by omega) (by omega) with h | h
      · by_cases h0 : k = 0
        · subst h0; simp [slotsL]; omega
        · have hc : zs[k-1]? = some zs[k-1] := by simp
          have h3 := hg.asc (k-1) _ y hc (by rw [show k - 1 + 1 = k by omega]; exact ha)
          have h4 : prevAt zs k = zs[k-1] := by rw [← prevAt_succ zs (k-1) _ hc, show k - 1 + 1 = k by omega]
          omega
      · subst h; simp [slotsL]; omega
theorem slotsL_le (zs : List Int) (hg : Good zs) (k : Nat) (hk : k ≤ zs.length) (hk2 : k % 2 = 0) : (slotsL (zs.take k)).length ≤ 4097 := by
  rcases slotsL_len zs hg k hk hk2 with h | h
  · by_cases h0 : k = 0
    · subst h0; simp [slotsL]
    · have hc : zs[k-1]? = some zs[k-1] := by simp
      have h4 : prevAt zs k = zs[k-1] := by rw [← prevAt_succ zs (k-1) _ hc, show k - 1 + 1 = k by omega]
      have := hg.rng (k-1) _ hc
      omega
  · subst h; simp [slotsL]

end Go.Proofs.YtilcpcpmkklobaaDoor

/- Plain: the differences of borders. -/
namespace Go.Proofs.YtilcpcpmkklobaaDoor
set_option linter.unusedSimpArgs false
set_option linter.unusedVariables false
set_option linter.unnecessarySimpa false

def diffL : List Int → Int → List Int
  | [], _ => []
  | z :: r, last => (z - last) :: diffL r z
def sumL : List Int → Int → List Int
  | [], _ => []
  | d :: r, last => (last + d) :: sumL r (last + d)

theorem diffL_length : ∀ (zs : List Int) (l : Int), (diffL zs l).length = zs.length
  | [], _ => rfl
  | z :: r, l => by simp [diffL, diffL_length r z]
theorem sumL_length : ∀ (zs : List Int) (l : Int), (sumL zs l).length = zs.length
  | [], _ => rfl
  | z :: r, l => by simp [sumL, sumL_length r _]
theorem sum_diff : ∀ (zs : List Int) (l : Int), sumL (diffL zs l) l = zs
  | [], _ => rfl
  | z :: r, l => by
    rw [diffL, sumL, show l + (z - l) = z by omega, sum_diff r z]
theorem diff_sum : ∀ (ds : List Int) (l : Int), diffL (sumL ds l) l = ds
  | [], _ => rfl
  | d :: r, l => by
    rw [sumL, diffL, diff_sum r (l + d), show l + d - l = d by omega]

theorem diffL_get : ∀ (zs : List Int) (l : Int) (k : Nat) (y z : Int), zs[k]? = some y → zs[k+1]? = some z → (diffL zs l)[k+1]? = some (z - y)
  | [], _, k, y, z, h, _ => by simp at h
  | x :: r, l, 0, y, z, h, h2 => by
    simp at h; subst h
    match r with
    | [] => simp at h2
    | u :: r => simp at h2; subst h2; simp [diffL]
  | x :: r, l, k + 1, y, z, h, h2 => by
    have := diffL_get r x k y z (by simpa using h) (by simpa using h2)
    simpa [diffL] using this
theorem diffL_get0 (zs : List Int) (z : Int) (h : zs[0]? = some z) (l : Int) : (diffL zs l)[0]? = some (z - l) := by
  match zs with
  | [] => simp at h
  | x :: r => simp at h; subst h; simp [diffL]

/-- What bits.Encode has in memory, from the m-th place on. -/
def encAt (zs : List Int) (m : Nat) : List Int := zs.take m ++ (diffL zs 0).drop m

theorem encAt_length (zs : List Int) (m : Nat) (h : m ≤ zs.length) : (encAt zs m).length = zs.length := by
  simp [encAt, diffL_length]; omega
theorem encAt_all (zs : List Int) : encAt zs zs.length = zs := by
  simp [encAt, diffL_length]
theorem encAt_one (zs : List Int) (m : Nat) (h : m ≤ 1) : encAt zs m = diffL zs 0 := by
  match m, zs with
  | 0, zs => simp [encAt]
  | 1, [] => rfl
  | 1, z :: r => simp [encAt, diffL]
theorem encAt_get (zs : List Int) (m j : Nat) (y : Int) (hj : j < m) (h : zs[j]? = some y) : (encAt zs m)[j]? = some y := by
  have hlt := (List.getElem?_eq_some_iff.1 h).1
  rw [encAt, List.getElem?_append_left (by simp; omega), List.getElem?_take, if_pos hj, h]
theorem encAt_set (zs : List Int) (m : Nat) (y z : Int) (h1 : zs[m]? = some y) (h2 : zs[m+1]? = some z) : (encAt zs (m+2)).set (m+1) (z - y) = encAt zs (m+1) := by
  have hlt := (List.getElem?_eq_some_iff.1 h2).1
  have hd := diffL_get zs 0 m y z h1 h2
  have hdl := (List.getElem?_eq_some_iff.1 hd).1
  rw [encAt, encAt, show m + 2 = (m + 1) + 1 by omega, List.take_add_one, h2, Option.toList, List.append_assoc]
  rw [List.set_append_right _ _ (by rw [List.length_take]; omega)]
  congr 1
  rw [List.length_take, Nat.min_eq_left (by omega), Nat.sub_self]
  rw [List.drop_eq_getElem_cons (i := m + 1) hdl]
  have e := (List.getElem?_eq_some_iff.1 hd).2
  simp [e]

theorem diffL_fit : ∀ (zs : List Int) (l : Int), (∀ z ∈ zs, 0 ≤ z ∧ z ≤ 4096) → 0 ≤ l → l ≤ 4096 → ∀ d ∈ diffL zs l, -4096 ≤ d ∧ d ≤ 4096
  | [], _, _, _, _, d, h => by simp [diffL] at h
  | z :: r, l, h, h0, h1, d, hd => by
    have hz := h z (by simp)
    rw [diffL] at hd
    rcases List.mem_cons.1 hd with rfl | hd
    · omega
    · exact diffL_fit r z (fun u hu => h u (by simp [hu])) hz.1 hz.2 d hd

/-- What Decode makes of numbers: a set, if it is one. -/
def stepB (d : Int) : Bool := decide (0 ≤ d) && decide (d ≤ 4096)
def decOk (ds : List Int) : Bool := ds.all stepB && validB (sumL ds 0)

theorem stepB_take (l : List Int) (k : Nat) (y : Int) (h : l[k]? = some y) : (l.take (k+1)).all stepB = ((l.take k).all stepB && stepB y) := by
  rw [take_one l k y h]; simp
theorem not_step (l : List Int) (k : Nat) (y : Int) (h : l[k]? = some y) (hy : stepB y = false) : l.all stepB = false := by
  rw [List.all_eq_false]
  exact ⟨y, List.mem_of_getElem? h, by simp [hy]⟩

/-- The last sum of the first k numbers. -/
def lastSum (ds : List Int) (k : Nat) : Int := ((sumL ds 0).take k).getLastD 0

theorem sumL_snoc (d : Int) : ∀ (ds : List Int) (l : Int), sumL (ds ++ [d]) l = sumL ds l ++ [(sumL ds l).getLastD l + d]
  | [], l => by simp [sumL]
  | e :: r, l => by
    have := sumL_snoc d r (l + e)
    rw [List.cons_append, sumL, this, sumL, List.cons_append, List.getLastD_cons]
theorem sumL_take : ∀ (ds : List Int) (l : Int) (k : Nat), (sumL ds l).take k = sumL (ds.take k) l
  | [], l, k => by simp [sumL]
  | e :: r, l, 0 => by simp [sumL]
  | e :: r, l, k + 1 => by simp [sumL, sumL_take r (l + e) k]
theorem sum_step (ds : List Int) (k : Nat) (d : Int) (h : ds[k]? = some d) : (sumL ds 0).take (k+1) = (sumL ds 0).take k ++ [lastSum ds k + d] ∧ lastSum ds (k+1) = lastSum ds k + d := by
  have e : (sumL ds 0).take (k+1) = (sumL ds 0).take k ++ [lastSum ds k + d] := by
    rw [sumL_take, take_one ds k d h, sumL_snoc, lastSum, sumL_take]
  refine ⟨e, ?_⟩
  rw [lastSum, e]; simp
theorem lastSum_bd (ds : List Int) : ∀ k, k ≤ ds.length → (ds.take k).all stepB = true → 0 ≤ lastSum ds k ∧ lastSum ds k ≤ 4096 * k
  | 0, _, _ => by simp [lastSum]
  | k + 1, hk, h => by
    obtain ⟨d, hd⟩ : ∃ d, ds[k]? = some d := ⟨ds[k], by simp⟩
    rw [stepB_take ds k d hd, Bool.and_eq_true] at h
    have ih := lastSum_bd ds k (by omega) h.1
    rw [(sum_step ds k d hd).2]
    have h2 := h.2
    simp only [stepB, Bool.and_eq_true, decide_eq_true_eq] at h2
    omega

end Go.Proofs.YtilcpcpmkklobaaDoor

/- Plain: the encoding of integers, as wire and antiquaryref01 have it. -/
namespace Go.Proofs.YtilcpcpmkklobaaDoor
set_option linter.unusedSimpArgs false
set_option linter.unusedVariables false
set_option linter.unnecessarySimpa false

def zig (n : Int) : Nat := if 0 ≤ n then (2 * n).toNat else (-2 * n - 1).toNat
def unzig (z : Int) : Int := if z % 2 = 0 then z / 2 else -1 - z / 2

theorem zig_lt (n : Int) (h1 : -9223372036854775808 ≤ n) (h2 : n ≤ 9223372036854775807) : zig n < 18446744073709551616 := by unfold zig; split <;> omega
theorem unzig_zig (n : Int) : unzig (zig n) = n := by unfold unzig zig; split <;> split <;> omega

def leb (z : Nat) : List Int := if z < 128 then [(z : Int)] else ((z % 128 + 128 : Nat) : Int) :: leb (z / 128)
decreasing_by omega

theorem leb_small (z : Nat) (h : z < 128) : leb z = [(z : Int)] := by rw [leb, if_pos h]
theorem leb_big (z : Nat) (h : 128 ≤ z) : leb z = ((z % 128 + 128 : Nat) : Int) :: leb (z / 128) := by rw [leb, if_neg (by omega)]

theorem leb_pos (z : Nat) : 1 ≤ (leb z).length := by rw [leb]; split <;> simp

theorem leb_len (k : Nat) : ∀ z, z < 128 ^ (k + 1) → (leb z).length ≤ k + 1 := by
  induction k with
  | zero => intro z h; rw [leb_small z (by simpa using h)]; simp
  | succ k ih =>
    intro z h
    by_cases g : z < 128
    · rw [leb_small z g]; simp
    · rw [leb_big z (by omega)]
      have := ih (z / 128) (by rw [Nat.pow_succ] at h; exact Nat.div_lt_of_lt_mul (by omega))
      simp; omega

def intB (n : Int) : List Int := leb (zig n)

theorem leb64 (z : Nat) (h : z < 18446744073709551616) : (leb z).length ≤ 10 := leb_len 9 z (by have : 128 ^ (9 + 1) = 1180591620717411303424 := rfl; omega)

/-- What GetInt does from the k-th byte on: the number, how many bytes it has, the error. -/
def getGo : List Int → Nat → Int → Int × Int × Int
  | [], _, _ => (0, 0, 10)
  | c :: r, k, z =>
    if (k = 9 ∧ 1 < c) ∨ (0 < k ∧ c = 0) then (0, 0, 11)
    else if c < 128 then (unzig (z + c % 128 * 2 ^ (7 * k)), (k : Int) + 1, 0)
    else getGo r (k + 1) (z + c % 128 * 2 ^ (7 * k))
def getI (bs : List Int) : Int × Int × Int := getGo bs 0 0

theorem getGo_drop (bs : List Int) (k : Nat) (c z : Int) (h : bs[k]? = some c) : getGo (bs.drop k) k z =
    if (k = 9 ∧ 1 < c) ∨ (0 < k ∧ c = 0) then (0, 0, 11) else if c < 128 then (unzig (z + c % 128 * 2 ^ (7 * k)), (k : Int) + 1, 0) else getGo (bs.drop (k+1)) (k + 1) (z + c % 128 * 2 ^ (7 * k)) := by
  obtain ⟨hk, rfl⟩ := List.getElem?_eq_some_iff.1 h
  rw [List.drop_eq_getElem_cons (by omega), getGo]

theorem getGo_end (bs : List Int) (k : Nat) (z : Int) (h : bs.length ≤ k) : getGo (bs.drop k) k z = (0, 0, 10) := by
  rw [List.drop_eq_nil_of_le h, getGo]

end Go.Proofs.YtilcpcpmkklobaaDoor

/- Plain: the value of digits, for antiquaryref01.GetInt. -/
namespace Go.Proofs.YtilcpcpmkklobaaDoor
set_option linter.unusedSimpArgs false
set_option linter.unusedVariables false
set_option linter.unnecessarySimpa false

def val : List Int → Int
  | [] => 0
  | d :: r => d % 128 + 128 * val r

theorem pow7 (k : Nat) : (2 : Int) ^ (7 * (k + 1)) = 128 * 2 ^ (7 * k) := by
  rw [show 7 * (k + 1) = 7 * k + 7 by omega, Int.pow_add, Int.mul_comm]; rfl

theorem val_snoc (c : Int) : ∀ (l : List Int), val (l ++ [c]) = val l + c % 128 * 2 ^ (7 * l.length)
  | [] => by simp [val]
  | d :: r => by
    have := val_snoc c r
    simp only [List.cons_append, val, this, List.length_cons, pow7]
    rw [Int.mul_add, ← Int.mul_assoc, ← Int.mul_assoc, Int.mul_comm 128 (c % 128)]
    omega

theorem val_take (bs : List Int) (k : Nat) (c : Int) (h : bs[k]? = some c) : val (bs.take (k+1)) = val (bs.take k) + c % 128 * 2 ^ (7 * k) := by
  obtain ⟨hk, _⟩ := List.getElem?_eq_some_iff.1 h
  rw [List.take_add_one, h, Option.toList, val_snoc, List.length_take, Nat.min_eq_left (by omega)]

theorem val_lt : ∀ (l : List Int), 0 ≤ val l ∧ val l < 2 ^ (7 * l.length)
  | [] => by simp [val]
  | d :: r => by
    have := val_lt r
    simp only [val, List.length_cons, pow7]
    omega

theorem val_last (l : List Int) (c : Int) (h : c % 128 ≤ 1) : val (l ++ [c]) < 2 * 2 ^ (7 * l.length) := by
  rw [val_snoc]
  have h1 := val_lt l
  have hp : (0 : Int) < 2 ^ (7 * l.length) := Int.pow_pos (by decide)
  have hm : c % 128 * 2 ^ (7 * l.length) ≤ 1 * 2 ^ (7 * l.length) := Int.mul_le_mul_of_nonneg_right h (by omega)
  omega

/-- All values on the way are less than 2^64. -/
theorem val_fits (bs : List Int) (k i : Nat) (c : Int) (h : bs[k]? = some c) (hk : k ≤ 9) (hi : i ≤ k + 1) (h9 : k = 9 → c ≤ 1) (hc : 0 ≤ c) : 0 ≤ val ((bs.take (k+1)).drop i) ∧ val ((bs.take (k+1)).drop i) < 18446744073709551616 := by
  refine ⟨(val_lt _).1, ?_⟩
  obtain ⟨hlt, _⟩ := List.getElem?_eq_some_iff.1 h
  by_cases g : k = 9
  · by_cases hik : i = k + 1
    · rw [List.drop_eq_nil_of_le (by simp; omega)]; simp [val]
    · have e : (bs.take (k+1)).drop i = (bs.take k).drop i ++ [c] := by
        rw [List.take_add_one, h, Option.toList, List.drop_append_of_le_length (by simp; omega)]
      have hl : ((bs.take k).drop i).length ≤ 9 := by simp; omega
      rw [e]
      have h1 := val_last ((bs.take k).drop i) c (by have := h9 g; omega)
      have hle : (2 : Int) ^ (7 * ((bs.take k).drop i).length) ≤ 2 ^ 63 := by
        have h := Nat.pow_le_pow_right (n := 2) (by decide) (show 7 * ((bs.take k).drop i).length ≤ 63 by omega)
        exact_mod_cast h
      have e2 : (2 : Int) ^ 63 = 9223372036854775808 := by decide
      omega
  · have h1 := (val_lt ((bs.take (k+1)).drop i)).2
    have hl : ((bs.take (k+1)).drop i).length ≤ 9 := by simp; omega
    have hle : (2 : Int) ^ (7 * ((bs.take (k+1)).drop i).length) ≤ 2 ^ 63 := by
      have h := Nat.pow_le_pow_right (n := 2) (by decide) (show 7 * ((bs.take (k+1)).drop i).length ≤ 63 by omega)
      exact_mod_cast h
    have e2 : (2 : Int) ^ 63 = 9223372036854775808 := by decide
    omega

theorem val_step (bs : List Int) (k i : Nat) (c : Int) (hi : i ≤ k) (h : bs[i]? = some c) : val ((bs.take (k+1)).drop i) = c % 128 + 128 * val ((bs.take (k+1)).drop (i+1)) := by
  obtain ⟨hlt, e⟩ := List.getElem?_eq_some_iff.1 h
  rw [List.drop_eq_getElem_cons (by simp; omega), val]
  simp [e]

/-- After k bytes that are not the last ones. -/
theorem getI_lead (bs : List Int) : ∀ k, k ≤ 9 → (∀ (j : Nat) (c : Int), j < k → bs[j]? = some c → 128 ≤ c) → k ≤ bs.length → getI bs = getGo (bs.drop k) k (val (bs.take k))
  | 0, _, _, _ => rfl
  | k + 1, hk, hall, hl => by
    obtain ⟨c, hc⟩ : ∃ c, bs[k]? = some c := ⟨bs[k], by simp⟩
    have h1 := hall k c (by omega) hc
    rw [getI_lead bs k (by omega) (fun j d hj => hall j d (by omega)) (by omega), getGo_drop bs k c _ hc, if_neg (by omega), if_neg (by omega), val_take bs k c hc]

theorem getI_ten (bs : List Int) (hall : ∀ (j : Nat) (c : Int), j < 10 → bs[j]? = some c → 128 ≤ c) (hl : 10 ≤ bs.length) : getI bs = (0, 0, 11) := by
  obtain ⟨c, hc⟩ : ∃ c, bs[9]? = some c := ⟨bs[9], by simp⟩
  rw [getI_lead bs 9 (by omega) (fun j d hj => hall j d (by omega)) (by omega), getGo_drop bs 9 c _ hc, if_pos]
  left; have := hall 9 c (by omega) hc; omega

theorem getI_short (bs : List Int) (k : Nat) (hk : k ≤ 9) (hall : ∀ (j : Nat) (c : Int), j < k → bs[j]? = some c → 128 ≤ c) (hl : bs.length = k) : getI bs = (0, 0, 10) := by
  rw [getI_lead bs k hk hall (by omega), getGo_end _ _ _ (by omega)]

theorem getI_bad (bs : List Int) (k : Nat) (c : Int) (hk : k ≤ 9) (hall : ∀ (j : Nat) (c : Int), j < k → bs[j]? = some c → 128 ≤ c) (hc : bs[k]? = some c) (h : (k = 9 ∧ 1 < c) ∨ (0 < k ∧ c = 0)) : getI bs = (0, 0, 11) := by
  obtain ⟨hlt, _⟩ := List.getElem?_eq_some_iff.1 hc
  rw [getI_lead bs k hk hall (by omega), getGo_drop bs k c _ hc, if_pos h]

theorem getI_good (bs : List Int) (k : Nat) (c : Int) (hk : k ≤ 9) (hall : ∀ (j : Nat) (c : Int), j < k → bs[j]? = some c → 128 ≤ c) (hc : bs[k]? = some c) (h : ¬ ((k = 9 ∧ 1 < c) ∨ (0 < k ∧ c = 0))) (h1 : c < 128) :
    getI bs = (unzig (val (bs.take (k+1))), (k : Int) + 1, 0) := by
  obtain ⟨hlt, _⟩ := List.getElem?_eq_some_iff.1 hc
  rw [getI_lead bs k hk hall (by omega), getGo_drop bs k c _ hc, if_neg h, if_pos h1, val_take bs k c hc]

end Go.Proofs.YtilcpcpmkklobaaDoor

/- Plain: lists of integers, encoded. -/
namespace Go.Proofs.YtilcpcpmkklobaaDoor
set_option linter.unusedSimpArgs false
set_option linter.unusedVariables false
set_option linter.unnecessarySimpa false

theorem getGo_ok : ∀ (l : List Int) (k : Nat) (z : Int), k ≤ 9 → 0 ≤ z → z < 2 ^ (7 * k) → (∀ c ∈ l, 0 ≤ c ∧ c < 256) → (getGo l k z).2.2 = 0 →
    (k : Int) + 1 ≤ (getGo l k z).2.1 ∧ (getGo l k z).2.1 ≤ k + l.length ∧ -9223372036854775808 ≤ (getGo l k z).1 ∧ (getGo l k z).1 ≤ 9223372036854775807
  | [], k, z, _, _, _, _, h => by simp [getGo] at h
  | c :: r, k, z, hk, h0, hz, hby, h => by
    rw [getGo] at h ⊢
    by_cases g : (k = 9 ∧ 1 < c) ∨ (0 < k ∧ c = 0)
    · rw [if_pos g] at h; simp at h
    · rw [if_neg g] at h ⊢
      obtain ⟨c0, c1⟩ := hby c (by simp)
      have hp : (0 : Int) < 2 ^ (7 * k) := Int.pow_pos (by decide)
      have hn : 0 ≤ c % 128 * 2 ^ (7 * k) := Int.mul_nonneg (by omega) (by omega)
      have hm : c % 128 * 2 ^ (7 * k) ≤ 127 * 2 ^ (7 * k) := Int.mul_le_mul_of_nonneg_right (by omega) (by omega)
      by_cases g2 : c < 128
      · rw [if_pos g2] at h ⊢
        simp only at h ⊢
        have hlt : z + c % 128 * 2 ^ (7 * k) < 18446744073709551616 := by
          by_cases g9 : k = 9
          · subst g9
            have hm : c % 128 * 2 ^ (7 * 9) ≤ 1 * 2 ^ (7 * 9) := Int.mul_le_mul_of_nonneg_right (by omega) (by omega)
            have e : (2 : Int) ^ (7 * 9) = 9223372036854775808 := by decide
            rw [e] at *
            omega
          · have hle : (2 : Int) ^ (7 * k) ≤ 2 ^ 56 := by
              have h := Nat.pow_le_pow_right (n := 2) (by decide) (show 7 * k ≤ 56 by omega)
              exact_mod_cast h
            have e : (2 : Int) ^ 56 = 72057594037927936 := by decide
            rw [e] at hle
            omega
        have hnn : 0 ≤ z + c % 128 * 2 ^ (7 * k) := by omega
        generalize z + c % 128 * 2 ^ (7 * k) = q at *
        refine ⟨by omega, by simp; omega, ?_, ?_⟩ <;> (unfold unzig; split <;> omega)
      · rw [if_neg g2] at h ⊢
        have ih := getGo_ok r (k + 1) (z + c % 128 * 2 ^ (7 * k)) (by omega) (by omega) (by rw [pow7]; omega) (fun d hd => hby d (by simp [hd])) h
        simp only [List.length_cons]
        omega

theorem getI_ok (l : List Int) (hby : ∀ c ∈ l, 0 ≤ c ∧ c < 256) (h : (getI l).2.2 = 0) :
    1 ≤ (getI l).2.1 ∧ (getI l).2.1 ≤ l.length ∧ -9223372036854775808 ≤ (getI l).1 ∧ (getI l).1 ≤ 9223372036854775807 := by
  have := getGo_ok l 0 0 (by omega) (by omega) (by simp) hby h
  unfold getI; omega

theorem getGo_err : ∀ (l : List Int) (k : Nat) (z : Int), (getGo l k z).2.2 = 0 ∨ (getGo l k z).2.2 = 10 ∨ (getGo l k z).2.2 = 11
  | [], k, z => by simp [getGo]
  | c :: r, k, z => by
    rw [getGo]
    split
    · simp
    · split
      · simp
      · exact getGo_err r _ _

/-- The length of a list whose elements have at least so many bytes. -/
def lenL (bs : List Int) (least : Int) : Int × Int × Int :=
  if (getI bs).2.2 ≠ 0 then (0, 0, (getI bs).2.2)
  else if (getI bs).1 < 0 then (0, 0, 11)
  else if (bs.length - (getI bs).2.1) / least < (getI bs).1 then (0, 0, 10)
  else ((getI bs).1, (getI bs).2.1, 0)

theorem lenL_ok (bs : List Int) (least : Int) (hby : ∀ c ∈ bs, 0 ≤ c ∧ c < 256) (h : (lenL bs least).2.2 = 0) :
    0 ≤ (lenL bs least).1 ∧ 1 ≤ (lenL bs least).2.1 ∧ (lenL bs least).2.1 ≤ bs.length ∧ (lenL bs least).1 ≤ (bs.length - (lenL bs least).2.1) / least := by
  unfold lenL at *
  by_cases h1 : (getI bs).2.2 ≠ 0
  · rw [if_pos h1] at h; exact absurd h h1
  · rw [if_neg h1] at h ⊢
    have := getI_ok bs hby (by simpa using h1)
    by_cases h2 : (getI bs).1 < 0
    · rw [if_pos h2] at h; simp at h
    · rw [if_neg h2] at h ⊢
      by_cases h3 : (bs.length - (getI bs).2.1) / least < (getI bs).1
      · rw [if_pos h3] at h; simp at h
      · rw [if_neg h3] at h ⊢
        simp only
        omega

/-- n integers, from the beginning of bytes on: them, their bytes, the error. -/
def getN : Nat → List Int → List Int × Int × Int
  | 0, _ => ([], 0, 0)
  | n + 1, bs =>
    if (getI bs).2.2 ≠ 0 then ([], 0, (getI bs).2.2)
    else if (getN n (bs.drop (getI bs).2.1.toNat)).2.2 ≠ 0 then ([], 0, (getN n (bs.drop (getI bs).2.1.toNat)).2.2)
    else ((getI bs).1 :: (getN n (bs.drop (getI bs).2.1.toNat)).1, (getI bs).2.1 + (getN n (bs.drop (getI bs).2.1.toNat)).2.1, 0)

/-- What follows some elements and some bytes. -/
def andThen (out : List Int) (at_ : Int) (s : List Int × Int × Int) : List Int × Int × Int :=
  if s.2.2 ≠ 0 then ([], 0, s.2.2) else (out ++ s.1, at_ + s.2.1, 0)

def getInts (bs : List Int) : List Int × Int × Int :=
  if (lenL bs 1).2.2 ≠ 0 then ([], 0, (lenL bs 1).2.2) else andThen [] (lenL bs 1).2.1 (getN (lenL bs 1).1.toNat (bs.drop (lenL bs 1).2.1.toNat))

theorem andThen_err (out : List Int) (at_ : Int) (n : Nat) (bs : List Int) (r : Int × Int × Int) (hr : getI bs = r) (h : r.2.2 ≠ 0) : andThen out at_ (getN (n + 1) bs) = ([], 0, r.2.2) := by
  subst hr
  simp [andThen, getN, h]
theorem andThen_step (out : List Int) (at_ : Int) (n : Nat) (bs : List Int) (r : Int × Int × Int) (hr : getI bs = r) (h : r.2.2 = 0) :
    andThen out at_ (getN (n + 1) bs) = andThen (out ++ [r.1]) (at_ + r.2.1) (getN n (bs.drop r.2.1.toNat)) := by
  subst hr
  by_cases g : (getN n (bs.drop (getI bs).2.1.toNat)).2.2 = 0
  · simp [andThen, getN, h, g]; omega
  · simp [andThen, getN, h, g]
theorem andThen_done (out : List Int) (at_ : Int) (bs : List Int) : andThen out at_ (getN 0 bs) = (out, at_, 0) := by simp [andThen, getN]

/-- The bytes of a list. -/
def intsB (l : List Int) : List Int := intB l.length ++ (l.map intB).flatten

theorem intB_len (n : Int) (h1 : -9223372036854775808 ≤ n) (h2 : n ≤ 9223372036854775807) : 1 ≤ (intB n).length ∧ (intB n).length ≤ 10 := ⟨leb_pos _, leb64 _ (zig_lt n h1 h2)⟩

theorem flat_len (l : List Int) (h : ∀ z ∈ l, -9223372036854775808 ≤ z ∧ z ≤ 9223372036854775807) : ((l.map intB).flatten).length ≤ 10 * l.length := by
  induction l with
  | nil => simp
  | cons a r ih =>
    have h1 := intB_len a (h a (by simp)).1 (h a (by simp)).2
    have h2 := ih (fun z hz => h z (by simp [hz]))
    simp only [List.map_cons, List.flatten_cons, List.length_append, List.length_cons]
    omega
theorem flat_take (l : List Int) (k : Nat) (a : Int) (h : l[k]? = some a) : ((l.take (k+1)).map intB).flatten = ((l.take k).map intB).flatten ++ intB a := by
  rw [List.take_add_one, h]; simp

end Go.Proofs.YtilcpcpmkklobaaDoor

/- Plain: Decode. -/
namespace Go.Proofs.YtilcpcpmkklobaaDoor
set_option linter.unusedSimpArgs false
set_option linter.unusedVariables false
set_option linter.unnecessarySimpa false

theorem getN_len : ∀ (n : Nat) (bs : List Int), (getN n bs).1.length ≤ n
  | 0, _ => by simp [getN]
  | n + 1, bs => by
    have := getN_len n (bs.drop (getI bs).2.1.toNat)
    rw [getN]
    split
    · simp
    · split
      · simp
      · simp; exact this

theorem getInts_len (bs : List Int) (hby : ∀ c ∈ bs, 0 ≤ c ∧ c < 256) : (getInts bs).1.length ≤ bs.length := by
  rw [getInts]
  by_cases h : (lenL bs 1).2.2 ≠ 0
  · rw [if_pos h]; simp
  · rw [if_neg h]
    have ok := lenL_ok bs 1 hby (by simpa using h)
    have hn := getN_len (lenL bs 1).1.toNat (bs.drop (lenL bs 1).2.1.toNat)
    rw [andThen]
    split
    · simp
    · simp only [List.nil_append]
      simp only [Int.ediv_one] at ok
      omega

def decL (bs : List Int) : List Int × Int :=
  if (getInts bs).2.2 ≠ 0 ∨ (getInts bs).2.1 ≠ bs.length then ([], 11)
  else if decOk (getInts bs).1 then (sumL (getInts bs).1 0, 0) else ([], 11)

def decAt (ds : List Int) (k : Nat) : List Int := (sumL ds 0).take k ++ ds.drop k

theorem decAt_length (ds : List Int) (k : Nat) : (decAt ds k).length = ds.length := by simp [decAt, sumL_length]; omega
theorem decAt_zero (ds : List Int) : decAt ds 0 = ds := by simp [decAt]
theorem decAt_all (ds : List Int) (k : Nat) (h : ds.length ≤ k) : decAt ds k = sumL ds 0 := by
  rw [decAt, List.drop_eq_nil_of_le h, List.take_of_length_le (by rw [sumL_length]; exact h)]; simp
theorem decAt_get (ds : List Int) (k : Nat) (d : Int) (h : ds[k]? = some d) : (decAt ds k)[k]? = some d := by
  have hlt := (List.getElem?_eq_some_iff.1 h).1
  rw [decAt, List.getElem?_append_right (by rw [List.length_take]; omega), List.length_take, sumL_length, Nat.min_eq_left (by omega), Nat.sub_self, List.getElem?_drop]
  simpa using h
theorem decAt_prev (ds : List Int) (k : Nat) (hk : 0 < k) (hl : k ≤ ds.length) : (decAt ds k)[k-1]? = some (lastSum ds k) := by
  rw [decAt, List.getElem?_append_left (by simp [sumL_length]; omega), lastSum]
  rw [List.getLastD_eq_getLast?, List.getLast?_eq_getElem?]
  simp only [List.length_take, sumL_length, Nat.min_eq_left hl]
  have hlt : k - 1 < ((sumL ds 0).take k).length := by simp [sumL_length]; omega
  rw [List.getElem?_eq_getElem hlt]; rfl
theorem decAt_set (ds : List Int) (k : Nat) (d : Int) (h : ds[k]? = some d) : (decAt ds k).set k (lastSum ds k + d) = decAt ds (k+1) := by
  have hlt := (List.getElem?_eq_some_iff.1 h).1
  rw [decAt, decAt, (sum_step ds k d h).1, drop_one ds k d h]
  have e : ((sumL ds 0).take k).length = k := by simp [sumL_length]; omega
  rw [List.set_append_right _ _ (by omega), e, Nat.sub_self]
  simp
theorem decAt_first (ds : List Int) (d : Int) (h : ds[0]? = some d) : decAt ds 1 = decAt ds 0 := by
  rw [← decAt_set ds 0 d h]
  match ds with
  | [] => simp at h
  | x :: r => simp at h; subst h; simp [decAt, lastSum]

end Go.Proofs.YtilcpcpmkklobaaDoor
