/- Proved here: antiquarylaw22.DiskStops returns true for every input, and leaves its arguments as they were. No conditions. -/
import Derived.Test.YtilcpcpmkklobaaC5
/- law22: disks on which nothing is open; what bits do. -/
namespace Go.Proofs.Ytilcpcpmkklobaa
set_option linter.unusedSimpArgs false
set_option linter.unusedVariables false
set_option linter.unnecessarySimpa false
open Go.RowKit

theorem xbyte_all : ((List.range 256).all fun x => (List.range 8).all fun r => decide (xbyte (xbyte (x : Nat) (r : Nat)) (r : Nat) = (x : Nat))) = true := by kernel_rfl
theorem xbyte_mod (x b : Int) : xbyte x b = xbyte x ((b % 8).toNat : Nat) := by
  unfold xbyte
  have : ((b % 8).toNat : Int) % 8 = b % 8 := by omega
  rw [this]
theorem xbyte_twice {x b : Int} (hx : 0 ≤ x ∧ x < 256) : xbyte (xbyte x b) b = x := by
  rw [xbyte_mod x b, xbyte_mod _ b]
  have h1 := List.all_eq_true.1 xbyte_all x.toNat (by simp; omega)
  have h2 := List.all_eq_true.1 h1 (b % 8).toNat (by simp; omega)
  have e : ((x.toNat : Nat) : Int) = x := by omega
  have h3 := of_decide_eq_true h2
  rw [e] at h3
  exact h3
theorem flip_twice (s : Sec) {b : Int} (hb : 0 ≤ b ∧ b < 512) : flipSec (flipSec s b) b = s := by
  apply Subtype.ext
  have hl : (b / 8).toNat < s.1.length := by rw [s.2.1]; omega
  show (s.1.set (b / 8).toNat (xbyte (s.1.getD (b / 8).toNat 0) b)).set (b / 8).toNat (xbyte ((s.1.set (b / 8).toNat (xbyte (s.1.getD (b / 8).toNat 0) b)).getD (b / 8).toNat 0) b) = s.1
  rw [List.set_set, gset hl, if_pos rfl]
  have hm : s.1.getD (b / 8).toNat 0 = s.1[(b / 8).toNat] := by rw [List.getD_eq_getElem?_getD, List.getElem?_eq_getElem hl]; rfl
  rw [xbyte_twice (by rw [hm]; exact s.2.2 _ (List.getElem_mem hl)), hm]
  exact List.set_getElem_self hl

theorem secL_at (s : Sec) {q : Nat} (h : q < 64) : (secL s)[q]? = some (pbyte (s.1.getD q 0)) := by
  rw [secL, List.getElem?_map]
  have : q < s.1.length := by rw [s.2.1]; exact h
  simp [List.getElem?_eq_getElem this]
theorem secL_flip (s : Sec) (b : Int) (h : (b / 8).toNat < 64) : splice (secL s) (b / 8).toNat [pbyte (xbyte (s.1.getD (b / 8).toNat 0) b)] = secL (flipSec s b) := by
  rw [splice_one (by rw [secL_len]; exact h)]
  simp [secL, flipSec, List.map_set]

/-- A disk on which nothing is open. -/
structure Clean (n k : Nat) (D : DM) (f : Nat → DCell) : Prop where
  ok : OkD n k D
  op : D.op = []
  cell : ∀ q : Nat, q < n → D.cell q = f q
def fset (f : Nat → DCell) (i : Nat) (c : DCell) : Nat → DCell := fun q => if q = i then c else f q
variable {n k : Nat} {D : DM} {f : Nat → DCell}
theorem Clean.get (h : Clean n k D f) (q : Int) : D.get q = [] := by rw [get_find, h.op]; rfl
theorem Clean.read (h : Clean n k D f) {q : Nat} (hq : q < n) : D.read q = if (f q).bad then (zeroSec, 221) else ((f q).s, 0) := by
  rw [h.ok.read (by omega) (by omega), h.get, if_neg (by simp), h.cell q hq]
theorem setc_cell {D : DM} {i q : Nat} {c : DCell} (hi : i < D.cells.length) : (D.setc i c).cell q = if q = i then c else D.cell q := by
  show (D.cells.set (i : Int).toNat c).getD (q : Int).toNat default = if q = i then c else D.cells.getD (q : Int).toNat default
  rw [Int.toNat_natCast, Int.toNat_natCast, gset hi]
theorem Clean.setc (h : Clean n k D f) {i : Nat} (hi : i < n) (c : DCell) : Clean n k (D.setc i c) (fset f i c) := by
  have hl : i < D.cells.length := by rw [h.ok.len]; exact hi
  refine ⟨⟨h.ok.dead, h.ok.after, by rw [← h.ok.len]; exact List.length_set .., h.ok.steps, h.ok.op, h.ok.room⟩, h.op, fun q hq => ?_⟩
  rw [setc_cell hl, h.cell q hq]; rfl
theorem Clean.flip (h : Clean n k D f) {i : Nat} (hi : i < n) {b : Int} (hb : 0 ≤ b ∧ b < 512) : D.flip i b = (0, D.setc i ((f i).flip b)) ∧ Clean n k (D.setc i ((f i).flip b)) (fset f i ((f i).flip b)) := by
  refine ⟨?_, h.setc hi _⟩
  unfold DM.flip
  rw [if_pos (h.ok.check0 (by omega) (by omega)), if_neg (by omega), h.cell i hi]
theorem Clean.rot (h : Clean n k D f) {i : Nat} (hi : i < n) : D.check i = 0 ∧ Clean n k (D.rot i) (fset f i ⟨zeroSec, true⟩) := by
  have hc := h.ok.check0 (i := (i : Int)) (by omega) (by omega)
  refine ⟨hc, ?_⟩
  unfold DM.rot
  rw [if_pos hc]
  exact h.setc hi _
theorem Clean.crash (h : Clean n k D f) (keep : List Int) : Clean n 0 (D.crash keep) f := by
  have hk : D.keys.length = 0 := by rw [keys_len, h.op]; rfl
  have hcs : (D.crash keep).cells = D.cells := by
    show crashL D keep D.keys.length = D.cells
    rw [hk]; rfl
  refine ⟨⟨rfl, rfl, by rw [hcs]; exact h.ok.len, ⟨Int.le_refl _, Int.le_refl _⟩, ⟨List.nodup_nil, by simp [DM.crash]⟩, by simp [DM.crash]⟩, rfl, fun q hq => ?_⟩
  unfold DM.cell
  rw [hcs]; exact h.cell q hq
theorem WOk.clean {s : WS} (h : WOk k s) (ho : s.D.op = []) : Clean 16 k s.D (fun q => ⟨s.sure.getD q default, false⟩) := ⟨h.ok, ho, h.cell⟩
theorem wr_last (l : List ROp) (hl : l.length ≤ 1000) : (wr l.length l l.length).D.op = [] := by
  cases hn : l.length with
  | zero => rfl
  | succ n =>
    have h1 := ((wr_ok ((n + 1 : Nat) : Int) l n (by omega)).wr (by omega) (l.getD n default)).2
    have e : wr ((n + 1 : Nat) : Int) l (n + 1) = synW (putW (wr ((n + 1 : Nat) : Int) l n) (l.getD n default)) := by
      show (if (n : Int) + 1 = ((n + 1 : Nat) : Int) then _ else _) = _
      rw [if_pos (by omega)]
    rw [e]
    show (putW _ _).D.sync.2.op = []
    exact (h1.ok.sync_ok (by decide)).2.2.2
end Go.Proofs.Ytilcpcpmkklobaa

/- law22: what a failure leaves. -/
namespace Go.Proofs.Ytilcpcpmkklobaa
set_option linter.unusedSimpArgs false
set_option linter.unusedVariables false
set_option linter.unnecessarySimpa false
open Go.RowKit

theorem crashL_at {n k : Nat} {D : DM} (h : OkD n k D) (hk : k ≤ 1000000000) (keep : List Int) {q : Nat} (hq : q < n) : ∀ m, m ≤ D.keys.length → if (q : Int) ∈ D.keys.take m then ∃ x, (crashL D keep m).getD q default = found (D.cell q) (D.get q) x else (crashL D keep m).getD q default = D.cell q
  | 0, _ => by
    rw [List.take_zero, if_neg (by simp)]
    show D.cells.getD q default = D.cells.getD (q : Int).toNat default
    rw [Int.toNat_natCast]
  | m + 1, hm => by
    have ih := crashL_at h hk keep hq m (by omega)
    have hop : opOK D.cells.length D.op := by rw [h.len]; exact h.op
    obtain ⟨k1, k2, -⟩ := keys_at hop (n := m) (by omega)
    have ht : D.keys.take (m + 1) = D.keys.take m ++ [D.keys.getD m default] := by
      rw [List.take_add_one, List.getD_eq_getElem?_getD, List.getElem?_eq_getElem (by omega)]; rfl
    rw [ht, crashL, gset (by rw [crashL_len]; omega)]
    generalize D.keys.getD m default = key at *
    by_cases e : q = key.toNat
    · have e' : (q : Int) = key := by omega
      rw [if_pos e, if_pos (by rw [e']; simp), ← e']
      exact ⟨_, rfl⟩
    · have e' : (q : Int) ≠ key := by omega
      rw [if_neg e]
      by_cases c : (q : Int) ∈ D.keys.take m
      · rw [if_pos c] at ih
        rw [if_pos (List.mem_append.2 (.inl c))]
        exact ih
      · rw [if_neg c] at ih
        rw [if_neg (by simp only [List.mem_append, List.mem_singleton, not_or]; exact ⟨c, e'⟩)]
        exact ih
theorem get_key {n k : Nat} {D : DM} (h : OkD n k D) (q : Int) : q ∈ D.keys ↔ D.get q ≠ [] := by
  rw [keys_mem]
  have hf := opFind_get h q
  constructor
  · intro hm e
    obtain ⟨x, hx, rfl⟩ := List.mem_map.1 hm
    obtain ⟨j, hj⟩ := List.getElem?_of_mem hx
    rw [opFind_at h.op.1 hj, if_pos e] at hf
    cases hf
  · intro hne
    by_cases c : q ∈ D.op.map (·.2.1)
    · exact c
    · rw [opFind_none c, if_neg hne] at hf
      cases hf
theorem crash_cell {n k : Nat} {D : DM} (h : OkD n k D) (hk : k ≤ 1000000000) (keep : List Int) {q : Nat} (hq : q < n) : if D.get q = [] then (D.crash keep).cell q = D.cell q else ∃ x, (D.crash keep).cell q = found (D.cell q) (D.get q) x := by
  have h1 := crashL_at h hk keep hq D.keys.length (Nat.le_refl _)
  rw [List.take_length] at h1
  have e : (D.crash keep).cell q = (crashL D keep D.keys.length).getD q default := by
    show (crashL D keep D.keys.length).getD (q : Int).toNat default = _
    rw [Int.toNat_natCast]
  rw [e]
  by_cases c : D.get q = []
  · rw [if_pos c]
    rw [if_neg (fun hm => (get_key h q).1 hm c)] at h1
    exact h1
  · rw [if_neg c]
    rw [if_pos ((get_key h q).2 c)] at h1
    exact h1
theorem opOK_len {n : Nat} {op : List (Nat × Int × List Sec)} (h : opOK n op) : op.length ≤ n := by
  have h1 : (op.map (·.2.1)).length ≤ ((List.range n).map (fun i : Nat => (i : Int))).length := by
    refine List.Nodup.length_le_of_subset h.1 (fun x hx => ?_)
    obtain ⟨e, he, rfl⟩ := List.mem_map.1 hx
    obtain ⟨q0, q1, -⟩ := h.2 e he
    exact List.mem_map.2 ⟨e.2.1.toNat, List.mem_range.2 (by omega), by omega⟩
  simpa using h1
theorem crash_ok {n k : Nat} {D : DM} (h : OkD n k D) (keep : List Int) : OkD n 0 (D.crash keep) :=
  ⟨rfl, rfl, by show (crashL D keep _).length = n; rw [crashL_len]; exact h.len, ⟨Int.le_refl _, Int.le_refl _⟩, ⟨List.nodup_nil, by simp [DM.crash]⟩, by simp [DM.crash]⟩
theorem crash_get (D : DM) (keep : List Int) (q : Int) : (D.crash keep).get q = [] := by rw [get_find]; rfl
/-- What is found of a sector may be found. -/
theorem found_poss (sure : Sec) (l : List Sec) (hl : l ≠ []) (x : Int) : let c := found ⟨sure, false⟩ l x
    possB (if c.bad then (zeroSec, (221 : Int)) else (c.s, 0)).1 (if c.bad then (zeroSec, (221 : Int)) else (c.s, 0)).2 sure l = true := by
  have hpos : 0 < l.length := List.length_pos_iff.2 hl
  have hr : 0 ≤ foundR l x ∧ foundR l x < l.length + 3 := by
    unfold foundR
    have h3 : (0 : Int) < (l.length : Int) + 3 := by omega
    exact ⟨Int.emod_nonneg _ (by omega), Int.emod_lt_of_pos _ h3⟩
  have any : ∀ s ∈ l, possI s sure l l.length = true := by
    intro s hs
    unfold possI
    rw [List.take_length, Bool.or_eq_true]
    exact .inr (List.any_eq_true.2 ⟨s, hs, decide_eq_true rfl⟩)
  have got : ∀ j, j < l.length → l.getD j default ∈ l := by
    intro j hj
    rw [List.getD_eq_getElem?_getD, List.getElem?_eq_getElem hj]; exact List.getElem_mem hj
  have last : lastS l ∈ l := got _ (by omega)
  unfold found
  by_cases h0 : foundR l x = 0
  · simp only [h0, if_true]
    simp [possB, possI]
  · by_cases h1 : foundR l x ≤ l.length
    · simp only [h0, h1, if_true, if_false]
      have := any _ (got (foundR l x - 1).toNat (by omega))
      simp only [possB, Bool.false_eq_true, if_false, this, Bool.true_or]
      rw [if_neg (by decide)]
    · by_cases h2 : foundR l x = l.length + 1
      · simp only [if_neg h0, if_neg h1, if_pos h2]
        simp [possB]
      · simp only [if_neg h0, if_neg h1, if_neg h2]
        by_cases h3 : (beforeS ⟨sure, false⟩ l).1 = (lastS l).1
        · simp only [if_pos h3]
          have := any _ last
          simp [possB, this]
        · simp only [if_neg h3]
          simp [possB]
theorem keeps_read {k : Nat} {W : WS} (h : WOk k W) (hk : k ≤ 1000000000) (keep : List Int) {q : Nat} (hq : q < 16) :
    (W.op.getD q default = [] → (W.D.crash keep).read q = (W.sure.getD q default, 0)) ∧ (W.op.getD q default ≠ [] → possB ((W.D.crash keep).read q).1 ((W.D.crash keep).read q).2 (W.sure.getD q default) (W.op.getD q default) = true ∧ (((W.D.crash keep).read q).2 = 221 ∨ ((W.D.crash keep).read q).2 = 0) ∧ W.D.read q = (lastS (W.op.getD q default), 0)) := by
  have hc := crash_cell h.ok hk keep hq
  have hr := (crash_ok h.ok keep).read (q := (q : Int)) (by omega) (by omega)
  rw [crash_get, if_neg (by simp)] at hr
  rw [h.get q hq, h.cell q hq] at hc
  refine ⟨fun e => ?_, fun e => ?_⟩
  · rw [if_pos e] at hc
    rw [hr, hc]; rfl
  · rw [if_neg e] at hc
    obtain ⟨x, hx⟩ := hc
    rw [hr, hx]
    refine ⟨found_poss _ _ e x, ?_, ?_⟩
    · split
      · exact .inl rfl
      · exact .inr rfl
    · rw [h.ok.read (by omega) (by omega), h.get q hq, if_pos (List.length_pos_iff.2 e)]
end Go.Proofs.Ytilcpcpmkklobaa

/- Maps from numbers. -/
namespace Go.Proofs.Ytilcpcpmkklobaa
set_option linter.unusedSimpArgs false
set_option linter.unusedVariables false
set_option linter.unnecessarySimpa false
open Go.RowKit

structure IM (V : Type) where
  es : List (Nat × Int × V)
  clock : Nat
section
variable {V : Type}
def imIdx (k : Int) : List (Nat × Int × V) → Nat → Option Nat
  | [], _ => none
  | (_, k', _) :: l, n => if k = k' then some n else imIdx k l (n + 1)
def imFind (k : Int) : List (Nat × Int × V) → Option V
  | [] => none
  | (_, k', v) :: l => if k = k' then some v else imFind k l
def imE (f : V → PV) (e : Nat × Int × V) : Nat × PV × PV := (e.1, pint e.2.1, f e.2.2)
def imL (f : V → PV) (m : IM V) : PMap := .map (m.es.map (imE f)) m.clock
def IM.get (m : IM V) (k : Int) : Option V := imFind k m.es
def IM.put (m : IM V) (k : Int) (v : V) : IM V := match imIdx k m.es 0 with
  | some j => ⟨match m.es[j]? with | some e => m.es.set j (e.1, k, v) | none => m.es, m.clock⟩
  | none => ⟨m.es ++ [(m.clock, k, v)], m.clock + 1⟩
def IM.ok (m : IM V) : Prop := (m.es.map (·.2.1)).Nodup
def imNil : IM V := ⟨[], 0⟩
theorem imIdx_find (f : V → PV) (k : Int) : ∀ (l : List (Nat × Int × V)) (n : Nat), mfind .int (.int .i64 k) (l.map (imE f)) n = some (imIdx k l n)
  | [], n => rfl
  | (s, k', v) :: l, n => by
    simp only [List.map_cons, imE, pint, mfind, veq, if_true, imIdx]
    by_cases h : k = k'
    · subst h; simp
    · have : (k == k') = false := by simpa using h
      rw [this, if_neg h]
      exact imIdx_find f k l (n + 1)
theorem imIdx_lt {k : Int} : ∀ {l : List (Nat × Int × V)} {n j : Nat}, imIdx k l n = some j → n ≤ j ∧ j < n + l.length ∧ ∃ s v, l[j - n]? = some (s, k, v)
  | [], n, j, h => by simp [imIdx] at h
  | (s, k', v) :: l, n, j, h => by
    simp only [imIdx] at h
    split at h
    · rename_i e; subst e; cases h; exact ⟨Nat.le_refl _, by simp, s, v, by simp⟩
    · obtain ⟨h1, h2, s', v', h3⟩ := imIdx_lt h
      refine ⟨by omega, by simp; omega, s', v', ?_⟩
      rw [show j - n = (j - (n + 1)) + 1 by omega]; simpa using h3
theorem imFind_idx {k : Int} : ∀ (l : List (Nat × Int × V)) (n : Nat), (∀ j, imIdx k l n = some j → ∃ s v, l[j - n]? = some (s, k, v) ∧ imFind k l = some v) ∧ (imIdx k l n = none → imFind k l = none)
  | [], n => ⟨fun j h => by simp [imIdx] at h, fun _ => rfl⟩
  | (s, k', v) :: l, n => by
    simp only [imIdx, imFind]
    by_cases h : k = k'
    · subst h
      simp only [if_true]
      exact ⟨fun j hj => by cases hj; exact ⟨s, v, by simp, rfl⟩, fun h => by cases h⟩
    · simp only [if_neg h]
      obtain ⟨h1, h2⟩ := imFind_idx (k := k) l (n + 1)
      refine ⟨fun j hj => ?_, h2⟩
      obtain ⟨s', v', h3, h4⟩ := h1 j hj
      have := (imIdx_lt hj).1
      exact ⟨s', v', by rw [show j - n = (j - (n + 1)) + 1 by omega]; simpa using h3, h4⟩
theorem im_mput (f : V → PV) (m : IM V) (k : Int) (v : V) {ki : TyI} (hk : ki.kind = .int .i64) : mput ki (m.es.map (imE f)) m.clock (.int .i64 k) (f v) = some (imL f (m.put k v)) := by
  unfold mput IM.put imL
  simp only [hk, keyOK, skT, decide_true, if_true, imIdx_find]
  cases h : imIdx k m.es 0 with
  | none => simp [imE, pint]
  | some j =>
    obtain ⟨-, -, s, w, h3⟩ := imIdx_lt h
    simp only [Nat.sub_zero] at h3
    simp only [List.getElem?_map, h3, Option.map_some, imE, List.map_set]
    rfl
theorem im_mget (f : V → PV) (m : IM V) (k : Int) {ki ei : TyI} {z : PV} (hk : ki.kind = .int .i64) (hz : zeroPV ei = some z) (hzb : z.bare = z) (hf : ∀ v, (f v).bare = f v) : mget ki ei (m.es.map (imE f)) (.int .i64 k) = some (match m.get k with | some v => f v | none => z, (m.get k).isSome) := by
  unfold mget IM.get
  simp only [hk, keyOK, skT, decide_true, if_true, imIdx_find]
  obtain ⟨h1, h2⟩ := imFind_idx (k := k) m.es 0
  cases h : imIdx k m.es 0 with
  | none => simp only [h2 h, hz, Option.map_some, hzb]; rfl
  | some j =>
    obtain ⟨s, v, h3, h4⟩ := h1 j h
    simp only [Nat.sub_zero] at h3
    simp only [List.getElem?_map, h3, Option.map_some, imE, h4, hf]; rfl
theorem imFind_set {k q : Int} {v : V} : ∀ {l : List (Nat × Int × V)} {n j s : Nat}, imIdx k l n = some j → imFind q (l.set (j - n) (s, k, v)) = if q = k then some v else imFind q l
  | [], n, j, s, h => by simp [imIdx] at h
  | (a, k', b) :: l, n, j, s, h => by
    simp only [imIdx] at h
    by_cases e : k = k'
    · rw [if_pos e] at h
      cases h
      subst e
      simp only [Nat.sub_self, List.set_cons_zero, imFind]
      split <;> rfl
    · rw [if_neg e] at h
      have h0 := (imIdx_lt h).1
      have ih := imFind_set (q := q) (v := v) (s := s) h
      rw [show j - n = (j - (n + 1)) + 1 by omega, List.set_cons_succ]
      simp only [imFind, ih]
      by_cases e1 : q = k'
      · rw [if_pos e1, if_neg (fun e2 => e (by rw [← e2, e1])), if_pos e1]
      · rw [if_neg e1, if_neg e1]
theorem imFind_snoc {q k : Int} {v : V} {s : Nat} : ∀ {l : List (Nat × Int × V)}, imFind k l = none → imFind q (l ++ [(s, k, v)]) = if q = k then some v else imFind q l
  | [], _ => rfl
  | (a, k', b) :: l, h => by
    simp only [imFind] at h
    by_cases e : k = k'
    · rw [if_pos e] at h; cases h
    · rw [if_neg e] at h
      simp only [List.cons_append, imFind, imFind_snoc (q := q) h]
      by_cases e1 : q = k'
      · rw [if_pos e1, if_neg (fun e2 => e (by rw [← e2, e1])), if_pos e1]
      · rw [if_neg e1, if_neg e1]
theorem IM.get_put (m : IM V) (k : Int) (v : V) (q : Int) : (m.put k v).get q = if q = k then some v else m.get q := by
  unfold IM.put IM.get
  obtain ⟨h1, h2⟩ := imFind_idx (k := k) m.es 0
  cases h : imIdx k m.es 0 with
  | none => exact imFind_snoc (h2 h)
  | some j =>
    obtain ⟨s, w, h3, -⟩ := h1 j h
    simp only [Nat.sub_zero] at h3
    simp only [h3]
    exact imFind_set (n := 0) h
theorem imFind_none {k : Int} : ∀ {l : List (Nat × Int × V)}, imFind k l = none → k ∉ l.map (·.2.1)
  | [], h => by simp
  | (a, k', b) :: l, h => by
    simp only [imFind] at h
    split at h
    · cases h
    · rename_i hne
      simp only [List.map_cons, List.mem_cons, not_or]
      exact ⟨hne, imFind_none h⟩
theorem imFind_mem {k : Int} {v : V} {s : Nat} : ∀ {l : List (Nat × Int × V)}, (l.map (·.2.1)).Nodup → (s, k, v) ∈ l → imFind k l = some v
  | [], _, h => by simp at h
  | (a, k', b) :: l, hn, h => by
    simp only [List.map_cons, List.nodup_cons] at hn
    rcases List.mem_cons.1 h with e | e
    · cases e; simp [imFind]
    · have hne : k ≠ k' := by
        rintro rfl
        exact hn.1 (List.mem_map.2 ⟨_, e, rfl⟩)
      simp only [imFind, if_neg hne]
      exact imFind_mem hn.2 e
theorem imFind_some {k : Int} {v : V} : ∀ {l : List (Nat × Int × V)}, imFind k l = some v → ∃ s, (s, k, v) ∈ l
  | [], h => by cases h
  | (a, k', b) :: l, h => by
    simp only [imFind] at h
    split at h
    · rename_i e; subst e; cases h; exact ⟨a, by simp⟩
    · obtain ⟨s, hs⟩ := imFind_some h; exact ⟨s, List.mem_cons_of_mem _ hs⟩
theorem IM.put_ok {m : IM V} (h : m.ok) (k : Int) (v : V) : (m.put k v).ok := by
  unfold IM.put IM.ok at *
  obtain ⟨h1, h2⟩ := imFind_idx (k := k) m.es 0
  cases hj : imIdx k m.es 0 with
  | none =>
    simp only [List.map_append, List.map_cons, List.map_nil, List.nodup_append, List.nodup_cons, List.not_mem_nil, not_false_eq_true, List.nodup_nil, and_true, List.mem_cons, or_false, true_and]
    refine ⟨h, fun a ha b hb => ?_⟩
    subst hb
    rintro rfl
    exact imFind_none (h2 hj) ha
  | some j =>
    obtain ⟨s, w, h3, -⟩ := h1 j hj
    simp only [Nat.sub_zero] at h3
    simp only [h3]
    have : (m.es.set j (s, k, v)).map (·.2.1) = m.es.map (·.2.1) := by
      rw [List.map_set]
      apply List.ext_getElem?
      intro q
      rw [List.getElem?_set]
      split
      · rename_i e; subst e; rw [List.getElem?_map, h3]; simp [(List.getElem?_eq_some_iff.1 h3).1]
      · rfl
    rw [this]; exact h
theorem imL_low {f : V → PV} (hf : ∀ v, Low (f v)) (m : IM V) : ∀ e ∈ m.es.map (imE f), Low e.2.1 ∧ Low e.2.2 := by
  intro e he
  obtain ⟨x, -, rfl⟩ := List.mem_map.1 he
  exact ⟨.val _, hf _⟩
end
end Go.Proofs.Ytilcpcpmkklobaa

/- law22: a disk that stops after some steps. -/
namespace Go.Proofs.Ytilcpcpmkklobaa
set_option linter.unusedSimpArgs false
set_option linter.unusedVariables false
set_option linter.unnecessarySimpa false
open Go.RowKit

/-- A disk's sectors and open writes, and nothing else. -/
def DM.base (D : DM) : DM := { D with dead := false, after := -1, steps := 0 }
theorem base_addW {D E : DM} (h : D.base = E.base) (i : Int) (s : Sec) : (addW D i s).base = (addW E i s).base := by
  obtain ⟨c, o, k, a, b, d⟩ := D
  obtain ⟨c', o', k', a', b', d'⟩ := E
  simp only [DM.base, DM.mk.injEq, and_true] at h
  obtain ⟨rfl, rfl, rfl⟩ := h
  unfold addW
  simp only
  split <;> rfl
theorem get_base {D E : DM} (h : D.base = E.base) (q : Int) : D.get q = E.get q := by
  show D.base.get q = E.base.get q
  rw [h]
theorem cell_base {D E : DM} (h : D.base = E.base) (q : Int) : D.cell q = E.cell q := by
  show D.base.cell q = E.base.cell q
  rw [h]
theorem OkD.base {n k : Nat} {D : DM} (h : OkD n k D) : OkD n k D.base := ⟨rfl, rfl, h.len, ⟨Int.le_refl _, by simp [DM.base]⟩, h.op, h.room⟩
theorem crashL_base (D : DM) (keep : List Int) : ∀ n, crashL D.base keep n = crashL D keep n
  | 0 => rfl
  | n + 1 => by
    rw [crashL, crashL, crashL_base D keep n]; rfl
theorem crash_base (D : DM) (keep : List Int) : D.base.crash keep = D.crash keep := by
  unfold DM.crash
  rw [crashL_base]; rfl

/-- What is there and what is open, put together. -/
def pour (no su : Int → Option Sec) (q : Int) : Option Sec := match no q with | some s => some s | none => su q
structure SI (n i : Nat) (D : DM) (su no : Int → Option Sec) : Prop where
  ok : OkD 16 i D.base
  dead : D.dead = decide (n < i)
  after : D.after = if i ≤ n then (n : Int) - i else 0
  steps : D.steps = (min i n : Nat)
  get : ∀ q : Nat, q < 16 → no q = if D.get q = [] then none else some (lastS (D.get q))
  cell : ∀ q : Nat, q < 16 → D.cell q = ⟨(su q).getD zeroSec, false⟩
variable {n i : Nat} {D : DM} {su no : Int → Option Sec}
theorem SI.len (h : SI n i D su no) : D.cells.length = 16 := h.ok.len
theorem SI.check (h : SI n i D su no) (hi : i ≤ n) {q : Int} (h0 : 0 ≤ q) (h1 : q < 16) : D.check q = 0 := by
  unfold DM.check
  rw [h.dead, decide_eq_false (by omega), if_neg (by simp), h.len, if_neg (by omega)]
theorem SI.check_down (h : SI n i D su no) (hi : n < i) (q : Int) : D.check q = 220 := by
  unfold DM.check
  rw [h.dead, decide_eq_true hi, if_pos rfl]
theorem SI.step (h : SI n i D su no) (hi : i < n) : D.step = (0, { D with steps := D.steps + 1, after := D.after - 1 }) := by
  have ha := h.after
  rw [if_pos (by omega)] at ha
  unfold DM.step
  rw [if_neg (by omega), if_pos (by omega)]
theorem SI.step_down (h : SI n i D su no) (hi : i = n) : D.step = (220, { D with dead := true }) := by
  have ha := h.after
  rw [if_pos (by omega)] at ha
  unfold DM.step
  rw [if_pos (by omega)]
theorem SI.sync_up (h : SI n i D su no) (hi : i < n) : D.sync.1 = 0 ∧ SI n (i + 1) D.sync.2 (pour no su) (fun _ => none) := by
  have e : D.sync = (0, DM.synced { D with steps := D.steps + 1, after := D.after - 1 }) := by
    unfold DM.sync
    rw [if_pos (h.check (by omega) (by omega) (by omega)), h.step hi, if_pos rfl]
  have eb : (DM.synced { D with steps := D.steps + 1, after := D.after - 1 }).base = D.base.sync.2.base := by
    rw [h.ok.sync (by decide)]; rfl
  have ha := h.after
  rw [if_pos (by omega)] at ha
  rw [e]
  refine ⟨rfl, by rw [eb]; exact (h.ok.sync_ok (by decide)).2.1.base, ?_, ?_, ?_, fun q hq => ?_, fun q hq => ?_⟩
  · show D.dead = _
    rw [h.dead, decide_eq_false (by omega), decide_eq_false (by omega)]
  · show D.after - 1 = _
    rw [if_pos (by omega)]; omega
  · show D.steps + 1 = _
    rw [h.steps]; omega
  · rw [get_base eb, get_find, (h.ok.sync_ok (by decide)).2.2.2]; rfl
  · rw [cell_base eb, sync_cell h.ok (by decide) hq]
    have e1 : D.base.get q = D.get q := rfl
    have e2 : D.base.cell q = D.cell q := rfl
    unfold pour
    rw [e1, e2, h.get q hq, h.cell q hq]
    by_cases c : D.get q = []
    · rw [if_pos c, if_pos c]
    · rw [if_neg c, if_neg c]; rfl
theorem SI.write_up (h : SI n i D su no) (hi : i < n) (hn : n ≤ 1000) {k : Nat} (hk : k < 16) (s : Sec) : (D.write k s).1 = 0 ∧ SI n (i + 1) (D.write k s).2 su (fun q => if q = k then some s else no q) := by
  have e : D.write k s = (0, addW { D with steps := D.steps + 1, after := D.after - 1 } k s) := by
    unfold DM.write
    rw [if_pos (h.check (by omega) (by omega) (by omega)), h.step hi, if_pos rfl]
  have eb : (addW { D with steps := D.steps + 1, after := D.after - 1 } k s).base = (addW D.base k s).base := base_addW (D := { D with steps := D.steps + 1, after := D.after - 1 }) (E := D.base) rfl _ _
  have ha := h.after
  rw [if_pos (by omega)] at ha
  obtain ⟨c1, c2, c3, c4⟩ := addW_cells { D with steps := D.steps + 1, after := D.after - 1 } k s
  obtain ⟨o1, o2⟩ := addW_op h.ok (i := (k : Int)) (by omega) (by omega) (by omega) s
  rw [e]
  refine ⟨rfl, ?_, ?_, ?_, ?_, fun q hq => ?_, fun q hq => ?_⟩
  · rw [eb]
    exact ⟨rfl, rfl, by rw [← h.ok.len]; exact congrArg List.length (addW_cells D.base k s).1, ⟨Int.le_refl _, by simp [DM.base]; omega⟩, o1, o2⟩
  · show (addW _ _ _).dead = _
    rw [c4]
    show D.dead = _
    rw [h.dead, decide_eq_false (by omega), decide_eq_false (by omega)]
  · show (addW _ _ _).after = _
    rw [c3, if_pos (by omega)]
    show D.after - 1 = _
    omega
  · show (addW _ _ _).steps = _
    rw [c2]
    show D.steps + 1 = _
    rw [h.steps]; omega
  · rw [get_base eb, get_addW h.ok]
    have e1 : D.base.get q = D.get q := rfl
    have e2 : D.base.get k = D.get k := rfl
    rw [e1, e2, h.get q hq]
    by_cases c : (q : Int) = k
    · rw [if_pos c, if_pos c, if_neg (by simp), lastS_snoc]
    · rw [if_neg c, if_neg c]
  · rw [cell_base eb]
    have := (addW_cells D.base k s).1
    unfold DM.cell
    rw [this]
    exact h.cell q hq
def stopD (n i : Nat) (D : DM) : DM := if i = n then { D with dead := true } else D
theorem SI.stop (h : SI n i D su no) (hi : n ≤ i) : SI n (i + 1) (stopD n i D) su no := by
  unfold stopD
  have hb : (if i = n then { D with dead := true } else D).base = D.base := by split <;> rfl
  refine ⟨by rw [hb]; exact h.ok.mono (by omega), ?_, ?_, ?_, fun q hq => by rw [get_base hb]; exact h.get q hq, fun q hq => by rw [cell_base hb]; exact h.cell q hq⟩
  · by_cases c : i = n
    · rw [if_pos c, decide_eq_true (show n < i + 1 by omega)]
    · rw [if_neg c, h.dead, decide_eq_true (show n < i by omega), decide_eq_true (show n < i + 1 by omega)]
  · have ha := h.after
    by_cases c : i = n
    · rw [if_pos c]
      rw [if_pos (by omega)] at ha
      show D.after = if i + 1 ≤ n then _ else 0
      rw [if_neg (show ¬ (i + 1 ≤ n) by omega)]
      omega
    · rw [if_neg c]
      rw [if_neg (by omega)] at ha
      rw [if_neg (show ¬ (i + 1 ≤ n) by omega)]
      exact ha
  · have hs := h.steps
    by_cases c : i = n
    · rw [if_pos c]
      show D.steps = _
      omega
    · rw [if_neg c]; omega
theorem SI.sync_down (h : SI n i D su no) (hi : n ≤ i) : D.sync = (220, stopD n i D) := by
  unfold DM.sync
  by_cases c : i = n
  · rw [if_pos (h.check (by omega) (by omega) (by omega)), h.step_down c]; unfold stopD; rw [if_pos c]; rfl
  · rw [h.check_down (by omega), if_neg (by decide)]; unfold stopD; rw [if_neg c]
theorem SI.write_down (h : SI n i D su no) (hi : n ≤ i) {k : Nat} (hk : k < 16) (s : Sec) : D.write k s = (220, stopD n i D) := by
  unfold DM.write
  by_cases c : i = n
  · rw [if_pos (h.check (by omega) (by omega) (by omega)), h.step_down c]; unfold stopD; rw [if_pos c]; rfl
  · rw [h.check_down (by omega), if_neg (by decide)]; unfold stopD; rw [if_neg c]
theorem SI.read (h : SI n i D su no) {q : Nat} (hq : q < 16) : (D.read q).2 = if n < i then 220 else 0 := by
  unfold DM.read
  by_cases c : n < i
  · rw [h.check_down c, if_neg (by decide), if_pos c]
  · rw [h.check (by omega) (by omega) (by omega), if_pos rfl, if_neg c]
    split
    · rfl
    · rw [h.cell q hq]; rfl
theorem SI.crash_read (h : SI n i D su no) (hi : i ≤ 1000) (keep : List Int) {q : Nat} (hq : q < 16) (hno : no q = none) : (D.crash keep).read q = ((su q).getD zeroSec, 0) := by
  rw [← crash_base]
  have hc := crash_cell h.ok (by omega) keep hq
  have hr := (crash_ok h.ok keep).read (q := (q : Int)) (by omega) (by omega)
  rw [crash_get, if_neg (by simp)] at hr
  have hg := h.get q hq
  rw [hno] at hg
  have hge : D.base.get q = [] := by
    show D.get q = []
    by_cases c : D.get q = []
    · exact c
    · rw [if_neg c] at hg; cases hg
  rw [if_pos hge] at hc
  have e2 : D.base.cell q = D.cell q := rfl
  rw [hr, hc, e2, h.cell q hq]; rfl
theorem SI.start (hn : n ≤ 1000) : SI n 0 { newD 16 with after := maxI n (-1) } (fun _ => none) (fun _ => none) := by
  refine ⟨(newD_ok 16).base, rfl, ?_, rfl, fun q hq => ?_, fun q hq => ?_⟩
  · show maxI n (-1) = _
    unfold maxI
    rw [if_neg (by omega), if_pos (by omega)]; omega
  · have : DM.get { newD 16 with after := maxI n (-1) } q = [] := by rw [get_find]; rfl
    rw [this]; rfl
  · show (List.replicate 16 (⟨zeroSec, false⟩ : DCell)).getD _ default = _
    rw [Int.toNat_natCast, getD_rep _ _ _ _ hq]; rfl
/-- The calls of the law, one after the other. -/
def opS (D : DM) (x : ROp) : Int × DM := if x.kind.tmod 3 = 0 then D.sync else D.write (kAt x.a) (fillB x.b)
def stD (n : Nat) (l : List ROp) : Nat → DM
  | 0 => { newD 16 with after := maxI n (-1) }
  | i + 1 => (opS (stD n l i) (l.getD i default)).2
theorem SI.op (h : SI n i D su no) (hn : n ≤ 1000) (x : ROp) : (opS D x).1 = (if i < n then 0 else 220) ∧ SI n (i + 1) (opS D x).2 (if i < n ∧ x.kind.tmod 3 = 0 then (pour no su) else su) (if i < n then (if x.kind.tmod 3 = 0 then (fun _ => none) else (fun q => if q = kAt x.a then some (fillB x.b) else no q)) else no) := by
  unfold opS
  have hk := kAt_lt x.a
  by_cases hi : i < n
  · by_cases c : x.kind.tmod 3 = 0
    · rw [if_pos c, if_pos hi, if_pos ⟨hi, c⟩, if_pos hi, if_pos c]
      exact h.sync_up hi
    · rw [if_neg c, if_pos hi, if_neg (fun h : i < n ∧ _ => c h.2), if_pos hi, if_neg c]
      exact h.write_up hi hn hk _
  · have hst := h.stop (by omega)
    by_cases c : x.kind.tmod 3 = 0
    · rw [if_pos c, h.sync_down (by omega), if_neg hi, if_neg (fun h => hi h.1), if_neg hi]
      exact ⟨rfl, hst⟩
    · rw [if_neg c, h.write_down (by omega) hk, if_neg hi, if_neg (fun h => hi h.1), if_neg hi]
      exact ⟨rfl, hst⟩
end Go.Proofs.Ytilcpcpmkklobaa

/- law22: DiskStops, the walk. -/
namespace Go.Proofs.Ytilcpcpmkklobaa
set_option linter.unusedSimpArgs false
set_option linter.unusedVariables false
set_option linter.unnecessarySimpa false
open Go.RowKit

/-- What is met of a map so far goes into another one. -/
structure Poured (no su su' : IM Sec) (seen : List Nat) : Prop where
  old : ∀ q, (∀ s v, (s, q, v) ∈ no.es → s ∉ seen) → su'.get q = su.get q
  new : ∀ s q v, (s, q, v) ∈ no.es → s ∈ seen → su'.get q = some v
theorem Poured.start (no su : IM Sec) : Poured no su su [] := ⟨fun _ _ => rfl, fun _ _ _ _ h => by cases h⟩
theorem Poured.step {no su su' : IM Sec} {seen : List Nat} (h : Poured no su su' seen) (hk : no.ok) (hs : (no.es.map (·.1)).Nodup) {e : Nat × Int × Sec} (he : e ∈ no.es) : Poured no su (su'.put e.2.1 e.2.2) (seen ++ [e.1]) := by
  obtain ⟨s, q, v⟩ := e
  have key : ∀ s' v', (s', q, v') ∈ no.es → v' = v := fun s' v' h' => by
    have h1 := imFind_mem hk he
    have h2 := imFind_mem hk h'
    rw [h1] at h2
    exact (Option.some.inj h2).symm
  have uniq : ∀ e' ∈ no.es, e'.1 = s → e' = (s, q, v) := fun e' h' e1 => by
    obtain ⟨a, ha⟩ := List.getElem?_of_mem h'
    obtain ⟨b, hb⟩ := List.getElem?_of_mem he
    have g1 : (no.es.map (·.1))[a]? = some s := by rw [List.getElem?_map, ha]; simp [e1]
    have g2 : (no.es.map (·.1))[b]? = some s := by rw [List.getElem?_map, hb]; rfl
    have hab : a = b := (List.getElem?_inj (List.getElem?_eq_some_iff.1 g1).1 hs).1 (by rw [g1, g2])
    subst hab
    rw [ha] at hb
    exact Option.some.inj hb
  refine ⟨fun q' hq' => ?_, fun s' q' v' h' hs' => ?_⟩
  · rw [IM.get_put]
    have hne : q' ≠ q := by
      rintro rfl
      exact hq' s v he (by simp)
    rw [if_neg hne]
    exact h.old q' fun s' v' h' hin => hq' s' v' h' (by simp [hin])
  · rw [IM.get_put]
    rcases List.mem_append.1 hs' with hin | hin
    · have := h.new s' q' v' h' hin
      by_cases c : q' = q
      · subst c; rw [if_pos rfl, key s' v' h']
      · rw [if_neg c, this]
    · simp at hin
      subst hin
      have := uniq _ h' rfl
      cases this
      rw [if_pos rfl]
theorem Poured.done {no su su' : IM Sec} {seen : List Nat} (h : Poured no su su' seen) (hall : ∀ e ∈ no.es, e.1 ∈ seen) (q : Int) : su'.get q = pour no.get su.get q := by
  unfold pour
  cases hg : no.get q with
  | some v =>
    obtain ⟨s, hs⟩ := imFind_some hg
    exact h.new s q v hs (hall _ hs)
  | none =>
    exact h.old q fun s v hm => by
      exfalso
      exact imFind_none hg (List.mem_map.2 ⟨_, hm, rfl⟩)
def leftN (no : IM Sec) (seen : List Nat) : Nat := (no.es.filter fun e => decide (e.1 ∉ seen)).length
theorem leftN_lt {no : IM Sec} {seen : List Nat} {e : Nat × Int × Sec} (he : e ∈ no.es) (hns : e.1 ∉ seen) : leftN no (seen ++ [e.1]) < leftN no seen := by
  unfold leftN
  have : ∀ l : List (Nat × Int × Sec), e ∈ l → (l.filter fun x => decide (x.1 ∉ seen ++ [e.1])).length < (l.filter fun x => decide (x.1 ∉ seen)).length := by
    have le : ∀ l : List (Nat × Int × Sec), (l.filter fun x => decide (x.1 ∉ seen ++ [e.1])).length ≤ (l.filter fun x => decide (x.1 ∉ seen)).length := by
      intro l
      induction l with
      | nil => simp
      | cons a l ih =>
        simp only [List.filter_cons]
        by_cases c : a.1 ∉ seen ++ [e.1]
        · have c2 : a.1 ∉ seen := fun h => c (by simp [h])
          simp only [c, c2, not_false_eq_true, decide_true, if_true, List.length_cons]
          omega
        · have : decide (a.1 ∉ seen ++ [e.1]) = false := decide_eq_false c
          rw [this]
          simp only [Bool.false_eq_true, if_false]
          split
          · simp only [List.length_cons]; omega
          · exact ih
    intro l hl
    induction l with
    | nil => simp at hl
    | cons a l ih =>
      simp only [List.filter_cons]
      rcases List.mem_cons.1 hl with rfl | hl
      · have c1 : decide (e.1 ∉ seen ++ [e.1]) = false := decide_eq_false (by simp)
        have c2 : decide (e.1 ∉ seen) = true := decide_eq_true hns
        rw [c1, c2]
        simp only [Bool.false_eq_true, if_false, if_true, List.length_cons]
        have := le l
        omega
      · have := ih hl
        by_cases c : a.1 ∉ seen ++ [e.1]
        · have c2 : a.1 ∉ seen := fun h => c (by simp [h])
          simp only [c, c2, not_false_eq_true, decide_true, if_true, List.length_cons]
          omega
        · have : decide (a.1 ∉ seen ++ [e.1]) = false := decide_eq_false c
          rw [this]
          simp only [Bool.false_eq_true, if_false]
          split
          · simp only [List.length_cons]; omega
          · assumption
  exact this no.es he
def smE (m : IM Sec) : PMap := imL psec m
theorem smE_low (m : IM Sec) : ∀ e ∈ m.es.map (imE psec), Low e.2.1 ∧ Low e.2.2 := imL_low psec_low m
theorem sm_get (m : IM Sec) (k : Int) {ki ei : TyI} (hk : ki.kind = .int .i64) (hz : zeroPV ei = some (psec zeroSec)) : mget ki ei (m.es.map (imE psec)) (.int .i64 k) = some (psec ((m.get k).getD zeroSec), (m.get k).isSome) := by
  rw [im_mget psec m k hk hz rfl (fun v => rfl)]
  cases m.get k <;> rfl
theorem SI.calls {n i : Nat} {D : DM} {su no : Int → Option Sec} (h : SI n i D su no) (hi : i ≤ 1000) (hn : n ≤ 1000) : (0 ≤ D.steps ∧ D.steps ≤ 1000000000 ∧ -1 ≤ D.after) ∧ D.after ≤ 9223372036854775807 ∧ (∀ e ∈ D.op, e.2.2.length ≤ 1000000000) ∧ D.cells.length ≤ 1000000000 ∧ opOK D.cells.length D.op := by
  have h1 := h.steps
  have h2 := h.after
  refine ⟨⟨by omega, by omega, ?_⟩, ?_, fun e he => by have := h.ok.room e he; omega, by rw [h.len]; decide, by rw [h.len]; exact h.ok.op⟩
  · rw [h2]; split <;> omega
  · rw [h2]; split <;> omega
end Go.Proofs.Ytilcpcpmkklobaa

/- law22: DiskStops, the walk. -/
namespace Go.Proofs.Ytilcpcpmkklobaa
set_option linter.unusedSimpArgs false
set_option linter.unusedVariables false
set_option linter.unnecessarySimpa false
open Go.RowKit

set_option maxRecDepth 10000 in
set_option maxHeartbeats 8000000 in
theorem pw_stops (hsan : PCalls Try.prog 8 [] (· = pbool true)) (l : List ROp) (w : Int) (keep : List Int) (hl : l.length ≤ 1000000000000000) (hw : 0 ≤ w ∧ w < 256) (hk : keep.length ≤ 1000000000000000) (hki : ∀ x ∈ keep, -9223372036854775808 ≤ x ∧ x ≤ 9223372036854775807) : PCalls Try.prog 5 [props l, pbyte w, pints keep] (· = pbool true) := by
  have hlp := low_props l
  have hkp : Low (pints keep) := .sl _ _ _ _ (low_map (fun _ => Low.val _) _)
  refine pcalls_of_pw typeTab_ok Try.func5 rfl (by kernel_rfl) (by intro p hp; simp at hp; rcases hp with rfl | rfl | rfl; exact hlp; exact .val _; exact hkp) (by simp [props, pbyte, pints, PV.ownB]) (Nat.le_of_ble_eq_true rfl) ?_
  by_cases h30 : 40 < l.length
  · refine wk ?_
    exact retP rfl (by exact lw) rfl
  by_cases h20 : 20 < keep.length
  · refine wk ?_
    exact retP rfl (by exact lw) rfl
  obtain ⟨n, rfl⟩ : ∃ n : Nat, w = n := ⟨w.toNat, by omega⟩
  have hnew := dc_New 16 (by decide) 900001 900002 900003 (by decide)
  rw [show (16 : Int).toNat = 16 from rfl] at hnew
  have harm : HCalls Try.prog 20 [.ptr 900001 0, pint n] (dG 900001 900002 900003 (newD 16)) (dMs 900003 (newD 16)) (.tup []) (dG 900001 900002 900003 (stD n l 0)) (dMs 900003 (stD n l 0)) := dc_Arm (newD 16) n 900001 900002 900003 (by decide)
  have s0 : SI n 0 (stD n l 0) (fun _ => none) (fun _ => none) := SI.start (by omega)
  refine wk ?_
  refine PWops.mkM rfl rfl rfl rfl ?_
  refine PWops.mkM rfl rfl rfl rfl ?_
  refine wk ?_
  clear hnew harm
  refine PW.loop (fun x : Nat × IM Sec × IM Sec => ((((((((((((((bot.setb 900001 (dB 900002 900003 (stD n l x.1))).setb 900002 (dC (stD n l x.1))).setm 900003 (dM (stD n l x.1))).setm 7000 (imL psec x.2.1)).setm 7001 (imL psec x.2.2)).put 0 (props l)).put 1 (pbyte n)).put 2 (pints keep)).put 6 (pbool false)).put 7 (.ptr 900001 0)).put 8 (.mref 7000)).put 9 (.mref 7001)).put 42 (props l)).put 43 (pint l.length)).put 44 (pint x.1)) (fun x => x.1 ≤ l.length ∧ SI n x.1 (stD n l x.1) x.2.1.get x.2.2.get ∧ x.2.2.ok) (fun x => l.length - x.1) (0, imNil, imNil) ⟨Nat.zero_le _, s0, List.nodup_nil⟩ ?_ ?_
  · have b1 := dC_low (stD n l 0)
    have b2 := dM_low (stD n l 0)
    have b3 := smE_low imNil
    exact sb
  · rintro ⟨i, su, no⟩ ⟨hi, hS, hok⟩
    dsimp only at hi hS hok ⊢
    have b1 := dC_low (stD n l (i + 1))
    have b2 := dM_low (stD n l (i + 1))
    by_cases hlt : i < l.length
    · clear hk hki
      have hD1 : stD n l (i + 1) = (opS (stD n l i) (l.getD i default)).2 := rfl
      obtain ⟨o1, o2⟩ := hS.op (by omega) (l.getD i default)
      obtain ⟨q1, q2, q3, q4, q5⟩ := hS.calls (by omega) (by omega)
      have hkm := kAt_mod (l.getD i default).a
      have ht := tmod_lo (l.getD i default).a 16 (by decide)
      have hfl := pw_filled (l.getD i default).b
      refine wk ?_
      generalize l.getD i default = x at *
      generalize hT : x.a.tmod 16 = tm at *
      refine PWops.remY (z := tm) rfl rfl rfl rfl rfl rfl (by decide) hT ?_
      refine wk ?_
      rw [hkm]
      refine wk ?_
      generalize hK : x.kind.tmod 3 = kt at *
      refine PWops.remY (z := kt) rfl rfl rfl rfl rfl rfl (by decide) hK ?_
      by_cases c : kt = 0
      · have e : opS (stD n l i) x = (stD n l i).sync := by unfold opS; rw [if_pos (by rw [hK]; exact c)]
        rw [e] at hD1 o1 o2
        have hsy := dc_Sync (stD n l i) q1 q2 q4 q5 900001 900002 900003 (by decide)
        rw [o1, ← hD1] at hsy
        rw [← hD1] at o2
        generalize hDD : stD n l (i + 1) = D1 at *
        generalize stD n l i = D at *
        clear e o1 hD1 q1 q2 q3 q4 q5 hfl
        by_cases hin : i < n
        · rw [if_pos hin] at hsy
          rw [if_pos ⟨hin, c⟩, if_pos hin, if_pos c] at o2
          refine wk ?_
          refine PWops.rng rfl rfl rfl rfl rfl rfl rfl rfl ?_
          refine wk ?_
          refine PW.stamps (id := 7001) rfl (fun hs => ?_)
          obtain ⟨hs1, hs2⟩ := hs
          refine PW.loop (fun y : IM Sec × List Nat => (((((((((((((((((((bot.setb 900001 (dB 900002 900003 D1)).setb 900002 (dC D1)).setm 900003 (dM D1)).setm 7000 (imL psec y.1)).setm 7001 (imL psec no)).setm 16001 (.iter 7001 no.clock y.2 no.clock)).put 0 (props l)).put 1 (pbyte n)).put 2 (pints keep)).put 6 (pbool false)).put 7 (.ptr 900001 0)).put 8 (.mref 7000)).put 9 (.mref 7001)).put 10 (pint i)).put 12 (pint 0)).put 42 (props l)).put 43 (pint l.length)).put 44 (pint i)).put 63 (.ptr 16001 0))) (fun y => Poured no su y.1 y.2) (fun y => leftN no y.2) (su, []) (Poured.start no su) ?_ ?_
          · have b3 := smE_low su
            have b4 := smE_low no
            exact sb
          · rintro ⟨su', seen⟩ hP
            dsimp only at hP
            have b3 := smE_low su'
            have b4 := smE_low no
            refine PW.seq ?_
            refine PWnext typeTab_ok (it := 16001) (mid := 7001) (es := no.es.map (imE psec)) (clock := no.clock) rfl rfl rfl (by decide) rfl ?_ ?_ ?_
            · cases hsn : no.es with
              | nil => exact .inr (.inl rfl)
              | cons e r =>
                refine .inr (.inr ⟨imE psec e, by simp, ?_⟩)
                exact hs2 (imE psec e) (List.mem_map_of_mem (by rw [hsn]; simp))
            · intro hno
              have hall : ∀ e ∈ no.es, e.1 ∈ seen := fun e he => hno (imE psec e) (List.mem_map_of_mem he) (hs2 (imE psec e) (List.mem_map_of_mem he))
              have hsu : su'.get = pour no.get su.get := funext fun q => hP.done hall q
              rw [← hsu] at o2
              clear hno hall hsu hP
              refine wk ?_
              refine PWops.mkM rfl rfl rfl rfl ?_
              refine wk ?_
              refine loopP (i + 1, su', imNil) ⟨by show i + 1 ≤ _; omega, by show SI n (i + 1) (stD n l (i + 1)) _ _; rw [hDD]; exact o2, List.nodup_nil⟩ (by show l.length - (i + 1) < l.length - i; omega) ?_
              dsimp only
              rw [hDD]
              have b5 := smE_low imNil
              refine Sub.other (κ := renN [(7001, 20000)]) [7001, 7000, 900003, 900002, 900001] (by (repeat (first | exact SubR.bot | ((with_reducible refine SubR.isp ?_) ; refine SubR.put ?_ (by (first | exact .inl (.ptr _ _ rfl) | exact .inl (.msl _ _ _ _ rfl) | exact .inl (.mref _ rfl) | exact .inl (.low _ (by (first | exact low_mapI | exact low_mapS | exact low_mapB | assumption | exact hlow _ | exact hlow _ _ | exact Low.agg _ (low_map (fun _ => Low.val _) _) | (simp [low_pu32, low_pu64, low_val, low_nilsl, low_sl, low_ep, low_agg, low_tup, low_fn, low_pint, low_pstr, low_pbool, low_pints, low_pstrs, low_pbyte, low_pbytes, hlow] ; done) | (simp [low_pu32, low_pu64, low_val, low_nilsl, low_sl, low_ep, low_agg, low_tup, low_fn, low_pint, low_pstr, low_pbool, low_pints, low_pstrs, low_pbyte, low_pbytes] ; done) | simp [low_pu32, low_pu64, low_val, low_nilsl, low_sl, low_ep, low_agg, low_tup, low_fn, low_pint, low_pstr, low_pbool, low_pints, low_pstrs, low_pbyte, low_pbytes, low_pattrs, low_pdefs, low_pschema, low_pentry]))) | exact .inr (.inl (.low _ (by (first | exact low_mapI | exact low_mapS | exact low_mapB | assumption | exact hlow _ | exact hlow _ _ | exact Low.agg _ (low_map (fun _ => Low.val _) _) | (simp [low_pu32, low_pu64, low_val, low_nilsl, low_sl, low_ep, low_agg, low_tup, low_fn, low_pint, low_pstr, low_pbool, low_pints, low_pstrs, low_pbyte, low_pbytes, hlow] ; done) | (simp [low_pu32, low_pu64, low_val, low_nilsl, low_sl, low_ep, low_agg, low_tup, low_fn, low_pint, low_pstr, low_pbool, low_pints, low_pstrs, low_pbyte, low_pbytes] ; done) | simp [low_pu32, low_pu64, low_val, low_nilsl, low_sl, low_ep, low_agg, low_tup, low_fn, low_pint, low_pstr, low_pbool, low_pints, low_pstrs, low_pbyte, low_pbytes, low_pattrs, low_pdefs, low_pschema, low_pentry])))) | exact .inr (.inr ⟨_, _, rfl, rfl⟩)))) | ((with_reducible refine SubR.isb ?_) ; refine SubR.setb ?_ rfl rfl (by (first | exact RenQL.low (by first | assumption | exact hlow _ | exact hlow _ _ | exact low_map (fun _ => Low.val _) _) | exact RenQL.lowE (by assumption) (low_map (fun _ => Low.val _) _) | ((repeat (refine RenQL.cons (by (first | exact .inl (.ptr _ _ rfl) | exact .inl (.msl _ _ _ _ rfl) | exact .inl (.mref _ rfl) | exact .inl (.low _ (by (first | exact low_mapI | exact low_mapS | exact low_mapB | assumption | exact hlow _ | exact hlow _ _ | exact Low.agg _ (low_map (fun _ => Low.val _) _) | (simp [low_pu32, low_pu64, low_val, low_nilsl, low_sl, low_ep, low_agg, low_tup, low_fn, low_pint, low_pstr, low_pbool, low_pints, low_pstrs, low_pbyte, low_pbytes, hlow] ; done) | (simp [low_pu32, low_pu64, low_val, low_nilsl, low_sl, low_ep, low_agg, low_tup, low_fn, low_pint, low_pstr, low_pbool, low_pints, low_pstrs, low_pbyte, low_pbytes] ; done) | simp [low_pu32, low_pu64, low_val, low_nilsl, low_sl, low_ep, low_agg, low_tup, low_fn, low_pint, low_pstr, low_pbool, low_pints, low_pstrs, low_pbyte, low_pbytes, low_pattrs, low_pdefs, low_pschema, low_pentry]))) | exact .inr (.inl (.low _ (by (first | exact low_mapI | exact low_mapS | exact low_mapB | assumption | exact hlow _ | exact hlow _ _ | exact Low.agg _ (low_map (fun _ => Low.val _) _) | (simp [low_pu32, low_pu64, low_val, low_nilsl, low_sl, low_ep, low_agg, low_tup, low_fn, low_pint, low_pstr, low_pbool, low_pints, low_pstrs, low_pbyte, low_pbytes, hlow] ; done) | (simp [low_pu32, low_pu64, low_val, low_nilsl, low_sl, low_ep, low_agg, low_tup, low_fn, low_pint, low_pstr, low_pbool, low_pints, low_pstrs, low_pbyte, low_pbytes] ; done) | simp [low_pu32, low_pu64, low_val, low_nilsl, low_sl, low_ep, low_agg, low_tup, low_fn, low_pint, low_pstr, low_pbool, low_pints, low_pstrs, low_pbyte, low_pbytes, low_pattrs, low_pdefs, low_pschema, low_pentry])))) | exact .inr (.inr ⟨_, _, rfl, rfl⟩))) ?_)) ; exact RenQL.nil)))) | ((with_reducible refine SubR.ism ?_) ; refine SubR.setm ?_ rfl rfl (by (first | exact ⟨rfl, rfl, rfl, rfl, rfl⟩ | exact RenM.low (by first | assumption | exact hlowm _ | exact hlowm _ _))))))) ?_ rfl rfl
              exact kn_put (kn_put (kn_put (kn_put (kn_put (kn_put (kn_put (kn_put (kn_put (kn_put (kn_setm (kn_setm (kn_setm (kn_setb (kn_setb kn_bot))))))))))))))
            · intro e' he' hns
              obtain ⟨e, he, rfl⟩ := List.mem_map.1 he'
              have hfs := find_stamp hs1 he'
              refine wk ?_
              refine PWops.ent (seen := seen) (s := e.1) rfl rfl rfl rfl rfl rfl rfl hfs rfl ?_
              refine wk ?_
              refine PWops.mput rfl rfl rfl rfl rfl rfl rfl rfl rfl rfl rfl rfl (im_mput psec su' e.2.1 e.2.2 rfl) ?_
              refine wk ?_
              refine loopP (su'.put e.2.1 e.2.2, seen ++ [e.1]) (hP.step hok (by rw [List.map_map] at hs1; exact hs1) he) (leftN_lt he hns) ?_
              have b5 := smE_low (su'.put e.2.1 e.2.2)
              exact sb
        · rw [if_neg hin] at hsy
          rw [if_neg (fun h => hin h.1), if_neg hin] at o2
          refine wk ?_
          have b3 := smE_low su
          have b4 := smE_low no
          refine loopP (i + 1, su, no) ⟨by show i + 1 ≤ _; omega, by show SI n (i + 1) (stD n l (i + 1)) _ _; rw [hDD]; exact o2, hok⟩ (by show l.length - (i + 1) < l.length - i; omega) ?_
          dsimp only
          rw [hDD]
          exact sb
      · have e : opS (stD n l i) x = (stD n l i).write (kAt x.a) (fillB x.b) := by unfold opS; rw [if_neg (by rw [hK]; exact c)]
        rw [e] at hD1 o1 o2
        have hwr := dc_Write (stD n l i) (kAt x.a) (fillB x.b) q1 q2 q3 900001 900002 900003 (by decide)
        rw [o1, ← hD1] at hwr
        rw [← hD1] at o2
        generalize hDD : stD n l (i + 1) = D1 at *
        generalize stD n l i = D at *
        clear e o1 hD1 q1 q2 q3 q4 q5
        by_cases hin : i < n
        · rw [if_pos hin] at hwr
          rw [if_neg (fun h => c h.2), if_pos hin, if_neg c] at o2
          have hgp : (fun q => if q = ((kAt x.a : Nat) : Int) then some (fillB x.b) else no.get q) = (no.put (kAt x.a : Nat) (fillB x.b)).get := funext fun q => (IM.get_put no _ _ q).symm
          rw [hgp] at o2
          clear hgp
          refine wk ?_
          refine PWops.mput rfl rfl rfl rfl rfl rfl rfl rfl rfl rfl rfl rfl (im_mput psec no (kAt x.a : Nat) (fillB x.b) rfl) ?_
          refine wk ?_
          have b3 := smE_low su
          have b4 := smE_low (no.put (kAt x.a : Nat) (fillB x.b))
          refine loopP (i + 1, su, no.put (kAt x.a : Nat) (fillB x.b)) ⟨by show i + 1 ≤ _; omega, by show SI n (i + 1) (stD n l (i + 1)) _ _; rw [hDD]; exact o2, IM.put_ok hok _ _⟩ (by show l.length - (i + 1) < l.length - i; omega) ?_
          dsimp only
          rw [hDD]
          exact sb
        · rw [if_neg hin] at hwr
          rw [if_neg (fun h => hin h.1), if_neg hin] at o2
          refine wk ?_
          have b3 := smE_low su
          have b4 := smE_low no
          refine loopP (i + 1, su, no) ⟨by show i + 1 ≤ _; omega, by show SI n (i + 1) (stD n l (i + 1)) _ _; rw [hDD]; exact o2, hok⟩ (by show l.length - (i + 1) < l.length - i; omega) ?_
          dsimp only
          rw [hDD]
          exact sb
    · obtain rfl : i = l.length := by omega
      clear b1 b2
      obtain ⟨q1, q2, q3, q4, q5⟩ := hS.calls (by omega) (by omega)
      have hr3 := hS.read (q := 3) (by decide)
      have hcr := fun (q : Nat) (hq : q < 16) (h : no.get (q : Int) = none) => hS.crash_read (by omega) keep hq h
      have hrd := dc_Read (stD n l l.length) 3 q4 q3 900001 900002 900003 (by decide)
      have hdn := dc_Down (stD n l l.length) 900001 900002 900003 (by decide)
      have hst := dc_Steps (stD n l l.length) 900001 900002 900003 (by decide)
      have hol : (stD n l l.length).op.length ≤ 1000000000 := by have := opOK_len q5; omega
      have kC := dc_Crash (stD n l l.length) keep (by rw [hS.len]; decide) q5 hol (by omega) hki 900001 900002 900003 900005 900006 900007 (by decide)
      have c4 := crash_ok hS.ok keep
      rw [crash_base] at c4
      have kQ := fun (q : Nat) (hq : q < 16) => dc_Read ((stD n l l.length).crash keep) (q : Nat) (by rw [c4.len]; decide) (fun e he => by have := c4.room e he; omega) 900005 900006 900007 (by decide)
      rw [hS.dead] at hdn
      rw [hS.steps] at hst
      have hr3' : ((stD n l l.length).read 3).2 = if n < l.length then 220 else 0 := hr3
      rw [hr3'] at hrd
      clear hr3 hr3' q1 q2 q3 q4 q5 c4 hS s0 hk
      have hmin : (if false = true then (if (n : Int) > (l.length : Int) then (n : Int) else (l.length : Int)) else if (n : Int) < (l.length : Int) then (n : Int) else (l.length : Int)) = ((min l.length n : Nat) : Int) := by
        rw [if_neg (by decide)]
        split <;> omega
      generalize ((stD n l l.length).read 3).1 = s3 at *
      generalize (stD n l l.length).crash keep = C at *
      generalize stD n l l.length = D at *
      by_cases hin : n < l.length
      · rw [if_pos hin] at hrd
        rw [decide_eq_true hin] at hdn
        refine wk ?_
        rw [hmin]
        refine wk ?_
        refine PW.loop (fun k : Nat => (((((((((((((((bot.setb 900001 (dB 900002 900003 D)).setb 900002 (dC D)).setm 900003 (dM D)).setb 900005 (dB 900006 900007 C)).setb 900006 (dC C)).setm 900007 (dM C)).setm 7000 (imL psec su)).setm 7001 (imL psec no)).put 6 (pbool false)).put 7 (.ptr 900001 0)).put 8 (.mref 7000)).put 9 (.mref 7001)).put 18 (.ptr 900005 0)).put 140 (pint k)))) (fun k => k ≤ 16) (fun k => 16 - k) 0 (Nat.zero_le _) ?_ ?_
        · have b1 := dC_low D
          have b2 := dM_low D
          have b3 := dC_low C
          have b4 := dM_low C
          have b5 := smE_low su
          have b6 := smE_low no
          exact sb
        · intro k hk16
          have b1 := dC_low D
          have b2 := dM_low D
          have b3 := dC_low C
          have b4 := dM_low C
          have b5 := smE_low su
          have b6 := smE_low no
          by_cases hlt : k < 16
          · have hcr := hcr k hlt
            have k1 := kQ k hlt
            clear kQ
            cases hng : no.get k with
            | some v =>
              have hg := sm_get no k (ki := ⟨1, false, .int .i64, [.val (.int .i64 0)], []⟩) (ei := ⟨64, true, .arr 64 5 1 false, List.replicate 64 (.val (.int .u8 0)), List.replicate 64 .int⟩) rfl rfl
              rw [hng] at hg
              simp only [Option.getD_some, Option.isSome_some] at hg
              clear hcr k1
              refine wk ?_
              refine loopP (k + 1) (by omega) (by omega) ?_
              exact sb
            | none =>
              have hg := sm_get no k (ki := ⟨1, false, .int .i64, [.val (.int .i64 0)], []⟩) (ei := ⟨64, true, .arr 64 5 1 false, List.replicate 64 (.val (.int .u8 0)), List.replicate 64 .int⟩) rfl rfl
              rw [hng] at hg
              rw [hcr hng] at k1
              clear hcr
              have hg2 := fun _ : Unit => sm_get su k (ki := ⟨1, false, .int .i64, [.val (.int .i64 0)], []⟩) (ei := ⟨64, true, .arr 64 5 1 false, List.replicate 64 (.val (.int .u8 0)), List.replicate 64 .int⟩) rfl rfl
              have qq := peqs_self ((su.get k).getD zeroSec)
              generalize (su.get k).getD zeroSec = w at *
              generalize (su.get k).isSome = bb at *
              simp only [Option.getD_none, Option.isSome_none] at hg
              clear hng
              generalize zeroSec = zs at hg
              refine wg ?_
              refine PW.region typeTab_ok (by kernel_rfl) ?_
              refine wg ?_
              refine PW.region typeTab_ok (by kernel_rfl) ?_
              refine wg ?_
              refine PW.region typeTab_ok (by kernel_rfl) ?_
              refine wg ?_
              clear hg
              have hg := hg2 ()
              clear hg2
              refine wk ?_
              refine PWops.eqA rfl rfl rfl rfl rfl rfl rfl rfl qq (.inr rfl) ?_
              refine wk ?_
              refine loopP (k + 1) (by omega) (by omega) ?_
              exact sb
          · obtain rfl : k = 16 := by omega
            clear hcr kQ
            refine wk ?_
            exact retP rfl (by exact lw) rfl
      · rw [if_neg hin] at hrd
        rw [decide_eq_false hin] at hdn
        refine wk ?_
        rw [hmin]
        refine wk ?_
        refine PW.loop (fun k : Nat => (((((((((((((((bot.setb 900001 (dB 900002 900003 D)).setb 900002 (dC D)).setm 900003 (dM D)).setb 900005 (dB 900006 900007 C)).setb 900006 (dC C)).setm 900007 (dM C)).setm 7000 (imL psec su)).setm 7001 (imL psec no)).put 6 (pbool false)).put 7 (.ptr 900001 0)).put 8 (.mref 7000)).put 9 (.mref 7001)).put 18 (.ptr 900005 0)).put 140 (pint k)))) (fun k => k ≤ 16) (fun k => 16 - k) 0 (Nat.zero_le _) ?_ ?_
        · have b1 := dC_low D
          have b2 := dM_low D
          have b3 := dC_low C
          have b4 := dM_low C
          have b5 := smE_low su
          have b6 := smE_low no
          exact sb
        · intro k hk16
          have b1 := dC_low D
          have b2 := dM_low D
          have b3 := dC_low C
          have b4 := dM_low C
          have b5 := smE_low su
          have b6 := smE_low no
          by_cases hlt : k < 16
          · have hcr := hcr k hlt
            have k1 := kQ k hlt
            clear kQ
            cases hng : no.get k with
            | some v =>
              have hg := sm_get no k (ki := ⟨1, false, .int .i64, [.val (.int .i64 0)], []⟩) (ei := ⟨64, true, .arr 64 5 1 false, List.replicate 64 (.val (.int .u8 0)), List.replicate 64 .int⟩) rfl rfl
              rw [hng] at hg
              simp only [Option.getD_some, Option.isSome_some] at hg
              clear hcr k1
              refine wk ?_
              refine loopP (k + 1) (by omega) (by omega) ?_
              exact sb
            | none =>
              have hg := sm_get no k (ki := ⟨1, false, .int .i64, [.val (.int .i64 0)], []⟩) (ei := ⟨64, true, .arr 64 5 1 false, List.replicate 64 (.val (.int .u8 0)), List.replicate 64 .int⟩) rfl rfl
              rw [hng] at hg
              rw [hcr hng] at k1
              clear hcr
              have hg2 := fun _ : Unit => sm_get su k (ki := ⟨1, false, .int .i64, [.val (.int .i64 0)], []⟩) (ei := ⟨64, true, .arr 64 5 1 false, List.replicate 64 (.val (.int .u8 0)), List.replicate 64 .int⟩) rfl rfl
              have qq := peqs_self ((su.get k).getD zeroSec)
              generalize (su.get k).getD zeroSec = w at *
              generalize (su.get k).isSome = bb at *
              simp only [Option.getD_none, Option.isSome_none] at hg
              clear hng
              generalize zeroSec = zs at hg
              refine wg ?_
              refine PW.region typeTab_ok (by kernel_rfl) ?_
              refine wg ?_
              refine PW.region typeTab_ok (by kernel_rfl) ?_
              refine wg ?_
              refine PW.region typeTab_ok (by kernel_rfl) ?_
              refine wg ?_
              clear hg
              have hg := hg2 ()
              clear hg2
              refine wk ?_
              refine PWops.eqA rfl rfl rfl rfl rfl rfl rfl rfl qq (.inr rfl) ?_
              refine wk ?_
              refine loopP (k + 1) (by omega) (by omega) ?_
              exact sb
          · obtain rfl : k = 16 := by omega
            clear hcr kQ
            refine wk ?_
            exact retP rfl (by exact lw) rfl
end Go.Proofs.Ytilcpcpmkklobaa

/- Proved here: antiquarylaw22.DiskStops returns true for every input, and leaves its arguments as they were. No conditions. -/
namespace Go.Proofs.Ytilcpcpmkklobaa
set_option linter.unusedSimpArgs false
set_option linter.unusedVariables false
set_option linter.unnecessarySimpa false
open Go.ChangeShapes Go.WideShapes Go.ChangeAt Go.RowKit

set_option maxRecDepth 100000 in
theorem stops_lifted (os : Os) (started : os.Started) (H : Type) (enc : TypeId × Value → H) :
    ReturnsInHanded {} Try.checked os 5 .any (Rows.diskStopsSpec.pre6 enc Try.prog Try.f5 Rows.diskStopsRow.domain false) (Rows.diskStopsSpec.post enc Try.prog Try.f5 false true false false) := by
  refine law_lifted os started H enc Try.func5 (by kernel_rfl)
    (ChangeSpec.witness6 (enc := enc) (C := Try.checked) false ⟨#[], #[.slice none 0 0, .int .u8 0, .slice none 0 0], []⟩ 8 (by kernel_rfl) (by kernel_rfl) (by kernel_rfl) (by kernel_rfl))
    Try.underlying4 rfl rfl (by kernel_rfl) (fun ds hd => ?_)
    (argsOpen_cons argOps (argsOpen_cons argB (argsOpen_cons argKeep argsOpen_nil))) (fun y hy => ?_)
  · match ds, hd with
    | [d1, d2, d3], _ => exact ⟨rfl, rfl, rfl⟩
  · obtain ⟨l, x, keep, u⟩ := y
    obtain ⟨hl, hx, hk, -⟩ := hy
    have e := reachE
    simp only at hl hx hk
    have hl2 := hl.2
    have hk2 := hk.2
    exact pw_stops pw_sanity22 l x keep (by omega) hx (by omega) hk.1

theorem stops_holds : Rows.DiskStopsSaid :=
  OpenClaim.holds_of_wide 5 Try.f5 rfl rfl rfl rfl rfl rfl rfl ⟨rfl, rfl, rfl, rfl, rfl⟩ rfl rfl rfl rfl rfl (by kernel_rfl) Try.func5 (by kernel_rfl)
    (of_decide_eq_true (by kernel_rfl)) (by unfold Func.isWrapper; first | (rw [if_pos (by decide +kernel)]; kernel_rfl) | (rw [if_neg (by decide +kernel)]; exact ⟨rfl, rfl⟩))
    (fun os started H enc _ => stops_lifted os started H enc)

#print axioms stops_holds
end Go.Proofs.Ytilcpcpmkklobaa
