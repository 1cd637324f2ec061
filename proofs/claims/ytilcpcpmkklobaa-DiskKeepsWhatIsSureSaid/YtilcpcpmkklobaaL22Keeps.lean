/- Proved here: antiquarylaw22.DiskKeepsWhatIsSure returns true for every input, and leaves its arguments as they were. No conditions. -/
import Derived.Test.YtilcpcpmkklobaaC5
/- law22: disks on which nothing is open; what bits do. -/
namespace Go.Proofs.Ytilcpcpmkklobaa
set_option linter.unusedSimpArgs false
set_option linter.unusedVariables false
set_option linter.unnecessarySimpa false
open Go.RowKit

theorem xbyte_all : ((List.range 256).all fun x => (List.range 8).all fun r => decide (xbyte (xbyte (x : Nat) (r : Nat)) (r : Nat) = (x : Nat))) = true := by kernel_rfl
theorem xbyte_mod (x b : Int) : xbyte x b = xbyte x ((b % 8).toNat : Nat) := by
  unfold xbyte
  have : ((b % 8).toNat : Int) % 8 = b % 8 := by omega
  rw [this]
theorem xbyte_twice {x b : Int} (hx : 0 ≤ x ∧ x < 256) : xbyte (xbyte x b) b = x := by
  rw [xbyte_mod x b, xbyte_mod _ b]
  have h1 := List.all_eq_true.1 xbyte_all x.toNat (by simp; omega)
  have h2 := List.all_eq_true.1 h1 (b % 8).toNat (by simp; omega)
  have e : ((x.toNat : Nat) : Int) = x := by omega
  have h3 := of_decide_eq_true h2
  rw [e] at h3
  exact h3
theorem flip_twice (s : Sec) {b : Int} (hb : 0 ≤ b ∧ b < 512) : flipSec (flipSec s b) b = s := by
  apply Subtype.ext
  have hl : (b / 8).toNat < s.1.length := by rw [s.2.1]; omega
  show (s.1.set (b / 8).toNat (xbyte (s.1.getD (b / 8).toNat 0) b)).set (b / 8).toNat (xbyte ((s.1.set (b / 8).toNat (xbyte (s.1.getD (b / 8).toNat 0) b)).getD (b / 8).toNat 0) b) = s.1
  rw [List.set_set, gset hl, if_pos rfl]
  have hm : s.1.getD (b / 8).toNat 0 = s.1[(b / 8).toNat] := by rw [List.getD_eq_getElem?_getD, List.getElem?_eq_getElem hl]; rfl
  rw [xbyte_twice (by rw [hm]; exact s.2.2 _ (List.getElem_mem hl)), hm]
  exact List.set_getElem_self hl

theorem secL_at (s : Sec) {q : Nat} (h : q < 64) : (secL s)[q]? = some (pbyte (s.1.getD q 0)) := by
  rw [secL, List.getElem?_map]
  have : q < s.1.length := by rw [s.2.1]; exact h
  simp [List.getElem?_eq_getElem this]
theorem secL_flip (s : Sec) (b : Int) (h : (b / 8).toNat < 64) : splice (secL s) (b / 8).toNat [pbyte (xbyte (s.1.getD (b / 8).toNat 0) b)] = secL (flipSec s b) := by
  rw [splice_one (by rw [secL_len]; exact h)]
  simp [secL, flipSec, List.map_set]

/-- A disk on which nothing is open. -/
structure Clean (n k : Nat) (D : DM) (f : Nat → DCell) : Prop where
  ok : OkD n k D
  op : D.op = []
  cell : ∀ q : Nat, q < n → D.cell q = f q
def fset (f : Nat → DCell) (i : Nat) (c : DCell) : Nat → DCell := fun q => if q = i then c else f q
variable {n k : Nat} {D : DM} {f : Nat → DCell}
theorem Clean.get (h : Clean n k D f) (q : Int) : D.get q = [] := by rw [get_find, h.op]; rfl
theorem Clean.read (h : Clean n k D f) {q : Nat} (hq : q < n) : D.read q = if (f q).bad then (zeroSec, 221) else ((f q).s, 0) := by
  rw [h.ok.read (by omega) (by omega), h.get, if_neg (by simp), h.cell q hq]
theorem setc_cell {D : DM} {i q : Nat} {c : DCell} (hi : i < D.cells.length) : (D.setc i c).cell q = if q = i then c else D.cell q := by
  show (D.cells.set (i : Int).toNat c).getD (q : Int).toNat default = if q = i then c else D.cells.getD (q : Int).toNat default
  rw [Int.toNat_natCast, Int.toNat_natCast, gset hi]
theorem Clean.setc (h : Clean n k D f) {i : Nat} (hi : i < n) (c : DCell) : Clean n k (D.setc i c) (fset f i c) := by
  have hl : i < D.cells.length := by rw [h.ok.len]; exact hi
  refine ⟨⟨h.ok.dead, h.ok.after, by rw [← h.ok.len]; exact List.length_set .., h.ok.steps, h.ok.op, h.ok.room⟩, h.op, fun q hq => ?_⟩
  rw [setc_cell hl, h.cell q hq]; rfl
theorem Clean.flip (h : Clean n k D f) {i : Nat} (hi : i < n) {b : Int} (hb : 0 ≤ b ∧ b < 512) : D.flip i b = (0, D.setc i ((f i).flip b)) ∧ Clean n k (D.setc i ((f i).flip b)) (fset f i ((f i).flip b)) := by
  refine ⟨?_, h.setc hi _⟩
  unfold DM.flip
  rw [if_pos (h.ok.check0 (by omega) (by omega)), if_neg (by omega), h.cell i hi]
theorem Clean.rot (h : Clean n k D f) {i : Nat} (hi : i < n) : D.check i = 0 ∧ Clean n k (D.rot i) (fset f i ⟨zeroSec, true⟩) := by
  have hc := h.ok.check0 (i := (i : Int)) (by omega) (by omega)
  refine ⟨hc, ?_⟩
  unfold DM.rot
  rw [if_pos hc]
  exact h.setc hi _
theorem Clean.crash (h : Clean n k D f) (keep : List Int) : Clean n 0 (D.crash keep) f := by
  have hk : D.keys.length = 0 := by rw [keys_len, h.op]; rfl
  have hcs : (D.crash keep).cells = D.cells := by
    show crashL D keep D.keys.length = D.cells
    rw [hk]; rfl
  refine ⟨⟨rfl, rfl, by rw [hcs]; exact h.ok.len, ⟨Int.le_refl _, Int.le_refl _⟩, ⟨List.nodup_nil, by simp [DM.crash]⟩, by simp [DM.crash]⟩, rfl, fun q hq => ?_⟩
  unfold DM.cell
  rw [hcs]; exact h.cell q hq
theorem WOk.clean {s : WS} (h : WOk k s) (ho : s.D.op = []) : Clean 16 k s.D (fun q => ⟨s.sure.getD q default, false⟩) := ⟨h.ok, ho, h.cell⟩
theorem wr_last (l : List ROp) (hl : l.length ≤ 1000) : (wr l.length l l.length).D.op = [] := by
  cases hn : l.length with
  | zero => rfl
  | succ n =>
    have h1 := ((wr_ok ((n + 1 : Nat) : Int) l n (by omega)).wr (by omega) (l.getD n default)).2
    have e : wr ((n + 1 : Nat) : Int) l (n + 1) = synW (putW (wr ((n + 1 : Nat) : Int) l n) (l.getD n default)) := by
      show (if (n : Int) + 1 = ((n + 1 : Nat) : Int) then _ else _) = _
      rw [if_pos (by omega)]
    rw [e]
    show (putW _ _).D.sync.2.op = []
    exact (h1.ok.sync_ok (by decide)).2.2.2
end Go.Proofs.Ytilcpcpmkklobaa

/- law22: what a failure leaves. -/
namespace Go.Proofs.Ytilcpcpmkklobaa
set_option linter.unusedSimpArgs false
set_option linter.unusedVariables false
set_option linter.unnecessarySimpa false
open Go.RowKit

theorem crashL_at {n k : Nat} {D : DM} (h : OkD n k D) (hk : k ≤ 1000000000) (keep : List Int) {q : Nat} (hq : q < n) : ∀ m, m ≤ D.keys.length → if (q : Int) ∈ D.keys.take m then ∃ x, (crashL D keep m).getD q default = found (D.cell q) (D.get q) x else (crashL D keep m).getD q default = D.cell q
  | 0, _ => by
    rw [List.take_zero, if_neg (by simp)]
    show D.cells.getD q default = D.cells.getD (q : Int).toNat default
    rw [Int.toNat_natCast]
  | m + 1, hm => by
    have ih := crashL_at h hk keep hq m (by omega)
    have hop : opOK D.cells.length D.op := by rw [h.len]; exact h.op
    obtain ⟨k1, k2, -⟩ := keys_at hop (n := m) (by omega)
    have ht : D.keys.take (m + 1) = D.keys.take m ++ [D.keys.getD m default] := by
      rw [List.take_add_one, List.getD_eq_getElem?_getD, List.getElem?_eq_getElem (by omega)]; rfl
    rw [ht, crashL, gset (by rw [crashL_len]; omega)]
    generalize D.keys.getD m default = key at *
    by_cases e : q = key.toNat
    · have e' : (q : Int) = key := by omega
      rw [if_pos e, if_pos (by rw [e']; simp), ← e']
      exact ⟨_, rfl⟩
    · have e' : (q : Int) ≠ key := by omega
      rw [if_neg e]
      by_cases c : (q : Int) ∈ D.keys.take m
      · rw [if_pos c] at ih
        rw [if_pos (List.mem_append.2 (.inl c))]
        exact ih
      · rw [if_neg c] at ih
        rw [if_neg (by simp only [List.mem_append, List.mem_singleton, not_or]; exact ⟨c, e'⟩)]
        exact ih
theorem get_key {n k : Nat} {D : DM} (h : OkD n k D) (q : Int) : q ∈ D.keys ↔ D.get q ≠ [] := by
  rw [keys_mem]
  have hf := opFind_get h q
  constructor
  · intro hm e
    obtain ⟨x, hx, rfl⟩ := List.mem_map.1 hm
    obtain ⟨j, hj⟩ := List.getElem?_of_mem hx
    rw [opFind_at h.op.1 hj, if_pos e] at hf
    cases hf
  · intro hne
    by_cases c : q ∈ D.op.map (·.2.1)
    · exact c
    · rw [opFind_none c, if_neg hne] at hf
      cases hf
theorem crash_cell {n k : Nat} {D : DM} (h : OkD n k D) (hk : k ≤ 1000000000) (keep : List Int) {q : Nat} (hq : q < n) : if D.get q = [] then (D.crash keep).cell q = D.cell q else ∃ x, (D.crash keep).cell q = found (D.cell q) (D.get q) x := by
  have h1 := crashL_at h hk keep hq D.keys.length (Nat.le_refl _)
  rw [List.take_length] at h1
  have e : (D.crash keep).cell q = (crashL D keep D.keys.length).getD q default := by
    show (crashL D keep D.keys.length).getD (q : Int).toNat default = _
    rw [Int.toNat_natCast]
  rw [e]
  by_cases c : D.get q = []
  · rw [if_pos c]
    rw [if_neg (fun hm => (get_key h q).1 hm c)] at h1
    exact h1
  · rw [if_neg c]
    rw [if_pos ((get_key h q).2 c)] at h1
    exact h1
theorem opOK_len {n : Nat} {op : List (Nat × Int × List Sec)} (h : opOK n op) : op.length ≤ n := by
  have h1 : (op.map (·.2.1)).length ≤ ((List.range n).map (fun i : Nat => (i : Int))).length := by
    refine List.Nodup.length_le_of_subset h.1 (fun x hx => ?_)
    obtain ⟨e, he, rfl⟩ := List.mem_map.1 hx
    obtain ⟨q0, q1, -⟩ := h.2 e he
    exact List.mem_map.2 ⟨e.2.1.toNat, List.mem_range.2 (by omega), by omega⟩
  simpa using h1
theorem crash_ok {n k : Nat} {D : DM} (h : OkD n k D) (keep : List Int) : OkD n 0 (D.crash keep) :=
  ⟨rfl, rfl, by show (crashL D keep _).length = n; rw [crashL_len]; exact h.len, ⟨Int.le_refl _, Int.le_refl _⟩, ⟨List.nodup_nil, by simp [DM.crash]⟩, by simp [DM.crash]⟩
theorem crash_get (D : DM) (keep : List Int) (q : Int) : (D.crash keep).get q = [] := by rw [get_find]; rfl
/-- What is found of a sector may be found. -/
theorem found_poss (sure : Sec) (l : List Sec) (hl : l ≠ []) (x : Int) : let c := found ⟨sure, false⟩ l x
    possB (if c.bad then (zeroSec, (221 : Int)) else (c.s, 0)).1 (if c.bad then (zeroSec, (221 : Int)) else (c.s, 0)).2 sure l = true := by
  have hpos : 0 < l.length := List.length_pos_iff.2 hl
  have hr : 0 ≤ foundR l x ∧ foundR l x < l.length + 3 := by
    unfold foundR
    have h3 : (0 : Int) < (l.length : Int) + 3 := by omega
    exact ⟨Int.emod_nonneg _ (by omega), Int.emod_lt_of_pos _ h3⟩
  have any : ∀ s ∈ l, possI s sure l l.length = true := by
    intro s hs
    unfold possI
    rw [List.take_length, Bool.or_eq_true]
    exact .inr (List.any_eq_true.2 ⟨s, hs, decide_eq_true rfl⟩)
  have got : ∀ j, j < l.length → l.getD j default ∈ l := by
    intro j hj
    rw [List.getD_eq_getElem?_getD, List.getElem?_eq_getElem hj]; exact List.getElem_mem hj
  have last : lastS l ∈ l := got _ (by omega)
  unfold found
  by_cases h0 : foundR l x = 0
  · simp only [h0, if_true]
    simp [possB, possI]
  · by_cases h1 : foundR l x ≤ l.length
    · simp only [h0, h1, if_true, if_false]
      have := any _ (got (foundR l x - 1).toNat (by omega))
      simp only [possB, Bool.false_eq_true, if_false, this, Bool.true_or]
      rw [if_neg (by decide)]
    · by_cases h2 : foundR l x = l.length + 1
      · simp only [if_neg h0, if_neg h1, if_pos h2]
        simp [possB]
      · simp only [if_neg h0, if_neg h1, if_neg h2]
        by_cases h3 : (beforeS ⟨sure, false⟩ l).1 = (lastS l).1
        · simp only [if_pos h3]
          have := any _ last
          simp [possB, this]
        · simp only [if_neg h3]
          simp [possB]
theorem keeps_read {k : Nat} {W : WS} (h : WOk k W) (hk : k ≤ 1000000000) (keep : List Int) {q : Nat} (hq : q < 16) :
    (W.op.getD q default = [] → (W.D.crash keep).read q = (W.sure.getD q default, 0)) ∧ (W.op.getD q default ≠ [] → possB ((W.D.crash keep).read q).1 ((W.D.crash keep).read q).2 (W.sure.getD q default) (W.op.getD q default) = true ∧ (((W.D.crash keep).read q).2 = 221 ∨ ((W.D.crash keep).read q).2 = 0) ∧ W.D.read q = (lastS (W.op.getD q default), 0)) := by
  have hc := crash_cell h.ok hk keep hq
  have hr := (crash_ok h.ok keep).read (q := (q : Int)) (by omega) (by omega)
  rw [crash_get, if_neg (by simp)] at hr
  rw [h.get q hq, h.cell q hq] at hc
  refine ⟨fun e => ?_, fun e => ?_⟩
  · rw [if_pos e] at hc
    rw [hr, hc]; rfl
  · rw [if_neg e] at hc
    obtain ⟨x, hx⟩ := hc
    rw [hr, hx]
    refine ⟨found_poss _ _ e x, ?_, ?_⟩
    · split
      · exact .inl rfl
      · exact .inr rfl
    · rw [h.ok.read (by omega) (by omega), h.get q hq, if_pos (List.length_pos_iff.2 e)]
end Go.Proofs.Ytilcpcpmkklobaa

/- law22: DiskKeepsWhatIsSure. -/
namespace Go.Proofs.Ytilcpcpmkklobaa
set_option linter.unusedSimpArgs false
set_option linter.unusedVariables false
set_option linter.unnecessarySimpa false
open Go.RowKit

section
variable {P : Program} {T : Tab} {σ : PS} {o : Oper} {i base : Nat} {ops : Array Oper} {ok : Nat → Nat → Bool} {rest : List (Nat × Oper)} {K : PS → Prop}
/-- The open writes of a sector, out of a copy. -/
theorem PWops.ldOA {d id off : Nat} {L : List (List Sec)} {x : Operand} {t : TypeId} {ti : TyI} (hg : pguard ops σ o = some true) (hd : o.dst = some d) (hop : o.op = .load t x) (hx : pev σ x = .ptr id off) (ht : T.at t = some ti) (ha : ti.agg = false) (hh : headB ops o.dst = false) (hb : σ.freeB (base + i) = true) (hbs : (σ.only (ok i)).b id = some (L.map oB)) (hl : off < L.length)
    (kn : PWops P T ops base ok rest K (σ.put d (oB (L.getD off default)))) : PWops P T ops base ok ((i, o) :: rest) K σ := by
  have hc : (L.map oB)[off]? = some (oB (L.getD off default)) := by
    rw [List.getElem?_map, List.getElem?_eq_getElem hl, List.getD_eq_getElem?_getD, List.getElem?_eq_getElem hl]; rfl
  refine PWops.valEq hg hd (p := oB (L.getD off default)) ?_ rfl hb kn
  simp only [hop, presE, pev_only, hx, hh, ploadO, Bool.false_eq_true, if_false, pvalA, pval, ht, ploadAt, hbs, asVal, ha, hc, Option.map_some, oB_bare]
end

def pkOut (σ : PS) : PS := σ
set_option maxRecDepth 10000 in
set_option maxHeartbeats 1000000 in
theorem pw_keeps (hsan : PCalls Try.prog 8 [] (· = pbool true)) (l : List ROp) (w : Int) (keep : List Int) (hl : l.length ≤ 1000000000000000) (hw : 0 ≤ w ∧ w < 256) (hk : keep.length ≤ 1000000000000000) (hki : ∀ x ∈ keep, -9223372036854775808 ≤ x ∧ x ≤ 9223372036854775807) : PCalls Try.prog 4 [props l, pbyte w, pints keep] (· = pbool true) := by
  have hlp := low_props l
  refine pcalls_of_pw typeTab_ok Try.func4 rfl (by kernel_rfl) (by intro p hp; simp at hp; rcases hp with rfl | rfl | rfl; exact hlp; exact .val _; exact Low.sl _ _ _ _ (low_map (fun _ => Low.val _) _)) (by simp [props, pbyte, pints, PV.ownB]) (Nat.le_of_ble_eq_true rfl) ?_
  by_cases h30 : 40 < l.length
  · refine wk ?_
    exact retP rfl (by exact lw) rfl
  by_cases h20 : 20 < keep.length
  · refine wk ?_
    exact retP rfl (by exact lw) rfl
  obtain ⟨sy, hsy⟩ : ∃ sy : Int, sy = w % 41 := ⟨_, rfl⟩
  have hwr := wc_written1 l sy (by omega) (by omega)
  have w0 := wr_ok sy l l.length (by omega)
  have hsl := w0.sl
  have hol := w0.ol
  generalize wr sy l l.length = W at *
  have room : ∀ {k : Nat} {D : DM}, OkD 16 k D → k ≤ 1000 → ∀ e ∈ D.op, e.2.2.length ≤ 1000000000 := fun h hk e he => by have := h.room e he; omega
  have len : ∀ {k : Nat} {D : DM}, OkD 16 k D → D.cells.length ≤ 1000000000 := fun h => by rw [h.len]; decide
  have c4 := crash_ok w0.ok keep
  have kr := fun q (hq : q < 16) => keeps_read w0 (by omega) keep hq
  have kC := fun _ : Unit => dc_Crash W.D keep (by rw [w0.ok.len]; decide) (by rw [w0.ok.len]; exact w0.ok.op) (by have := opOK_len w0.ok.op; omega) (by omega) hki 900001 900002 900003 900005 900006 900007 (by decide)
  have kQ := fun q (hq : q < 16) => dc_Read (W.D.crash keep) (q : Nat) (len c4) (room c4 (by omega)) 900005 900006 900007 (by decide)
  have kD := fun q (hq : q < 16) => dc_Read W.D (q : Nat) (len w0.ok) (room w0.ok (by omega)) 900001 900002 900003 (by decide)
  have kZ := fun _ : Unit => dc_Size (W.D.crash keep) 900005 900006 900007 (by decide)
  have kN := fun _ : Unit => dc_Down (W.D.crash keep) 900005 900006 900007 (by decide)
  have kS := fun _ : Unit => dc_Steps (W.D.crash keep) 900005 900006 900007 (by decide)
  have kO := fun _ : Unit => dc_Open (W.D.crash keep) (by simp [opOK, DM.crash]) (by simp [DM.crash]) (by rw [openL_nil rfl]; decide) 900005 900006 900007 (by decide)
  have z1 : (W.D.crash keep).cells.length = 16 := c4.len
  have z2 : (W.D.crash keep).dead = false := c4.dead
  have z3 : (W.D.crash keep).steps = 0 := rfl
  have z4 : (W.D.crash keep).openL = [] := openL_nil rfl
  rw [z1] at kZ
  rw [z2] at kN
  rw [z3] at kS
  rw [z4] at kO
  generalize W.D.crash keep = C at *
  clear room len z1 z2 z3 z4 c4
  have hbl := secs_len hsl
  have hob : (W.op.map oB).length = 16 := by rw [List.length_map]; exact hol
  refine wk ?_
  try rw [wrap64_id (by omega) (by omega)]
  refine wk ?_
  rw [← hsy]
  refine wk ?_
  refine PWops.stAll rfl rfl rfl rfl rfl rfl rfl rfl rfl hbl (by kernel_rfl) (secs_one _) (secs_bare _) ?_
  refine PWops.stAll rfl rfl rfl rfl rfl rfl rfl rfl rfl hob (by kernel_rfl) (oBs_one _) (oBs_bare _) ?_
  have k1 := kC ()
  have k2 := kZ ()
  have k3 := kN ()
  have k4 := kS ()
  have k5 := kO ()
  refine wk ?_
  clear k1 k2 k3 k4 k5 kC kZ kN kS kO
  refine PW.loop (fun n : Nat => ((((((((((((((bot.setb 900001 (dB 900002 900003 W.D)).setb 900002 (dC W.D)).setm 900003 (dM W.D)).setb 900005 (dB 900006 900007 C)).setb 900006 (dC C)).setm 900007 (dM C)).setb 3009 (W.sure.flatMap secL)).setb 3010 (W.op.map oB)).put 6 (pbool false)).put 7 (.ptr 900001 0)).put 8 (.ptr 3009 0)).put 9 (.ptr 3010 0)).put 10 (.ptr 900005 0)).put 61 (pint n))) (fun n => n ≤ 16) (fun n => 16 - n) 0 (Nat.zero_le _) ?_ ?_
  · have b1 := dC_low W.D
    have b2 := dM_low W.D
    have b3 := dC_low C
    have b4 := dM_low C
    have z1 : ∀ c ∈ W.op.map oB, Low c := low_map oB_low _
    have z2 : ∀ c ∈ W.sure.flatMap secL, Low c := flat_low secL_low _
    exact sb
  · intro n hn
    have b1 := dC_low W.D
    have b2 := dM_low W.D
    have b3 := dC_low C
    have b4 := dM_low C
    have z1 : ∀ c ∈ W.op.map oB, Low c := low_map oB_low _
    have z2 : ∀ c ∈ W.sure.flatMap secL, Low c := flat_low secL_low _
    by_cases hlt : n < 16
    · obtain ⟨g1, g2⟩ := kr n hlt
      have k1 := kQ n hlt
      have k2 := kD n hlt
      clear kr kQ kD
      by_cases hr : W.op.getD n default = []
      · have g := g1 hr
        rw [g] at k1
        clear g1 g2 k2 g
        have q1 := peqs_self (W.sure.getD n default)
        refine wk ?_
        rw [Int.toNat_natCast]
        refine PWops.ldOA rfl rfl rfl rfl rfl rfl rfl rfl rfl (by omega) ?_
        rw [oB_nil hr]
        refine wk ?_
        refine PWops.eqA rfl rfl rfl rfl rfl rfl rfl rfl q1 (.inr rfl) ?_
        refine wk ?_
        refine loopP (n + 1) (by omega) (by omega) ?_
        exact sb
      · obtain ⟨g3, g4, g5⟩ := g2 hr
        rw [g5] at k2
        clear g1 g2 g5
        have hpo := List.length_pos_iff.2 hr
        have hpl : (W.op.getD n default).length ≤ 1000000000 := by
          have := row_le w0.ok (n : Nat)
          rw [w0.get n hlt] at this
          omega
        have kp := pw_possible (C.read n).1 (C.read n).2 (W.sure.getD n default) (W.op.getD n default) g4 ⟨hpo, hpl⟩
        rw [g3] at kp
        clear g3 g4
        have hg : lastS (W.op.getD n default) = (W.op.getD n default).getD (((W.op.getD n default).length : Int) - 1).toNat default := rfl
        rw [hg] at k2
        clear hg
        have q1 := peqs_self ((W.op.getD n default).getD (((W.op.getD n default).length : Int) - 1).toNat default)
        generalize C.read n = rd at *
        obtain ⟨s, e⟩ := rd
        simp only at k1 kp
        generalize hrr : W.op.getD n default = r at *
        refine wk ?_
        rw [Int.toNat_natCast]
        refine PWops.ldOA rfl rfl rfl rfl rfl rfl rfl rfl rfl (by omega) ?_
        rw [hrr, oB_ne hr]
        refine wk ?_
        rw [Int.toNat_natCast]
        refine PWops.ldOA rfl rfl rfl rfl rfl rfl rfl rfl rfl (by omega) ?_
        rw [hrr, oB_ne hr]
        refine wk ?_
        rw [Int.toNat_natCast]
        refine PWops.ldOA rfl rfl rfl rfl rfl rfl rfl rfl rfl (by omega) ?_
        rw [hrr, oB_ne hr]
        refine wk ?_
        rw [Int.toNat_natCast]
        refine PWops.ldOA rfl rfl rfl rfl rfl rfl rfl rfl rfl (by omega) ?_
        rw [hrr, oB_ne hr]
        refine wk ?_
        refine PWops.eqA rfl rfl rfl rfl rfl rfl rfl rfl q1 (.inr rfl) ?_
        refine wk ?_
        refine loopP (n + 1) (by omega) (by omega) ?_
        exact sb
    · obtain rfl : n = 16 := by omega
      clear kr kQ kD
      refine wk ?_
      exact retP rfl (by exact lw) rfl
end Go.Proofs.Ytilcpcpmkklobaa

/- Proved here: antiquarylaw22.DiskKeepsWhatIsSure returns true for every input, and leaves its arguments as they were. No conditions. -/
namespace Go.Proofs.Ytilcpcpmkklobaa
set_option linter.unusedSimpArgs false
set_option linter.unusedVariables false
set_option linter.unnecessarySimpa false
open Go.ChangeShapes Go.WideShapes Go.ChangeAt Go.RowKit

set_option maxRecDepth 100000 in
theorem keeps_lifted (os : Os) (started : os.Started) (H : Type) (enc : TypeId × Value → H) :
    ReturnsInHanded {} Try.checked os 4 .any (Rows.diskKeepsWhatIsSureSpec.pre6 enc Try.prog Try.f4 Rows.diskKeepsWhatIsSureRow.domain false) (Rows.diskKeepsWhatIsSureSpec.post enc Try.prog Try.f4 false true false false) := by
  refine law_lifted os started H enc Try.func4 (by kernel_rfl)
    (ChangeSpec.witness6 (enc := enc) (C := Try.checked) false ⟨#[], #[.slice none 0 0, .int .u8 0, .slice none 0 0], []⟩ 8 (by kernel_rfl) (by kernel_rfl) (by kernel_rfl) (by kernel_rfl))
    Try.underlying4 rfl rfl (by kernel_rfl) (fun ds hd => ?_)
    (argsOpen_cons argOps (argsOpen_cons argB (argsOpen_cons argKeep argsOpen_nil))) (fun y hy => ?_)
  · match ds, hd with
    | [d1, d2, d3], _ => exact ⟨rfl, rfl, rfl⟩
  · obtain ⟨l, x, keep, u⟩ := y
    obtain ⟨hl, hx, hk, -⟩ := hy
    have e := reachE
    simp only at hl hx hk
    have hl2 := hl.2
    have hk2 := hk.2
    exact pw_keeps pw_sanity22 l x keep (by omega) hx (by omega) hk.1

theorem keeps_holds : Rows.DiskKeepsWhatIsSureSaid :=
  OpenClaim.holds_of_wide 4 Try.f4 rfl rfl rfl rfl rfl rfl rfl ⟨rfl, rfl, rfl, rfl, rfl⟩ rfl rfl rfl rfl rfl (by kernel_rfl) Try.func4 (by kernel_rfl)
    (of_decide_eq_true (by kernel_rfl)) (by unfold Func.isWrapper; first | (rw [if_pos (by decide +kernel)]; kernel_rfl) | (rw [if_neg (by decide +kernel)]; exact ⟨rfl, rfl⟩))
    (fun os started H enc _ => keeps_lifted os started H enc)

#print axioms keeps_holds
end Go.Proofs.Ytilcpcpmkklobaa
