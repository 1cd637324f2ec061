/- Proved here: antiquarylaw22.DiskSpoils returns true for every input, and leaves its arguments as they were. No conditions. -/
import Derived.Test.YtilcpcpmkklobaaC5
/- law22: disks on which nothing is open; what bits do. -/
namespace Go.Proofs.Ytilcpcpmkklobaa
set_option linter.unusedSimpArgs false
set_option linter.unusedVariables false
set_option linter.unnecessarySimpa false
open Go.RowKit

theorem xbyte_all : ((List.range 256).all fun x => (List.range 8).all fun r => decide (xbyte (xbyte (x : Nat) (r : Nat)) (r : Nat) = (x : Nat))) = true := by kernel_rfl
theorem xbyte_mod (x b : Int) : xbyte x b = xbyte x ((b % 8).toNat : Nat) := by
  unfold xbyte
  have : ((b % 8).toNat : Int) % 8 = b % 8 := by omega
  rw [this]
theorem xbyte_twice {x b : Int} (hx : 0 ≤ x ∧ x < 256) : xbyte (xbyte x b) b = x := by
  rw [xbyte_mod x b, xbyte_mod _ b]
  have h1 := List.all_eq_true.1 xbyte_all x.toNat (by simp; omega)
  have h2 := List.all_eq_true.1 h1 (b % 8).toNat (by simp; omega)
  have e : ((x.toNat : Nat) : Int) = x := by omega
  have h3 := of_decide_eq_true h2
  rw [e] at h3
  exact h3
theorem flip_twice (s : Sec) {b : Int} (hb : 0 ≤ b ∧ b < 512) : flipSec (flipSec s b) b = s := by
  apply Subtype.ext
  have hl : (b / 8).toNat < s.1.length := by rw [s.2.1]; omega
  show (s.1.set (b / 8).toNat (xbyte (s.1.getD (b / 8).toNat 0) b)).set (b / 8).toNat (xbyte ((s.1.set (b / 8).toNat (xbyte (s.1.getD (b / 8).toNat 0) b)).getD (b / 8).toNat 0) b) = s.1
  rw [List.set_set, gset hl, if_pos rfl]
  have hm : s.1.getD (b / 8).toNat 0 = s.1[(b / 8).toNat] := by rw [List.getD_eq_getElem?_getD, List.getElem?_eq_getElem hl]; rfl
  rw [xbyte_twice (by rw [hm]; exact s.2.2 _ (List.getElem_mem hl)), hm]
  exact List.set_getElem_self hl

theorem secL_at (s : Sec) {q : Nat} (h : q < 64) : (secL s)[q]? = some (pbyte (s.1.getD q 0)) := by
  rw [secL, List.getElem?_map]
  have : q < s.1.length := by rw [s.2.1]; exact h
  simp [List.getElem?_eq_getElem this]
theorem secL_flip (s : Sec) (b : Int) (h : (b / 8).toNat < 64) : splice (secL s) (b / 8).toNat [pbyte (xbyte (s.1.getD (b / 8).toNat 0) b)] = secL (flipSec s b) := by
  rw [splice_one (by rw [secL_len]; exact h)]
  simp [secL, flipSec, List.map_set]

/-- A disk on which nothing is open. -/
structure Clean (n k : Nat) (D : DM) (f : Nat → DCell) : Prop where
  ok : OkD n k D
  op : D.op = []
  cell : ∀ q : Nat, q < n → D.cell q = f q
def fset (f : Nat → DCell) (i : Nat) (c : DCell) : Nat → DCell := fun q => if q = i then c else f q
variable {n k : Nat} {D : DM} {f : Nat → DCell}
theorem Clean.get (h : Clean n k D f) (q : Int) : D.get q = [] := by rw [get_find, h.op]; rfl
theorem Clean.read (h : Clean n k D f) {q : Nat} (hq : q < n) : D.read q = if (f q).bad then (zeroSec, 221) else ((f q).s, 0) := by
  rw [h.ok.read (by omega) (by omega), h.get, if_neg (by simp), h.cell q hq]
theorem setc_cell {D : DM} {i q : Nat} {c : DCell} (hi : i < D.cells.length) : (D.setc i c).cell q = if q = i then c else D.cell q := by
  show (D.cells.set (i : Int).toNat c).getD (q : Int).toNat default = if q = i then c else D.cells.getD (q : Int).toNat default
  rw [Int.toNat_natCast, Int.toNat_natCast, gset hi]
theorem Clean.setc (h : Clean n k D f) {i : Nat} (hi : i < n) (c : DCell) : Clean n k (D.setc i c) (fset f i c) := by
  have hl : i < D.cells.length := by rw [h.ok.len]; exact hi
  refine ⟨⟨h.ok.dead, h.ok.after, by rw [← h.ok.len]; exact List.length_set .., h.ok.steps, h.ok.op, h.ok.room⟩, h.op, fun q hq => ?_⟩
  rw [setc_cell hl, h.cell q hq]; rfl
theorem Clean.flip (h : Clean n k D f) {i : Nat} (hi : i < n) {b : Int} (hb : 0 ≤ b ∧ b < 512) : D.flip i b = (0, D.setc i ((f i).flip b)) ∧ Clean n k (D.setc i ((f i).flip b)) (fset f i ((f i).flip b)) := by
  refine ⟨?_, h.setc hi _⟩
  unfold DM.flip
  rw [if_pos (h.ok.check0 (by omega) (by omega)), if_neg (by omega), h.cell i hi]
theorem Clean.rot (h : Clean n k D f) {i : Nat} (hi : i < n) : D.check i = 0 ∧ Clean n k (D.rot i) (fset f i ⟨zeroSec, true⟩) := by
  have hc := h.ok.check0 (i := (i : Int)) (by omega) (by omega)
  refine ⟨hc, ?_⟩
  unfold DM.rot
  rw [if_pos hc]
  exact h.setc hi _
theorem Clean.crash (h : Clean n k D f) (keep : List Int) : Clean n 0 (D.crash keep) f := by
  have hk : D.keys.length = 0 := by rw [keys_len, h.op]; rfl
  have hcs : (D.crash keep).cells = D.cells := by
    show crashL D keep D.keys.length = D.cells
    rw [hk]; rfl
  refine ⟨⟨rfl, rfl, by rw [hcs]; exact h.ok.len, ⟨Int.le_refl _, Int.le_refl _⟩, ⟨List.nodup_nil, by simp [DM.crash]⟩, by simp [DM.crash]⟩, rfl, fun q hq => ?_⟩
  unfold DM.cell
  rw [hcs]; exact h.cell q hq
theorem WOk.clean {s : WS} (h : WOk k s) (ho : s.D.op = []) : Clean 16 k s.D (fun q => ⟨s.sure.getD q default, false⟩) := ⟨h.ok, ho, h.cell⟩
theorem wr_last (l : List ROp) (hl : l.length ≤ 1000) : (wr l.length l l.length).D.op = [] := by
  cases hn : l.length with
  | zero => rfl
  | succ n =>
    have h1 := ((wr_ok ((n + 1 : Nat) : Int) l n (by omega)).wr (by omega) (l.getD n default)).2
    have e : wr ((n + 1 : Nat) : Int) l (n + 1) = synW (putW (wr ((n + 1 : Nat) : Int) l n) (l.getD n default)) := by
      show (if (n : Int) + 1 = ((n + 1 : Nat) : Int) then _ else _) = _
      rw [if_pos (by omega)]
    rw [e]
    show (putW _ _).D.sync.2.op = []
    exact (h1.ok.sync_ok (by decide)).2.2.2
end Go.Proofs.Ytilcpcpmkklobaa

/- law22: DiskSpoils. -/
namespace Go.Proofs.Ytilcpcpmkklobaa
set_option linter.unusedSimpArgs false
set_option linter.unusedVariables false
set_option linter.unnecessarySimpa false
open Go.RowKit

def pu16 (z : Int) : PV := .val (.int .u16 z)

set_option maxRecDepth 10000 in
set_option maxHeartbeats 1000000 in
theorem pw_spoils (hsan : PCalls Try.prog 8 [] (· = pbool true)) (l : List ROp) (a w : Int) (keep : List Int) (hl : l.length ≤ 1000000000000000) (ha : 0 ≤ a ∧ a < 256) (hw : 0 ≤ w ∧ w < 65536) (hk : keep.length ≤ 1000000000000000) (hki : ∀ x ∈ keep, -9223372036854775808 ≤ x ∧ x ≤ 9223372036854775807) : PCalls Try.prog 6 [props l, pbyte a, pu16 w, pints keep] (· = pbool true) := by
  have hlp := low_props l
  refine pcalls_of_pw typeTab_ok Try.func6 rfl (by kernel_rfl) (by intro p hp; simp at hp; rcases hp with rfl | rfl | rfl | rfl; exact hlp; exact .val _; exact .val _; exact Low.sl _ _ _ _ (low_map (fun _ => Low.val _) _)) (by simp [props, pbyte, pu16, pints, PV.ownB]) (Nat.le_of_ble_eq_true rfl) ?_
  by_cases h30 : 30 < l.length
  · refine wk ?_
    exact retP rfl (by exact lw) rfl
  have hwr := wc_written1 l l.length (by omega) (by omega)
  have w0 := wr_ok l.length l l.length (by omega)
  have c0 := w0.clean (wr_last l (by omega))
  have hsl := w0.sl
  have hol := w0.ol
  generalize wr l.length l l.length = W at *
  obtain ⟨i, hi⟩ : ∃ i : Nat, (i : Int) = a % 16 := ⟨(a % 16).toNat, by omega⟩
  have hi16 : i < 16 := by omega
  obtain ⟨b, hb⟩ : ∃ b : Int, b = w % 512 := ⟨_, rfl⟩
  have hb512 : 0 ≤ b ∧ b < 512 := by omega
  have hnb : ∀ s : Sec, (⟨s, false⟩ : DCell).flip b = ⟨flipSec s b, false⟩ := fun s => by unfold DCell.flip DCell.spoilt; simp
  obtain ⟨e1, c1⟩ := c0.flip hi16 hb512
  rw [hnb] at e1 c1
  generalize W.D.setc (i : Nat) _ = D1 at *
  obtain ⟨e2, c2⟩ := c1.flip hi16 hb512
  have hf1 : fset (fun q => (⟨W.sure.getD q default, false⟩ : DCell)) i ⟨flipSec (W.sure.getD i default) b, false⟩ i = ⟨flipSec (W.sure.getD i default) b, false⟩ := if_pos rfl
  rw [hf1, hnb, flip_twice _ hb512] at e2 c2
  generalize D1.setc (i : Nat) _ = D2 at *
  obtain ⟨e3, c3⟩ := c2.rot hi16
  generalize hD3 : D2.rot i = D3 at *
  have c4 := c3.crash keep
  have r1 := c1.read hi16
  rw [hf1] at r1
  have r2 := c2.read hi16
  rw [show fset _ i (⟨W.sure.getD i default, false⟩ : DCell) i = ⟨W.sure.getD i default, false⟩ from if_pos rfl] at r2
  have r4 : ∀ q : Nat, q < 16 → (D3.crash keep).read q = if q = i then (zeroSec, 221) else (W.sure.getD q default, 0) := by
    intro q hq
    rw [c4.read hq]
    unfold fset
    by_cases h : q = i
    · rw [if_pos h, if_pos h]; rfl
    · rw [if_neg h, if_neg h, if_neg h, if_neg h]; rfl
  simp only [Bool.false_eq_true, if_false] at r1 r2
  have room : ∀ {k : Nat} {D : DM}, OkD 16 k D → k ≤ 1000 → ∀ e ∈ D.op, e.2.2.length ≤ 1000000000 := fun h hk e he => by have := h.room e he; omega
  have stp : ∀ {k : Nat} {D : DM}, OkD 16 k D → k ≤ 1000 → 0 ≤ D.steps ∧ D.steps ≤ 1000000000 ∧ -1 ≤ D.after := fun h hk => ⟨h.steps.1, by have := h.steps.2; omega, by rw [h.after]; decide⟩
  have aft : ∀ {k : Nat} {D : DM}, OkD 16 k D → D.after ≤ 9223372036854775807 := fun h => by rw [h.after]; decide
  have len : ∀ {k : Nat} {D : DM}, OkD 16 k D → D.cells.length ≤ 1000000000 := fun h => by rw [h.len]; decide
  have kF1 := fun _ : Unit => dc_Flip W.D i b (len c0.ok) 900001 900002 900003 (by decide)
  have kR1 := fun _ : Unit => dc_Read D1 i (len c1.ok) (room c1.ok (by omega)) 900001 900002 900003 (by decide)
  have kF2 := fun _ : Unit => dc_Flip D1 i b (len c1.ok) 900001 900002 900003 (by decide)
  have kR2 := fun _ : Unit => dc_Read D2 i (len c2.ok) (room c2.ok (by omega)) 900001 900002 900003 (by decide)
  have kT := fun _ : Unit => dc_Rot D2 i 900001 900002 900003 (by decide)
  have kC := fun _ : Unit => dc_Crash D3 keep (by rw [c3.ok.len]; decide) (by rw [c3.ok.len]; exact c3.ok.op) (by rw [c3.op]; decide) hk hki 900001 900002 900003 900005 900006 900007 (by decide)
  rw [e1] at kF1
  rw [e2] at kF2
  rw [r1] at kR1
  rw [r2] at kR2
  rw [e3, hD3] at kT
  have kQ := fun q (hq : q < 16) => dc_Read (D3.crash keep) (q : Nat) (len c4.ok) (room c4.ok (by omega)) 900005 900006 900007 (by decide)
  have o4 := c4.ok
  obtain ⟨o5, o6, -⟩ := o4.write (i := (i : Nat)) (by omega) (by omega) (by omega) (flipSec (W.sure.getD i default) b)
  have r6 := o4.read_write (i := (i : Nat)) (by omega) (by omega) (by omega) (flipSec (W.sure.getD i default) b) (q := (i : Nat)) (by omega) (by omega)
  rw [if_pos rfl] at r6
  obtain ⟨o7, o8, -, o9⟩ := o6.sync_ok (by omega)
  have r8 := o6.read_sync (by omega) (q := (i : Nat)) (by omega) (by omega)
  rw [r6] at r8
  have kW := fun _ : Unit => dc_Write (D3.crash keep) i (flipSec (W.sure.getD i default) b) (stp o4 (by omega)) (aft o4) (room o4 (by omega)) 900005 900006 900007 (by decide)
  have kS := fun _ : Unit => dc_Sync ((D3.crash keep).write i (flipSec (W.sure.getD i default) b)).2 (stp o6 (by omega)) (aft o6) (len o6) (by rw [o6.len]; exact o6.op) 900005 900006 900007 (by decide)
  have kL := fun _ : Unit => dc_Read ((D3.crash keep).write i (flipSec (W.sure.getD i default) b)).2.sync.2 i (len o8) (room o8 (by omega)) 900005 900006 900007 (by decide)
  rw [o5] at kW
  rw [o7] at kS
  rw [r8] at kL
  generalize D3.crash keep = C at *
  generalize (C.write (i : Nat) (flipSec (W.sure.getD i default) b)).2 = C1 at *
  generalize C1.sync.2 = C2 at *
  clear r6 r8 o4 o5 o6 o7 o8 o9 room stp aft len c0 c1 c2 c3 c4 e1 e2 e3 w0 hf1 hnb r1 r2 hD3
  have hbl := secs_len hsl
  have hob : (W.op.map oB).length = 16 := by rw [List.length_map]; exact hol
  have q1 := peqs_self (flipSec (W.sure.getD i default) b)
  have q2 := peqs_self (W.sure.getD i default)
  have q3 := fun q => peqs_self (W.sure.getD q default)
  refine wk ?_
  refine PWops.stAll rfl rfl rfl rfl rfl rfl rfl rfl rfl hbl (by kernel_rfl) (secs_one _) (secs_bare _) ?_
  refine PWops.stAll rfl rfl rfl rfl rfl rfl rfl rfl rfl hob (by kernel_rfl) (oBs_one _) (oBs_bare _) ?_
  have k1 := kF1 ()
  refine wk ?_
  try rw [wrap64_id (by omega) (by omega)]
  refine wk ?_
  try rw [wrap64_id (by omega) (by omega)]
  refine wk ?_
  rw [← hi, ← hb]
  refine wg ?_
  clear k1 kF1
  have k1 := kR1 ()
  have k2 := kF2 ()
  refine wk ?_
  rw [Int.toNat_natCast]
  have hq64 : (b / 8).toNat < 64 := by omega
  refine PWops.ldB rfl rfl rfl rfl rfl rfl rfl rfl (secL_at _ hq64) rfl ?_
  refine wk ?_
  refine PWops.stB (new := [pbyte (xbyte ((W.sure.getD i default).1.getD (b / 8).toNat 0) b)]) (out := secL (flipSec (W.sure.getD i default) b)) rfl rfl rfl rfl rfl rfl rfl rfl rfl ⟨rfl, by rw [secL_len]; exact hq64⟩ (secL_flip _ b hq64) ?_
  refine wk ?_
  generalize flipSec (W.sure.getD i default) b = F at *
  refine PWops.eqA rfl rfl rfl rfl rfl rfl rfl rfl q1 (.inr rfl) ?_
  clear k1 kR1
  have k3 := kR2 ()
  have k4 := kT ()
  have k5 := kC ()
  refine wk ?_
  rw [Int.toNat_natCast]
  refine PWops.eqA rfl rfl rfl rfl rfl rfl rfl rfl q2 (.inr rfl) ?_
  refine wk ?_
  clear k2 k3 k4 k5 kF2 kR2 kT kC hq64
  refine PW.loop (fun k : Nat => ((((((((((((((bot.setb 900005 (dB 900006 900007 C)).setb 900006 (dC C)).setm 900007 (dM C)).setb 3008 (W.sure.flatMap secL)).setb 7003 (secL F)).setb 9006 (secL (W.sure.getD i default))).put 8 (pbool false)).put 10 (.ptr 3008 0)).put 12 (pint i)).put 14 (.ptr 7003 0)).put 15 (.ptr 9006 0)).put 16 (pint 0)).put 17 (.ptr 900005 0)).put 106 (pint k))) (fun k => k ≤ 16) (fun k => 16 - k) 0 (Nat.zero_le _) ?_ ?_
  · have b1 := dC_low C
    have b2 := dM_low C
    have b3 := secL_low F
    have b4 := secL_low (W.sure.getD i default)
    have z2 : ∀ c ∈ W.sure.flatMap secL, Low c := flat_low secL_low _
    exact sb
  · intro k hk16
    have b1 := dC_low C
    have b2 := dM_low C
    have b3 := secL_low F
    have b4 := secL_low (W.sure.getD i default)
    have z2 : ∀ c ∈ W.sure.flatMap secL, Low c := flat_low secL_low _
    by_cases hlt : k < 16
    · have k1 := kQ k hlt
      rw [r4 k hlt] at k1
      have q4 := q3 k
      clear kQ r4 kW kS kL q1 q2 q3 hsan
      by_cases hki : k = i
      · rw [if_pos hki] at k1
        refine wk ?_
        refine loopP (k + 1) (by omega) (by omega) ?_
        exact sb
      · rw [if_neg hki] at k1
        refine wk ?_
        rw [Int.toNat_natCast]
        refine PWops.eqA rfl rfl rfl rfl rfl rfl rfl rfl q4 (.inr rfl) ?_
        refine wk ?_
        refine loopP (k + 1) (by omega) (by omega) ?_
        exact sb
    · obtain rfl : k = 16 := by omega
      have k1 := kW ()
      have k2 := kS ()
      have k3 := kL ()
      clear kQ r4
      refine wk ?_
      refine PWops.eqA rfl rfl rfl rfl rfl rfl rfl rfl q1 (.inl rfl) ?_
      refine wk ?_
      exact retP rfl (by exact lw) rfl
end Go.Proofs.Ytilcpcpmkklobaa

/- Proved here: antiquarylaw22.DiskSpoils returns true for every input, and leaves its arguments as they were. No conditions. -/
namespace Go.Proofs.Ytilcpcpmkklobaa
set_option linter.unusedSimpArgs false
set_option linter.unusedVariables false
set_option linter.unnecessarySimpa false
open Go.ChangeShapes Go.WideShapes Go.ChangeAt Go.RowKit

set_option maxRecDepth 100000 in
theorem spoils_lifted (os : Os) (started : os.Started) (H : Type) (enc : TypeId × Value → H) :
    ReturnsInHanded {} Try.checked os 6 .any (Rows.diskSpoilsSpec.pre6 enc Try.prog Try.f6 Rows.diskSpoilsRow.domain false) (Rows.diskSpoilsSpec.post enc Try.prog Try.f6 false true false false) := by
  refine law_lifted os started H enc Try.func6 (by kernel_rfl)
    (ChangeSpec.witness6 (enc := enc) (C := Try.checked) false ⟨#[], #[.slice none 0 0, .int .u8 0, .int .u16 0, .slice none 0 0], []⟩ 8 (by kernel_rfl) (by kernel_rfl) (by kernel_rfl) (by kernel_rfl))
    Try.underlying4 rfl rfl (by kernel_rfl) (fun ds hd => ?_)
    (argsOpen_cons argOps (argsOpen_cons argB (argsOpen_cons argW (argsOpen_cons argKeep argsOpen_nil)))) (fun y hy => ?_)
  · match ds, hd with
    | [d1, d2, d3, d4], _ => exact ⟨rfl, rfl, rfl⟩
  · obtain ⟨l, x, w, keep, u⟩ := y
    obtain ⟨hl, hx, hw, hk, -⟩ := hy
    have e := reachE
    simp only at hl hx hw hk
    have hl2 := hl.2
    have hk2 := hk.2
    exact pw_spoils pw_sanity22 l x w keep (by omega) hx hw (by omega) hk.1

theorem spoils_holds : Rows.DiskSpoilsSaid :=
  OpenClaim.holds_of_wide 6 Try.f6 rfl rfl rfl rfl rfl rfl rfl ⟨rfl, rfl, rfl, rfl, rfl⟩ rfl rfl rfl rfl rfl (by kernel_rfl) Try.func6 (by kernel_rfl)
    (of_decide_eq_true (by kernel_rfl)) (by unfold Func.isWrapper; first | (rw [if_pos (by decide +kernel)]; kernel_rfl) | (rw [if_neg (by decide +kernel)]; exact ⟨rfl, rfl⟩))
    (fun os started H enc _ => spoils_lifted os started H enc)

#print axioms spoils_holds
end Go.Proofs.Ytilcpcpmkklobaa
