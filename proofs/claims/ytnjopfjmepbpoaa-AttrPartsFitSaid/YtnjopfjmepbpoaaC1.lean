/- Merged: Base, Base2, Base3, Base4, PwA, PwB, PwC, PwD, PwE, PwF, PwG, PwH, PwR, PwI, PwJ, PwK, PwL. -/
import Derived.Test.YtnjopfjmepbpoaaRows
import Derived.WalkKit
import Derived.WalkSpells
import Derived.WalkLawsBesides
import Derived.Deep.QuietTactic
import Derived.BigQuiet
import Derived.RegionTactic
import Derived.Lib.AppendZeros
import Derived.Lib.AppendStr
import Derived.Lib.Hide
import Derived.Laws.BytesString
namespace Go.Proofs.Ytnjopfjmepbpoaa
set_option linter.unusedSimpArgs false
set_option linter.unusedVariables false
set_option linter.unnecessarySimpa false
open Go.RowKit

/-- The slice v reads in w as the one-cell elements cs. -/
def Rd (w : World) (v : Value) (cs : List Value) : Prop :=
  ∃ a cap b off, v = .slice a cs.length cap ∧ cs.length ≤ cap ∧ cap ≤ maxLen ∧ (0 < cs.length → a = some ⟨b, off, none⟩) ∧
    ∀ j u, cs[j]? = some u → w.cell? ⟨b, off + j, none⟩ = some u

def Ints (w : World) (v : Value) (zs : List Int) : Prop := Rd w v (zs.map (Value.int .i64))

theorem Rd.below {w w' : World} {v : Value} {cs : List Value} (h : Rd w v cs) (hb : Below w.heap.size w w') : Rd w' v cs := by
  obtain ⟨a, cap, b, off, h1, h2, h3, h4, h5⟩ := h
  refine ⟨a, cap, b, off, h1, h2, h3, h4, fun j u hu => ?_⟩
  have := h5 j u hu
  rw [← this]
  exact hb.cell (World.block_lt_of_cell? _ _ this)

theorem Ints.open {w : World} {v : Value} {zs : List Int} (h : Ints w v zs) : ∃ a cap b off, v = .slice a zs.length cap ∧ zs.length ≤ cap ∧ cap ≤ maxLen ∧
    (0 < zs.length → a = some ⟨b, off, none⟩) ∧ Hid (∀ j x, zs[j]? = some x → w.cell? ⟨b, off + j, none⟩ = some (.int .i64 x)) := by
  obtain ⟨a, cap, b, off, h1, h2, h3, h4, h5⟩ := h
  simp only [List.length_map] at h1 h2 h4
  exact ⟨a, cap, b, off, h1, h2, h3, h4, fun j x hx => h5 j _ (by simp [hx])⟩

theorem ints_get {α : Type} (zs : List α) (k : Nat) (h : k < zs.length) : ∃ x, zs[k]? = some x := ⟨zs[k], by simp [h]⟩

/-- The call's own slice of one-cell elements of type E. -/
def Own (B : Nat) (E : TypeId) (w : World) (v : Value) (cs : List Value) : Prop := w.ownsRow B E 1 v cs.length cs

theorem Own.nil (B E w) : Own B E w (.slice none 0 0) [] := World.ownsRow_nil w B E 1

theorem Own.rd {B E : Nat} {w : World} {v : Value} {cs : List Value} (h : Own B E w v cs) : Rd w v cs := by
  rcases h.2 with ⟨rfl, hn⟩ | ⟨g, cap, cur, rfl, hb, hgg, hc, hm, hs, ht⟩
  · exact ⟨none, 0, 0, 0, by rw [hn], by omega, by unfold maxLen; omega, fun hh => by omega, fun j u hu => by
      have : cs = [] := List.eq_nil_of_length_eq_zero hn
      subst this; simp at hu⟩
  · refine ⟨_, cap, g, 0, rfl, hc, hm, fun _ => rfl, fun j u hu => ?_⟩
    have := World.ownsRow.cells h (g := g) rfl j u hu
    rw [← this]; unfold Addr.add; split <;> simp_all

theorem Own.rdInts {B E : Nat} {w : World} {v : Value} {zs : List Int} (h : Own B E w v (zs.map (Value.int .i64))) : Ints w v zs := h.rd

theorem Own.kept {B E : Nat} {w w' : World} {v : Value} {cs : List Value} (h : Own B E w v cs) (hb : Below w.heap.size w w') : Own B E w' v cs := by
  refine ⟨h.1, ?_⟩
  rcases h.2 with hn | ⟨g, cap, cur, rfl, hb1, hgg, rest⟩
  · exact .inl hn
  · exact .inr ⟨g, cap, cur, rfl, hb1, by rw [hb.block g (Array.getElem?_eq_some_iff.1 hgg).1]; exact hgg, rest⟩

theorem Own.alloc {B E : Nat} {w : World} {v : Value} {cs : List Value} (h : Own B E w v cs) (o : Obj) : Own B E (w.alloc o) v cs := World.ownsRow.alloc h o
theorem Own.drewN {B E : Nat} {w : World} {v : Value} {cs : List Value} (h : Own B E w v cs) {n : Nat} : Own B E (w.drewN n) v cs := h
theorem Own.drew {B E : Nat} {w : World} {v : Value} {cs : List Value} (h : Own B E w v cs) : Own B E w.drew v cs := h

/-- What the type table says of a one-cell element type. -/
structure Elem1 (P : Program) (E : TypeId) (z : Value) (bytes : Nat) : Prop where
  info : (P.info? E).map (fun i => (i.zero, i.size, i.bytes)) = some (some z, 1, bytes)
  one : z.cells = #[z]

/-- append(v, x): the one new element has just been laid in a block of its own. -/
theorem wp_push {P : Program} {ops : Array Oper} {rest : List Oper} {o : Oper} {a : Act} {Q : Exit → Act → World → Prop} {w0 : World} (s x : Operand) (t T E bytes : TypeId) (z : Value) (he : Elem1 P E z bytes)
    (hgd : o.guard = none) (ho : o.op = .call { callee := .builtin .append, args := #[s, x], argTypes := #[t, t] })
    (ht : P.underlying t = some (.slice E)) (B : Nat) (v u : Value) (cs : List Value) (hs : a.eval s = v) (hown : Own B E w0 v cs)
    (hx : a.eval x = .slice (some ⟨w0.heap.size, 0, none⟩) 1 1) (h1 : u.oneCell' = true)
    (h63 : cs.length + 1 ≤ maxLen) (hbytes : (cs.length + 1) * bytes ≤ 140737488355328) (hB : B ≤ w0.heap.size)
    (h : ∀ v' w', Own B E w' v' (cs ++ [u]) → Below B w0 w' → wpList P ops Q rest (a.put o.dst v') w') : wpList P ops Q (o :: rest) a (w0.alloc (.cells #[u] T)) := by
  obtain ⟨i0, hi, hz0, hz1, hz2⟩ := info_parts he.info
  refine wpList_append_own _ hgd s x t ho B E i0 z 1 bytes ht hi hz0 hz1 hz2 (by rw [he.one]; rfl) (by decide) v cs.length cs hs (World.ownsRow.alloc hown _) ⟨w0.heap.size, 0, none⟩ 1 1 [u] hx rfl ?_ ?_ h63 hbytes (by simp; omega) ?_
  · intro j y hj
    match j, hj with
    | 0, hj => simp at hj; subst hj; simp [Addr.add]
  · intro y hy; simp at hy; subst hy; exact h1
  · intro v' w' hown' hg _
    refine h v' w' (by simpa [Own] using hown') ?_
    exact ((Below.refl _ _).alloc hB _).grown hg (by simp; omega) (fun k hk => (World.ownsRow.lt hown k hk).1)

theorem Own.lit (w : World) (cs : List Value) (E B : Nat) (hB : B ≤ w.heap.size) (hm : cs.length ≤ maxLen) :
    Own B E (w.alloc (.cells cs.toArray E)) (.slice (some ⟨w.heap.size, 0, none⟩) cs.length cs.length) cs :=
  ⟨by simp, .inr ⟨w.heap.size, cs.length, cs.toArray, rfl, hB, heap_alloc_new w _, Nat.le_refl _, hm, by simp, by simp⟩⟩

/-- The call returns a new slice of ints. -/
def MadeInts (E : TypeId) (w : World) (zs : List Int) (e : Ending) (w' : World) : Prop :=
  ∃ v, e = .returned v ∧ Own w.heap.size E w' v (zs.map (Value.int .i64)) ∧ Below w.heap.size w w'

/-- The call returns a new slice of one-cell elements. -/
def MadeRow (E : TypeId) (w : World) (cs : List Value) (e : Ending) (w' : World) : Prop :=
  ∃ v, e = .returned v ∧ Own w.heap.size E w' v cs ∧ Below w.heap.size w w'

theorem Own.form {B E : Nat} {w : World} {v : Value} {cs : List Value} (h : Own B E w v cs) : ∃ a cap, v = .slice a cs.length cap := by
  rcases h.2 with ⟨rfl, hn⟩ | ⟨g, cap, cur, rfl, _⟩
  · exact ⟨none, 0, by rw [hn]⟩
  · exact ⟨_, _, rfl⟩

theorem Own.formInts {B E : Nat} {w : World} {v : Value} {zs : List Int} (h : Own B E w v (zs.map (Value.int .i64))) : ∃ a cap, v = .slice a zs.length cap := by
  obtain ⟨a, cap, e⟩ := h.form
  exact ⟨a, cap, by simpa using e⟩

theorem below_cell {w w' : World} {p : Addr} {v : Value} (h : Below w.heap.size w w') (hc : w.cell? p = some v) : w'.cell? p = some v :=
  (h.cell (World.block_lt_of_cell? _ _ hc)).trans hc

/-- An own slice that is not empty: its block, its cells, a store into it. -/
theorem Own.block {B E : Nat} {w : World} {v : Value} {cs : List Value} (h : Own B E w v cs) (hne : 0 < cs.length) : ∃ g cap, v = .slice (some ⟨g, 0, none⟩) cs.length cap ∧ B ≤ g ∧ g < w.heap.size ∧
    Hid (∀ (j : Nat) (u : Value), cs[j]? = some u → w.cell? ⟨g, j, none⟩ = some u) ∧ Hid (∀ j : Nat, w.frozen? ⟨g, j, none⟩ = false) ∧
    Hid (∀ (j : Nat) (u : Value), Own B E (w.setCell ⟨g, j, none⟩ u) (.slice (some ⟨g, 0, none⟩) cs.length cap) (cs.set j u)) := by
  rcases h.2 with ⟨rfl, hn⟩ | ⟨g, cap, cur, rfl, hb, hgg, hc, hm, hs, ht⟩
  · omega
  · refine ⟨g, cap, rfl, hb, (Array.getElem?_eq_some_iff.1 hgg).1, ?_, ?_, ?_⟩
    · intro j u hu
      have := World.ownsRow.cells h (g := g) rfl j u hu
      rw [← this]; unfold Addr.add; split <;> simp_all
    · intro j; simp [World.frozen?, hgg]
    · intro j u
      refine ⟨by simp, .inr ⟨g, cap, cur.setIfInBounds j u, by simp, hb, ?_, by simpa using hc, hm, by simpa using hs, ?_⟩⟩
      · simp [World.setCell, Array.getElem?_modify, hgg]
      · simp only [List.length_set, Nat.mul_one] at ht ⊢
        rw [Array.toList_setIfInBounds, List.take_set, ht]

/-- make([]T, n), n ints. -/
theorem wp_make {P : Program} {ops : Array Oper} {rest : List Oper} {o : Oper} {a : Act} {Q : Exit → Act → World → Prop} {w : World} (l c : Operand) (t E bytes : TypeId) (z : Value) (he : Elem1 P E z bytes)
    (hgd : o.guard = none) (ho : o.op = Op.makeSlice t l c) (ht : P.underlying t = some (.slice E)) (B : Nat) (hB : B ≤ w.heap.size) (kl kc : IntKind) (n : Nat) (L C : Int) (hl : a.eval l = .int kl L) (hc : a.eval c = .int kc C)
    (hL : L = (n : Int)) (hC : C = (n : Int)) (b2 : bytes * n ≤ 281474976710656) (b3 : n ≤ maxLen)
    (h : ∀ v' w', Own B E w' v' (List.replicate n z) → Below w.heap.size w w' → wpList P ops Q rest (a.put o.dst v') w') : wpList P ops Q (o :: rest) a w := by
  obtain ⟨i0, hi, hz0, hz1, hz2⟩ := info_parts he.info
  refine wpList_make_full w hgd l c t ho B E i0 z 1 ht hi hz0 hz1 kl kc L C n hl hc hL hC (by rw [hz2]; exact b2) b3 hB ?_
  intro w' hown hg
  refine h _ w' ?_ ((Below.refl _ _).grown hg (Nat.le_refl _) (by intro k hk; cases hk))
  have e : (madeCells z.cells (n * 1)).toList = List.replicate n z := by
    rw [he.one]
    apply List.ext_getElem
    · simp [madeCells]
    · intro k h1 h2
      simp [madeCells, Nat.mod_one]
  rw [e] at hown
  simpa [Own] using hown

theorem Hid.mk {p : Prop} (h : p) : Hid p := h
theorem ret_bool {a b : Bool} (h : a = b) : Ending.returned (.bool a) = .returned (.bool b) := by rw [h]
theorem ret_int {k : IntKind} {a b : Int} (h : a = b) : Ending.returned (.int k a) = .returned (.int k b) := by rw [h]

/-- The world is as it was, but for draws. -/
def Still (w w' : World) : Prop := ∃ n, w' = w.drewN n
theorem Still.refl (w : World) : Still w w := ⟨0, rfl⟩
theorem Still.one (w : World) (n : Nat) : Still w (w.drewN n) := ⟨n, rfl⟩
theorem Still.two (w : World) (n m : Nat) : Still w ((w.drewN n).drewN m) := ⟨_, World.drewN_drewN _ _ _⟩
theorem Still.below {w w' : World} (h : Still w w') (B : Nat) : Below B w w' := by
  obtain ⟨n, rfl⟩ := h
  exact ⟨rfl, rfl, rfl, Nat.le_refl _, fun _ _ => rfl⟩

theorem Below.upto {B : Nat} {w w' : World} (h : Below w.heap.size w w') (hB : B ≤ w.heap.size) : Below B w w' := h.mono hB
end Go.Proofs.Ytnjopfjmepbpoaa

/- More on own slices. -/
namespace Go.Proofs.Ytnjopfjmepbpoaa
set_option linter.unusedSimpArgs false
set_option linter.unusedVariables false
set_option linter.unnecessarySimpa false
open Go.RowKit

theorem Own.lower {B B' E : Nat} {w : World} {v : Value} {cs : List Value} (h : Own B E w v cs) (hB : B' ≤ B) : Own B' E w v cs := by
  refine ⟨h.1, ?_⟩
  rcases h.2 with hn | ⟨g, cap, cur, rfl, hb1, rest⟩
  · exact .inl hn
  · exact .inr ⟨g, cap, cur, rfl, by omega, rest⟩

end Go.Proofs.Ytnjopfjmepbpoaa

/- append of a slice that is not empty. -/
namespace Go.Proofs.Ytnjopfjmepbpoaa
set_option linter.unusedSimpArgs false
set_option linter.unusedVariables false
set_option linter.unnecessarySimpa false
open Go.RowKit

theorem wp_append {P : Program} {ops : Array Oper} {rest : List Oper} {o : Oper} {a : Act} {Q : Exit → Act → World → Prop} {w : World} (s x : Operand) (t E : TypeId) (bytes : Nat) (z : Value) (he : Elem1 P E z bytes)
    (hgd : o.guard = none) (ho : o.op = .call { callee := .builtin .append, args := #[s, x], argTypes := #[t, t] })
    (ht : P.underlying t = some (.slice E)) (B : Nat) (v u : Value) (cs cs2 : List Value) (hs : a.eval s = v) (hown : Own B E w v cs)
    (hx : a.eval x = u) (hr : Rd w u cs2) (hne : 0 < cs2.length) (h1 : ∀ c ∈ cs2, c.oneCell' = true)
    (h63 : cs.length + cs2.length ≤ maxLen) (hbytes : (cs.length + cs2.length) * bytes ≤ 140737488355328) (hB : B ≤ w.heap.size)
    (h : ∀ v' w', Own B E w' v' (cs ++ cs2) → Below B w w' → wpList P ops Q rest (a.put o.dst v') w') : wpList P ops Q (o :: rest) a w := by
  obtain ⟨i0, hi, hz0, hz1, hz2⟩ := info_parts he.info
  obtain ⟨aa, cap, b, off, rfl, r2, r3, r4, r5⟩ := hr
  have r4' := r4 hne
  subst r4'
  refine wpList_append_own _ hgd s x t ho B E i0 z 1 bytes ht hi hz0 hz1 hz2 (by rw [he.one]; rfl) (by decide) v cs.length cs hs hown ⟨b, off, none⟩ cs2.length cap cs2 hx (by simp) ?_ h1 h63 hbytes hB ?_
  · intro j y hj
    rw [Addr.add_lit]; exact r5 j y hj
  · intro v' w' hown' hg _
    refine h v' w' (by simpa [Own] using hown') ?_
    exact (Below.refl _ _).grown hg hB (fun k hk => (World.ownsRow.lt hown k hk).1)

end Go.Proofs.Ytnjopfjmepbpoaa

/- append of any slice, of a string, and onto slices of elements of several cells. -/
namespace Go.Proofs.Ytnjopfjmepbpoaa
set_option linter.unusedSimpArgs false
set_option linter.unusedVariables false
set_option linter.unnecessarySimpa false
open Go.RowKit

theorem run_append0 {P : Program} (w : World) (t ty e : TypeId) (i : TypeInfo) (ht : P.underlying t = some (.slice e)) (hi : P.info? e = some i) (a a2 : Option Addr) (n c c2 : Nat) (hnc : n ≤ c) :
    (Builtin.append_ #[t, t] ty #[.slice a n c, .slice a2 0 c2]).run P w = .ok (.slice a n c) w := by
  cases a <;> cases a2 <;> simp [Builtin.append_, run_underlying ht, sizeOf, typeInfo, hi, Builtin.lenOf, hnc, Builtin.firstCells, loadCells, loadCellsFrom, storeCells]

theorem wp_append0 {P : Program} {ops : Array Oper} {rest : List Oper} {o : Oper} {a : Act} {Q : Exit → Act → World → Prop} {w : World} (s x : Operand) (t E : TypeId) (i : TypeInfo) (hi : P.info? E = some i)
    (hgd : o.guard = none) (ho : o.op = .call { callee := .builtin .append, args := #[s, x], argTypes := #[t, t] })
    (ht : P.underlying t = some (.slice E)) (b b2 : Option Addr) (n c c2 : Nat) (hs : a.eval s = .slice b n c) (hx : a.eval x = .slice b2 0 c2) (hnc : n ≤ c)
    (h : wpList P ops Q rest (a.put o.dst (.slice b n c)) w) : wpList P ops Q (o :: rest) a w :=
  Lib.wpList_append_run w hgd s x t t ho _ _ hs hx _ _ (run_append0 w t _ E i ht hi b b2 n c c2 hnc) h

theorem Own.cap {B E : Nat} {w : World} {v : Value} {cs : List Value} (h : Own B E w v cs) : ∃ a c, v = .slice a cs.length c ∧ cs.length ≤ c := by
  rcases h.2 with ⟨rfl, hn⟩ | ⟨g, cap, cur, rfl, hb, hgg, hc, _⟩
  · exact ⟨none, 0, by rw [hn], by omega⟩
  · exact ⟨_, cap, rfl, hc⟩

/-- append of any slice onto one's own. -/
theorem wp_appendR {P : Program} {ops : Array Oper} {rest : List Oper} {o : Oper} {a : Act} {Q : Exit → Act → World → Prop} {w : World} (s x : Operand) (t E : TypeId) (bytes : Nat) (z : Value) (he : Elem1 P E z bytes)
    (hgd : o.guard = none) (ho : o.op = .call { callee := .builtin .append, args := #[s, x], argTypes := #[t, t] })
    (ht : P.underlying t = some (.slice E)) (B : Nat) (v u : Value) (cs cs2 : List Value) (hs : a.eval s = v) (hown : Own B E w v cs)
    (hx : a.eval x = u) (hr : Rd w u cs2) (h1 : ∀ c ∈ cs2, c.oneCell' = true)
    (h63 : cs.length + cs2.length ≤ maxLen) (hbytes : (cs.length + cs2.length) * bytes ≤ 140737488355328) (hB : B ≤ w.heap.size)
    (h : ∀ v' w', Own B E w' v' (cs ++ cs2) → Below B w w' → wpList P ops Q rest (a.put o.dst v') w') : wpList P ops Q (o :: rest) a w := by
  by_cases hne : 0 < cs2.length
  · exact wp_append s x t E bytes z he hgd ho ht B v u cs cs2 hs hown hx hr hne h1 h63 hbytes hB h
  · obtain rfl : cs2 = [] := List.eq_nil_of_length_eq_zero (by omega)
    obtain ⟨i0, hi, -⟩ := info_parts he.info
    obtain ⟨b2, c2, -, -, rfl, -⟩ := hr
    obtain ⟨b1, c1, rfl, hc⟩ := hown.cap
    refine wp_append0 s x t E i0 hi hgd ho ht b1 b2 _ c1 c2 hs hx hc (h _ w (by simpa using hown) (Below.refl _ _))

/-- append of a string onto one's own bytes. -/
theorem wp_appendStr {P : Program} {ops : Array Oper} {rest : List Oper} {o : Oper} {a : Act} {Q : Exit → Act → World → Prop} {w : World} (s x : Operand) (t ts E : TypeId) (he : Elem1 P E (.int .u8 0) 1)
    (hgd : o.guard = none) (ho : o.op = .call { callee := .builtin .append, args := #[s, x], argTypes := #[t, ts] })
    (ht : P.underlying t = some (.slice E)) (hts : P.underlying ts = some .string) (B : Nat) (v : Value) (cs : List Value) (st : ByteArray) (hs : a.eval s = v) (hown : Own B E w v cs)
    (hx : a.eval x = .string st) (h63 : cs.length + st.size ≤ 1000000000000) (hB : B ≤ w.heap.size)
    (h : ∀ v' w', Own B E w' v' (cs ++ Lib.strCells st) → Below B w w' → wpList P ops Q rest (a.put o.dst v') w') : wpList P ops Q (o :: rest) a w := by
  obtain ⟨i0, hi, hz0, hz1, hz2⟩ := info_parts he.info
  refine Lib.wpList_append_own_string w hgd s x t ts ho B E i0 ht hts hi hz0 hz1 hz2 v cs.length cs hs hown st hx (by unfold maxLen; omega) (by omega) hB ?_
  intro v' w' hown' hg _
  refine h v' w' (by simpa [Own, Lib.strCells_length] using hown') ?_
  exact (Below.refl _ _).grown hg hB (fun k hk => (World.ownsRow.lt hown k hk).1)

/-- What the type table says of an element type of k cells. -/
structure ElemS (P : Program) (E : TypeId) (z : Value) (k bytes : Nat) : Prop where
  info : (P.info? E).map (fun i => (i.zero, i.size, i.bytes)) = some (some z, k, bytes)
  cells : z.cells.size = k
  pos : 0 < k

/-- The call's own slice of elements of k cells. -/
def OwnS (B E k : Nat) (w : World) (v : Value) (rows : List (List Value)) : Prop := w.ownsRow B E k v rows.length rows.flatten ∧ ∀ r ∈ rows, r.length = k

theorem OwnS.nil (B E k : Nat) (w : World) : OwnS B E k w (.slice none 0 0) [] := ⟨World.ownsRow_nil w B E k, fun r hr => by simp at hr⟩
theorem OwnS.kept {B E k : Nat} {w w' : World} {v : Value} {rows : List (List Value)} (h : OwnS B E k w v rows) (hb : Below w.heap.size w w') : OwnS B E k w' v rows := by
  refine ⟨⟨h.1.1, ?_⟩, h.2⟩
  rcases h.1.2 with hn | ⟨g, cap, cur, rfl, hb1, hgg, rest⟩
  · exact .inl hn
  · exact .inr ⟨g, cap, cur, rfl, hb1, by rw [hb.block g (Array.getElem?_eq_some_iff.1 hgg).1]; exact hgg, rest⟩
theorem OwnS.form {B E k : Nat} {w : World} {v : Value} {rows : List (List Value)} (h : OwnS B E k w v rows) : ∃ a cap, v = .slice a rows.length cap := by
  rcases h.1.2 with ⟨rfl, hn⟩ | ⟨g, cap, cur, rfl, _⟩
  · exact ⟨none, 0, by rw [hn]⟩
  · exact ⟨_, _, rfl⟩
theorem OwnS.cap {B E k : Nat} {w : World} {v : Value} {rows : List (List Value)} (h : OwnS B E k w v rows) : ∃ a cap, v = .slice a rows.length cap ∧ rows.length ≤ cap := by
  rcases h.1.2 with ⟨rfl, hn⟩ | ⟨g, cap, cur, rfl, hb, hgg, hc, _⟩
  · exact ⟨none, 0, by rw [hn], by omega⟩
  · exact ⟨_, cap, rfl, hc⟩
theorem OwnS.lower {B B' E k : Nat} {w : World} {v : Value} {rows : List (List Value)} (h : OwnS B E k w v rows) (hB : B' ≤ B) : OwnS B' E k w v rows := by
  refine ⟨⟨h.1.1, ?_⟩, h.2⟩
  rcases h.1.2 with hn | ⟨g, cap, cur, rfl, hb1, rest⟩
  · exact .inl hn
  · exact .inr ⟨g, cap, cur, rfl, by omega, rest⟩

theorem flat_getS {α : Type} (k : Nat) : ∀ (rows : List (List α)), (∀ r ∈ rows, r.length = k) → ∀ (i j : Nat) (r : List α) (u : α), rows[i]? = some r → r[j]? = some u → rows.flatten[i * k + j]? = some u
  | [], _, i, j, r, u, h, _ => by simp at h
  | x :: xs, hk, 0, j, r, u, h, hu => by
    simp at h; subst h
    have hj : j < x.length := (List.getElem?_eq_some_iff.1 hu).1
    rw [List.flatten_cons, Nat.zero_mul, Nat.zero_add, List.getElem?_append_left hj]
    exact hu
  | x :: xs, hk, i+1, j, r, u, h, hu => by
    have hx : x.length = k := hk x (by simp)
    rw [List.flatten_cons, List.getElem?_append_right (by rw [hx, Nat.succ_mul]; omega), hx, show (i + 1) * k + j - k = i * k + j by rw [Nat.succ_mul]; omega]
    exact flat_getS k xs (fun r hr => hk r (by simp [hr])) i j r u (by simpa using h) hu

/-- It reads as its rows. -/
theorem OwnS.cells {B E k : Nat} {w : World} {v : Value} {rows : List (List Value)} (h : OwnS B E k w v rows) : ∃ a cap b off, v = .slice a rows.length cap ∧ rows.length ≤ cap ∧ cap ≤ maxLen ∧ (0 < rows.length → a = some ⟨b, off, none⟩) ∧
    ∀ i j r u, rows[i]? = some r → r[j]? = some u → w.cell? ⟨b, off + i * k + j, none⟩ = some u := by
  rcases h.1.2 with ⟨rfl, hn⟩ | ⟨g, cap, cur, rfl, hb, hgg, hc, hm, hs, ht⟩
  · exact ⟨none, 0, 0, 0, by rw [hn], by omega, by unfold maxLen; omega, fun hh => by omega, fun i j r u hr hu => by
      have : rows = [] := List.eq_nil_of_length_eq_zero hn
      subst this; simp at hr⟩
  · refine ⟨_, cap, g, 0, rfl, hc, hm, fun _ => rfl, fun i j r u hr hu => ?_⟩
    have := World.ownsRow.cells h.1 (g := g) rfl (i * k + j) u (flat_getS k rows h.2 i j r u hr hu)
    rw [← this]; unfold Addr.add; split <;> simp_all

/-- append of rows that lie somewhere. -/
theorem wp_appendS {P : Program} {ops : Array Oper} {rest : List Oper} {o : Oper} {a : Act} {Q : Exit → Act → World → Prop} {w : World} (s x : Operand) (t E : TypeId) (k bytes : Nat) (z : Value) (he : ElemS P E z k bytes)
    (hgd : o.guard = none) (ho : o.op = .call { callee := .builtin .append, args := #[s, x], argTypes := #[t, t] })
    (ht : P.underlying t = some (.slice E)) (B : Nat) (v : Value) (rows rows2 : List (List Value)) (hs : a.eval s = v) (hown : OwnS B E k w v rows)
    (b off c : Nat) (hx : a.eval x = .slice (some ⟨b, off, none⟩) rows2.length c) (hk : ∀ r ∈ rows2, r.length = k) (hr : ∀ i u, rows2.flatten[i]? = some u → w.cell? ⟨b, off + i, none⟩ = some u) (h1 : ∀ r ∈ rows2, ∀ c ∈ r, c.oneCell' = true)
    (h63 : rows.length + rows2.length ≤ maxLen) (hbytes : (rows.length + rows2.length) * bytes ≤ 140737488355328) (hB : B ≤ w.heap.size)
    (h : ∀ v' w', OwnS B E k w' v' (rows ++ rows2) → Below B w w' → wpList P ops Q rest (a.put o.dst v') w') : wpList P ops Q (o :: rest) a w := by
  obtain ⟨i0, hi, hz0, hz1, hz2⟩ := info_parts he.info
  have hfl : ∀ l : List (List Value), (∀ r ∈ l, r.length = k) → l.flatten.length = l.length * k := by
    intro l
    induction l with
    | nil => intro _; simp
    | cons x xs ih => intro hh; rw [List.flatten_cons, List.length_append, ih (fun r hr => hh r (by simp [hr])), hh x (by simp), List.length_cons, Nat.succ_mul]; omega
  refine wpList_append_own w hgd s x t ho B E i0 z k bytes ht hi hz0 hz1 hz2 he.cells he.pos v rows.length rows.flatten hs hown.1 ⟨b, off, none⟩ rows2.length c rows2.flatten hx (hfl rows2 hk) ?_ ?_ h63 hbytes hB ?_
  · intro j y hj
    rw [Addr.add_lit]; exact hr j y hj
  · intro u hu
    obtain ⟨r, hr1, hr2⟩ := List.mem_flatten.1 hu
    exact h1 r hr1 u hr2
  · intro v' w' hown' hg _
    refine h v' w' ⟨by simpa using hown', fun r hr' => (List.mem_append.1 hr').elim (hown.2 r) (hk r)⟩ ?_
    exact (Below.refl _ _).grown hg hB (fun k hk => (World.ownsRow.lt hown.1 k hk).1)

/-- append of one row, which has just been laid in a block of its own. -/
theorem wp_pushS {P : Program} {ops : Array Oper} {rest : List Oper} {o : Oper} {a : Act} {Q : Exit → Act → World → Prop} {w0 : World} (s x : Operand) (t T E : TypeId) (k bytes : Nat) (z : Value) (he : ElemS P E z k bytes)
    (hgd : o.guard = none) (ho : o.op = .call { callee := .builtin .append, args := #[s, x], argTypes := #[t, t] })
    (ht : P.underlying t = some (.slice E)) (B : Nat) (v : Value) (rows : List (List Value)) (r : List Value) (cs : Array Value) (hcs : cs = r.toArray) (hs : a.eval s = v) (hown : OwnS B E k w0 v rows)
    (g : Nat) (hg : g = w0.heap.size) (hx : a.eval x = .slice (some ⟨g, 0, none⟩) 1 1) (hk : r.length = k) (h1 : ∀ c ∈ r, c.oneCell' = true)
    (h63 : rows.length + 1 ≤ maxLen) (hbytes : (rows.length + 1) * bytes ≤ 140737488355328) (hB : B ≤ w0.heap.size)
    (h : ∀ v' w', OwnS B E k w' v' (rows ++ [r]) → Below B w0 w' → wpList P ops Q rest (a.put o.dst v') w') : wpList P ops Q (o :: rest) a (w0.alloc (.cells cs T)) := by
  subst hg hcs
  refine wp_appendS s x t E k bytes z he hgd ho ht B v rows [r] hs (hown.kept ((Below.refl _ _).alloc (Nat.le_refl _) _)) w0.heap.size 0 1 hx (by simpa using hk) ?_ (by simpa using h1) h63 hbytes (by simp; omega) ?_
  · intro i u hu
    simp at hu
    simp [hu]
  · intro v' w' ho' hb'
    exact h v' w' ho' (((Below.refl _ _).alloc hB _).trans hb')

end Go.Proofs.Ytnjopfjmepbpoaa

/- Pure values and pure states: what the memory of a call reads as. -/
namespace Go.Proofs.Ytnjopfjmepbpoaa
set_option linter.unusedSimpArgs false
set_option linter.unusedVariables false
set_option linter.unnecessarySimpa false
open Go.RowKit

/-- A pure value: what a value reads as. -/
inductive PV where
  | undef
  | val (v : Value)
  | nilsl
  | sl (n k : Nat) (cs : List PV) (own : Option TypeId)
  | ptr (id off : Nat)
  | ep (cs : List PV) (off : Nat)
  | fn (f : FuncId) (caps : List PV)
  | agg (cs : List PV)
  | tup (vs : List PV)
  deriving Inhabited

def plainV : Value → Bool
  | .bool _ | .int _ _ | .string _ | .nilFunc | .nilIface | .pointer none | .map none => true
  | _ => false

theorem plainV_one {v : Value} (h : plainV v = true) : v.oneCell' = true ∧ v.cells = #[v] := by
  cases v <;> simp_all [plainV, Value.oneCell', Value.cells]

/-- Memory that will not change any more. -/
abbrev Imm := Nat → Nat → Option Value

inductive Rep (Φ : Imm) (μ : Nat → Option Nat) : PV → Value → Prop
  | undef (v : Value) : Rep Φ μ .undef v
  | val (v : Value) (h : plainV v = true) : Rep Φ μ (.val v) v
  | nilsl : Rep Φ μ .nilsl (.slice none 0 0)
  | sl0 (k : Nat) (own : Option TypeId) (a : Option Addr) (cap : Nat) (h : cap ≤ maxLen) : Rep Φ μ (.sl 0 k [] own) (.slice a 0 cap)
  | sl (n k : Nat) (cs : List PV) (own : Option TypeId) (b off cap : Nat) (us : Nat → Value) (h1 : cs.length = n * k) (h2 : n ≤ cap) (h3 : cap ≤ maxLen)
      (hp : ∀ j, j < cs.length → Φ b (off + j) = some (us j)) (hr : ∀ j c, cs[j]? = some c → Rep Φ μ c (us j)) : Rep Φ μ (.sl n k cs own) (.slice (some ⟨b, off, none⟩) n cap)
  | ptr (id off g : Nat) (h : μ id = some g) : Rep Φ μ (.ptr id off) (.pointer (some ⟨g, off, none⟩))
  | ep (cs : List PV) (off b o : Nat) (us : Nat → Value) (hp : ∀ j, j < cs.length → Φ b (o + j) = some (us j)) (hr : ∀ j c, cs[j]? = some c → Rep Φ μ c (us j)) :
      Rep Φ μ (.ep cs off) (.pointer (some ⟨b, o + off, none⟩))
  | fn (f : FuncId) (cs : List PV) (us : Nat → Value) (hr : ∀ j c, cs[j]? = some c → Rep Φ μ c (us j)) : Rep Φ μ (.fn f cs) (.func (.func f) #[] ((List.range cs.length).map us).toArray)
  | agg (cs : List PV) (us : Nat → Value) (hr : ∀ j c, cs[j]? = some c → Rep Φ μ c (us j)) : Rep Φ μ (.agg cs) (.agg ((List.range cs.length).map us).toArray)
  | tup (cs : List PV) (us : Nat → Value) (hr : ∀ j c, cs[j]? = some c → Rep Φ μ c (us j)) : Rep Φ μ (.tup cs) (.tuple ((List.range cs.length).map us).toArray)

theorem Rep.mono {Φ Φ' : Imm} {μ μ' : Nat → Option Nat} (hΦ : ∀ b o u, Φ b o = some u → Φ' b o = some u) (hμ : ∀ i g, μ i = some g → μ' i = some g) {p : PV} {v : Value} (h : Rep Φ μ p v) : Rep Φ' μ' p v := by
  induction h with
  | undef v => exact .undef v
  | val v h => exact .val v h
  | nilsl => exact .nilsl
  | sl0 k own a cap h => exact .sl0 k own a cap h
  | sl n k cs own b off cap us h1 h2 h3 hp hr ih => exact .sl n k cs own b off cap us h1 h2 h3 (fun j hj => hΦ _ _ _ (hp j hj)) ih
  | ptr id off g h => exact .ptr id off g (hμ _ _ h)
  | ep cs off b o us hp hr ih => exact .ep cs off b o us (fun j hj => hΦ _ _ _ (hp j hj)) ih
  | fn f cs us hr ih => exact .fn f cs us ih
  | agg cs us hr ih => exact .agg cs us ih
  | tup cs us hr ih => exact .tup cs us ih

theorem Rep.nilsl_inv {Φ : Imm} {μ : Nat → Option Nat} {v : Value} (h : Rep Φ μ .nilsl v) : v = .slice none 0 0 := by cases h; rfl

/-- Without the mark of one's own. -/
def PV.bare : PV → PV
  | .sl n k cs _ => .sl n k cs none
  | p => p

def PV.ownB : PV → Bool
  | .sl _ _ _ (some _) => true
  | _ => false

theorem PV.bare_own (p : PV) : p.bare.ownB = false := by cases p <;> simp [PV.bare, PV.ownB]
theorem PV.bare_bare (p : PV) : p.bare.bare = p.bare := by cases p <;> rfl
theorem PV.bare_of (p : PV) (h : p.ownB = false) : p.bare = p := by
  cases p with
  | sl n k cs own => cases own <;> simp_all [PV.bare, PV.ownB]
  | _ => rfl

theorem Rep.bare {Φ : Imm} {μ : Nat → Option Nat} {p : PV} {v : Value} (h : Rep Φ μ p v) : Rep Φ μ p.bare v := by
  cases h with
  | sl0 k own a cap h => exact .sl0 k none a cap h
  | sl n k cs own b off cap us h1 h2 h3 hp hr => exact .sl n k cs none b off cap us h1 h2 h3 hp hr
  | undef v => exact .undef v
  | val v h => exact .val v h
  | nilsl => exact .nilsl
  | ptr id off g h => exact .ptr id off g h
  | ep cs off b o us hp hr => exact .ep cs off b o us hp hr
  | fn f cs us hr => exact .fn f cs us hr
  | agg cs us hr => exact .agg cs us hr
  | tup cs us hr => exact .tup cs us hr

/-- It names no variable of the call. -/
inductive Low : PV → Prop
  | undef : Low .undef
  | val (v : Value) : Low (.val v)
  | nilsl : Low .nilsl
  | sl (n k : Nat) (cs : List PV) (own : Option TypeId) (h : ∀ c ∈ cs, Low c) : Low (.sl n k cs own)
  | ep (cs : List PV) (off : Nat) (h : ∀ c ∈ cs, Low c) : Low (.ep cs off)
  | fn (f : FuncId) (cs : List PV) (h : ∀ c ∈ cs, Low c) : Low (.fn f cs)
  | agg (cs : List PV) (h : ∀ c ∈ cs, Low c) : Low (.agg cs)
  | tup (cs : List PV) (h : ∀ c ∈ cs, Low c) : Low (.tup cs)

theorem mem_of_get {α : Type} {l : List α} {j : Nat} {c : α} (h : l[j]? = some c) : c ∈ l := List.mem_of_getElem? h

theorem Rep.low {Φ : Imm} {μ μ' : Nat → Option Nat} {p : PV} {v : Value} (h : Rep Φ μ p v) (hl : Low p) : Rep Φ μ' p v := by
  induction h with
  | undef v => exact .undef v
  | val v h => exact .val v h
  | nilsl => exact .nilsl
  | sl0 k own a cap h => exact .sl0 k own a cap h
  | sl n k cs own b off cap us h1 h2 h3 hp hr ih => cases hl with | sl _ _ _ _ hl => exact .sl n k cs own b off cap us h1 h2 h3 hp (fun j c hj => ih j c hj (hl c (mem_of_get hj)))
  | ptr id off g h => cases hl
  | ep cs off b o us hp hr ih => cases hl with | ep _ _ hl => exact .ep cs off b o us hp (fun j c hj => ih j c hj (hl c (mem_of_get hj)))
  | fn f cs us hr ih => cases hl with | fn _ _ hl => exact .fn f cs us (fun j c hj => ih j c hj (hl c (mem_of_get hj)))
  | agg cs us hr ih => cases hl with | agg _ hl => exact .agg cs us (fun j c hj => ih j c hj (hl c (mem_of_get hj)))
  | tup cs us hr ih => cases hl with | tup _ hl => exact .tup cs us (fun j c hj => ih j c hj (hl c (mem_of_get hj)))

/-- It reads alike whatever the memory. -/
inductive Flat : PV → Prop
  | undef : Flat .undef
  | val (v : Value) : Flat (.val v)
  | nilsl : Flat .nilsl
  | agg (cs : List PV) (h : ∀ c ∈ cs, Flat c) : Flat (.agg cs)
  | tup (cs : List PV) (h : ∀ c ∈ cs, Flat c) : Flat (.tup cs)

theorem Rep.flat {Φ Φ' : Imm} {μ μ' : Nat → Option Nat} {p : PV} {v : Value} (h : Rep Φ μ p v) (hl : Flat p) : Rep Φ' μ' p v := by
  induction h with
  | undef v => exact .undef v
  | val v h => exact .val v h
  | nilsl => exact .nilsl
  | sl0 k own a cap h => cases hl
  | sl n k cs own b off cap us h1 h2 h3 hp hr ih => cases hl
  | ptr id off g h => cases hl
  | ep cs off b o us hp hr ih => cases hl
  | fn f cs us hr ih => cases hl
  | agg cs us hr ih => cases hl with | agg _ hl => exact .agg cs us (fun j c hj => ih j c hj (hl c (mem_of_get hj)))
  | tup cs us hr ih => cases hl with | tup _ hl => exact .tup cs us (fun j c hj => ih j c hj (hl c (mem_of_get hj)))

/-- The state of a call: its slots, its variables in memory. -/
structure PS where
  t : Nat → PV
  b : Nat → Option (List PV)

def upd {α : Type} (f : Nat → α) (i : Nat) (x : α) (j : Nat) : α := cond (Nat.beq j i) x (f j)
theorem upd_if {α : Type} (f : Nat → α) (i : Nat) (x : α) (j : Nat) : upd f i x j = if j = i then x else f j := by
  unfold upd
  by_cases h : j = i
  · subst h; simp
  · have : Nat.beq j i = false := by
      cases hb : Nat.beq j i with
      | false => rfl
      | true => exact absurd (Nat.eq_of_beq_eq_true hb) h
    rw [this, if_neg h]; rfl
theorem upd_same {α : Type} (f : Nat → α) (i : Nat) (x : α) : upd f i x i = x := by simp [upd_if]
theorem upd_ne {α : Type} (f : Nat → α) {i j : Nat} (x : α) (h : j ≠ i) : upd f i x j = f j := by simp [upd_if, h]
theorem upd_comm {α : Type} (f : Nat → α) {i j : Nat} (x y : α) (h : i ≠ j) : upd (upd f i x) j y = upd (upd f j y) i x := by
  funext k; simp only [upd_if]; by_cases h1 : k = i <;> by_cases h2 : k = j <;> simp_all

def PS.put (σ : PS) (d : Nat) (p : PV) : PS := { σ with t := upd σ.t d p }

/-- Who may write to a block. -/
inductive Who where
  | box (id : Nat)
  | tmp (t : Nat)
  | cell (id off : Nat)
  deriving DecidableEq

/-- A slice that may be appended to. -/
def OwnAt (B : Nat) (Φ : Imm) (ω : Nat → Option Who) (w : World) (p : Who) (n k : Nat) (E : TypeId) (v : Value) : Prop :=
  (v = .slice none 0 0 ∧ n = 0) ∨ ∃ g cap cur, v = .slice (some ⟨g, 0, none⟩) n cap ∧ B ≤ g ∧ w.heap[g]? = some (.cells cur E (0, 0)) ∧ n ≤ cap ∧ cap ≤ maxLen ∧ cur.size = cap * k ∧ ω g = some p ∧ ∀ j, n * k ≤ j → Φ g j = none

/-- A variable in memory. -/
def BoxAt (B : Nat) (Φ : Imm) (μ : Nat → Option Nat) (ω : Nat → Option Who) (w : World) (id : Nat) (bs : List PV) : Prop :=
  ∃ g cur T, μ id = some g ∧ w.heap[g]? = some (.cells cur T (0, 0)) ∧ B ≤ g ∧ ω g = some (.box id) ∧ (∀ j, Φ g j = none) ∧ cur.size = bs.length ∧ ∀ j c, bs[j]? = some c → ∃ u, cur[j]? = some u ∧ u.oneCell' = true ∧ Rep Φ μ c u ∧
    ∀ n k cs E, c = .sl n k cs (some E) → OwnAt B Φ ω w (.cell id j) n k E u

/-- What the slots and the memory read as. -/
structure RelG (Φ0 : Imm) (W : World) (M : Nat) (Φ : Imm) (μ : Nat → Option Nat) (ω : Nat → Option Who) (σ : PS) (a : Act) (w : World) : Prop where
  below : Below W.heap.size W w
  defers : a.defers = []
  size : a.tmps.size = M
  imm : ∀ b o u, Φ b o = some u → w.cell? ⟨b, o, none⟩ = some u
  old : ∀ b o, b < W.heap.size → Φ b o = Φ0 b o
  tmps : ∀ t, Rep Φ μ (σ.t t) (a.tmps.getD t undef)
  own : ∀ t n k cs E, σ.t t = .sl n k cs (some E) → OwnAt W.heap.size Φ ω w (.tmp t) n k E (a.tmps.getD t undef)
  box : ∀ id bs, σ.b id = some bs → BoxAt W.heap.size Φ μ ω w id bs
  gone : ∀ id, σ.b id = none → μ id = none
  lt : ∀ g p, ω g = some p → g < w.heap.size

def Rel (Φ0 : Imm) (W : World) (M : Nat) (σ : PS) (a : Act) (w : World) : Prop := ∃ Φ μ ω, RelG Φ0 W M Φ μ ω σ a w

theorem getD_put (a : Act) (d t : Nat) (v : Value) (hd : d < a.tmps.size) : (a.put (some d) v).tmps.getD t undef = if t = d then v else a.tmps.getD t undef := by
  simp only [Act.put, Array.getD_eq_getD_getElem?, Array.getElem?_setIfInBounds]
  by_cases h : d = t
  · subst h; simp [hd]
  · rw [if_neg h, if_neg (fun e => h e.symm)]

section
variable {Φ0 : Imm} {W : World} {M : Nat} {Φ : Imm} {μ : Nat → Option Nat} {ω : Nat → Option Who} {σ : PS} {a : Act} {w : World}

/-- A value that is not one's own into a slot. -/
theorem RelG.put (h : RelG Φ0 W M Φ μ ω σ a w) {d : Nat} (hd : d < M) {p : PV} {v : Value} (hp : Rep Φ μ p v) (ho : p.ownB = false) : RelG Φ0 W M Φ μ ω (σ.put d p) (a.put (some d) v) w := by
  have hd' : d < a.tmps.size := by rw [h.size]; exact hd
  refine { h with defers := h.defers, size := by simp [Act.put, h.size], tmps := fun t => ?_, own := fun t n k cs E e => ?_ }
  · rw [getD_put _ _ _ _ hd']
    by_cases ht : t = d
    · simp only [PS.put, upd_if, if_pos ht]; exact hp
    · simp only [PS.put, upd_if, if_neg ht]; exact h.tmps t
  · rw [getD_put _ _ _ _ hd']
    by_cases ht : t = d
    · simp only [PS.put, upd_if, if_pos ht] at e; rw [e] at ho; simp [PV.ownB] at ho
    · simp only [PS.put, upd_if, if_neg ht] at e ⊢; exact h.own t n k cs E e

/-- A slot without its mark. -/
theorem RelG.strip (h : RelG Φ0 W M Φ μ ω σ a w) (t : Nat) : RelG Φ0 W M Φ μ ω { σ with t := upd σ.t t (σ.t t).bare } a w := by
  refine { h with tmps := fun u => ?_, own := fun u n k cs E e => ?_ }
  · simp only [upd_if]
    split
    · rename_i e; subst e; exact (h.tmps u).bare
    · exact h.tmps u
  · simp only [upd_if] at e
    split at e
    · have := PV.bare_own (σ.t t); rw [e] at this; simp [PV.ownB] at this
    · exact h.own u n k cs E e

/-- A slot that is known no more. -/
theorem RelG.forget (h : RelG Φ0 W M Φ μ ω σ a w) (f : Nat → PV) (hf : ∀ t, f t = .undef ∨ f t = σ.t t ∨ f t = (σ.t t).bare ∨ (∃ k E, f t = .sl 0 k [] (some E) ∧ σ.t t = .nilsl)) : RelG Φ0 W M Φ μ ω { σ with t := f } a w := by
  refine { h with tmps := fun u => ?_, own := fun u n k cs E e => ?_ }
  · rcases hf u with e | e | e | ⟨k, E, e, e'⟩ <;> simp only [e]
    · exact .undef _
    · exact h.tmps u
    · exact (h.tmps u).bare
    · have := h.tmps u
      rw [e'] at this
      rw [this.nilsl_inv]
      exact .sl0 _ _ _ _ (by unfold maxLen; omega)
  · simp only at e
    rcases hf u with e' | e' | e' | ⟨k', E', e', e''⟩
    · rw [e'] at e; cases e
    · rw [e'] at e; exact h.own u n k cs E e
    · rw [e'] at e; have := PV.bare_own (σ.t u); rw [e] at this; simp [PV.ownB] at this
    · rw [e'] at e
      cases e
      have := h.tmps u
      rw [e''] at this
      exact .inl ⟨this.nilsl_inv, rfl⟩

end
end Go.Proofs.Ytnjopfjmepbpoaa

/- Pure states: lists of values, constants, what a step of the memory keeps. -/
namespace Go.Proofs.Ytnjopfjmepbpoaa
set_option linter.unusedSimpArgs false
set_option linter.unusedVariables false
set_option linter.unnecessarySimpa false
open Go.RowKit

def RepL (Φ : Imm) (μ : Nat → Option Nat) (cs : List PV) (vs : List Value) : Prop := vs.length = cs.length ∧ ∀ (j : Nat) c u, cs[j]? = some c → vs[j]? = some u → Rep Φ μ c u

theorem RepL.nil {Φ : Imm} {μ : Nat → Option Nat} : RepL Φ μ [] [] := ⟨rfl, fun j c u h => by simp at h⟩
theorem RepL.cons {Φ : Imm} {μ : Nat → Option Nat} {c : PV} {u : Value} {cs : List PV} {us : List Value} (h : Rep Φ μ c u) (hs : RepL Φ μ cs us) : RepL Φ μ (c :: cs) (u :: us) := by
  refine ⟨by simp [hs.1], fun j c' u' h1 h2 => ?_⟩
  cases j with
  | zero => simp at h1 h2; subst h1 h2; exact h
  | succ j => simp at h1 h2; exact hs.2 j c' u' h1 h2
theorem RepL.mono {Φ Φ' : Imm} {μ μ' : Nat → Option Nat} (hΦ : ∀ b o u, Φ b o = some u → Φ' b o = some u) (hμ : ∀ i g, μ i = some g → μ' i = some g) {cs : List PV} {us : List Value} (h : RepL Φ μ cs us) : RepL Φ' μ' cs us :=
  ⟨h.1, fun j c u h1 h2 => (h.2 j c u h1 h2).mono hΦ hμ⟩
theorem RepL.get {Φ : Imm} {μ : Nat → Option Nat} {cs : List PV} {us : List Value} (h : RepL Φ μ cs us) {j : Nat} {c : PV} (hc : cs[j]? = some c) : ∃ u, us[j]? = some u ∧ Rep Φ μ c u := by
  have hj : j < us.length := by rw [h.1]; exact (List.getElem?_eq_some_iff.1 hc).1
  exact ⟨us[j], by simp [hj], h.2 j c _ hc (by simp [hj])⟩

theorem range_map_get {n : Nat} (us : List Value) (hu : us.length = n) : ((List.range n).map (fun j => us.getD j undef)) = us := by
  apply List.ext_getElem
  · simp [hu]
  · intro i h1 h2
    simp [List.getD_eq_getElem?_getD, h2]

theorem RepL.us {Φ : Imm} {μ : Nat → Option Nat} {cs : List PV} {us : List Value} (h : RepL Φ μ cs us) : ∀ j c, cs[j]? = some c → Rep Φ μ c (us.getD j undef) := by
  intro j c hc
  obtain ⟨u, hu, hr⟩ := h.get hc
  rw [List.getD_eq_getElem?_getD, hu]; exact hr

theorem RepL.agg {Φ : Imm} {μ : Nat → Option Nat} {cs : List PV} {us : List Value} (h : RepL Φ μ cs us) : Rep Φ μ (.agg cs) (.agg us.toArray) := by
  have := Rep.agg (Φ := Φ) (μ := μ) cs (fun j => us.getD j undef) h.us
  rwa [range_map_get us h.1] at this
theorem RepL.tup {Φ : Imm} {μ : Nat → Option Nat} {cs : List PV} {us : List Value} (h : RepL Φ μ cs us) : Rep Φ μ (.tup cs) (.tuple us.toArray) := by
  have := Rep.tup (Φ := Φ) (μ := μ) cs (fun j => us.getD j undef) h.us
  rwa [range_map_get us h.1] at this
theorem RepL.fn {Φ : Imm} {μ : Nat → Option Nat} {cs : List PV} {us : List Value} (f : FuncId) (h : RepL Φ μ cs us) : Rep Φ μ (.fn f cs) (.func (.func f) #[] us.toArray) := by
  have := Rep.fn (Φ := Φ) (μ := μ) f cs (fun j => us.getD j undef) h.us
  rwa [range_map_get us h.1] at this

theorem repL_of_us {Φ : Imm} {μ : Nat → Option Nat} (cs : List PV) (us : Nat → Value) (hr : ∀ j c, cs[j]? = some c → Rep Φ μ c (us j)) : RepL Φ μ cs ((List.range cs.length).map us) := by
  refine ⟨by simp, fun j c u h1 h2 => ?_⟩
  have hj : j < cs.length := (List.getElem?_eq_some_iff.1 h1).1
  simp [hj] at h2
  subst h2; exact hr j c h1

theorem Rep.agg_inv {Φ : Imm} {μ : Nat → Option Nat} {cs : List PV} {v : Value} (h : Rep Φ μ (.agg cs) v) : ∃ us, v = .agg us.toArray ∧ RepL Φ μ cs us := by
  cases h with | agg _ us hr => exact ⟨_, rfl, repL_of_us cs us hr⟩
theorem Rep.tup_inv {Φ : Imm} {μ : Nat → Option Nat} {cs : List PV} {v : Value} (h : Rep Φ μ (.tup cs) v) : ∃ us, v = .tuple us.toArray ∧ RepL Φ μ cs us := by
  cases h with | tup _ us hr => exact ⟨_, rfl, repL_of_us cs us hr⟩
theorem Rep.fn_inv {Φ : Imm} {μ : Nat → Option Nat} {f : FuncId} {cs : List PV} {v : Value} (h : Rep Φ μ (.fn f cs) v) : ∃ us, v = .func (.func f) #[] us.toArray ∧ RepL Φ μ cs us := by
  cases h with | fn _ _ us hr => exact ⟨_, rfl, repL_of_us cs us hr⟩
theorem Rep.val_inv {Φ : Imm} {μ : Nat → Option Nat} {u v : Value} (h : Rep Φ μ (.val u) v) : v = u ∧ plainV u = true := by
  cases h with | val _ h => exact ⟨rfl, h⟩
theorem Rep.ptr_inv {Φ : Imm} {μ : Nat → Option Nat} {id off : Nat} {v : Value} (h : Rep Φ μ (.ptr id off) v) : ∃ g, μ id = some g ∧ v = .pointer (some ⟨g, off, none⟩) := by
  cases h with | ptr _ _ g h => exact ⟨g, h, rfl⟩
theorem Rep.ep_inv {Φ : Imm} {μ : Nat → Option Nat} {cs : List PV} {off : Nat} {v : Value} (h : Rep Φ μ (.ep cs off) v) : ∃ b o, ∃ us : Nat → Value, v = .pointer (some ⟨b, o + off, none⟩) ∧ (∀ j, j < cs.length → Φ b (o + j) = some (us j)) ∧ ∀ j c, cs[j]? = some c → Rep Φ μ c (us j) := by
  cases h with | ep _ _ b o us hp hr => exact ⟨b, o, us, rfl, hp, hr⟩
/-- A slice: its form, its cells. -/
theorem Rep.sl_inv {Φ : Imm} {μ : Nat → Option Nat} {n k : Nat} {cs : List PV} {own : Option TypeId} {v : Value} (h : Rep Φ μ (.sl n k cs own) v) : ∃ a b off cap, ∃ us : Nat → Value, v = .slice a n cap ∧ n ≤ cap ∧ cap ≤ maxLen ∧ cs.length = n * k ∧ (0 < n → a = some ⟨b, off, none⟩) ∧
    (∀ j, j < cs.length → Φ b (off + j) = some (us j)) ∧ ∀ j c, cs[j]? = some c → Rep Φ μ c (us j) := by
  cases h with
  | sl0 _ _ a cap h => exact ⟨a, 0, 0, cap, fun _ => Go.undef, rfl, Nat.zero_le _, h, by simp, fun h => by omega, fun j hj => by simp at hj, fun j c hj => by simp at hj⟩
  | sl _ _ _ _ b off cap us h1 h2 h3 hp hr => exact ⟨_, b, off, cap, us, rfl, h2, h3, h1, fun _ => rfl, hp, hr⟩

/-- A pure value that lies in one cell. -/
def PV.one : PV → Bool
  | .val _ | .nilsl | .sl .. | .ptr .. | .ep .. | .fn .. => true
  | _ => false

theorem Rep.one {Φ : Imm} {μ : Nat → Option Nat} {p : PV} {v : Value} (h : Rep Φ μ p v) (ho : p.one = true) : v.oneCell' = true ∧ v.cells = #[v] := by
  cases h with
  | val v h => exact plainV_one h
  | undef => simp [PV.one] at ho
  | agg => simp [PV.one] at ho
  | tup => simp [PV.one] at ho
  | _ => exact ⟨rfl, rfl⟩

/-- A constant as a pure value. -/
def pv0 : Value → PV
  | .slice none 0 0 => .nilsl
  | v => if plainV v then .val v else .undef
def pvC : Value → PV
  | .agg cs => .agg (cs.toList.map pv0)
  | v => pv0 v

theorem rep_pv0 {Φ : Imm} {μ : Nat → Option Nat} (v : Value) : Rep Φ μ (pv0 v) v := by
  unfold pv0
  split
  · exact .nilsl
  · split
    · exact .val _ ‹_›
    · exact .undef _
theorem repL_pv0 {Φ : Imm} {μ : Nat → Option Nat} (vs : List Value) : RepL Φ μ (vs.map pv0) vs := by
  refine ⟨by simp, fun j c u h1 h2 => ?_⟩
  rw [List.getElem?_map, h2] at h1
  simp at h1
  subst h1; exact rep_pv0 u
theorem rep_pvC {Φ : Imm} {μ : Nat → Option Nat} (v : Value) : Rep Φ μ (pvC v) v := by
  unfold pvC
  split
  · rename_i cs
    exact (repL_pv0 cs.toList).agg
  · exact rep_pv0 _
theorem pv0_own (v : Value) : (pv0 v).ownB = false := by
  unfold pv0
  split
  · rfl
  · split <;> rfl
theorem pvC_own (v : Value) : (pvC v).ownB = false := by
  unfold pvC
  split
  · rfl
  · exact pv0_own _

section
variable {Φ0 : Imm} {W : World} {M : Nat} {Φ : Imm} {μ : Nat → Option Nat} {ω : Nat → Option Who} {σ : PS} {a : Act} {w : World}

/-- A step of the memory that leaves alone what the call writes to. -/
theorem RelG.grow (h : RelG Φ0 W M Φ μ ω σ a w) {Φ' : Imm} {w' : World} (hb : Below W.heap.size W w') (himm : ∀ b o u, Φ' b o = some u → w'.cell? ⟨b, o, none⟩ = some u) (hold : ∀ b o, b < W.heap.size → Φ' b o = Φ b o) (hsub : ∀ b o u, Φ b o = some u → Φ' b o = some u)
    (hkeep : ∀ g p, ω g = some p → w'.heap[g]? = w.heap[g]? ∧ ∀ j, Φ' g j = Φ g j) (hsz : w.heap.size ≤ w'.heap.size) : RelG Φ0 W M Φ' μ ω σ a w' := by
  have hown : ∀ p n k E v, OwnAt W.heap.size Φ ω w p n k E v → OwnAt W.heap.size Φ' ω w' p n k E v := by
    intro p n k E v ho
    rcases ho with ho | ⟨g, cap, cur, h1, h2, h3, h4, h5, h6, h7, h8⟩
    · exact .inl ho
    · obtain ⟨k1, k2⟩ := hkeep g _ h7
      exact .inr ⟨g, cap, cur, h1, h2, by rw [k1]; exact h3, h4, h5, h6, h7, fun j hj => by rw [k2]; exact h8 j hj⟩
  refine ⟨hb, h.defers, h.size, himm, fun b o hbo => (hold b o hbo).trans (h.old b o hbo), fun t => (h.tmps t).mono hsub (fun _ _ e => e), fun t n k cs E e => hown _ _ _ _ _ (h.own t n k cs E e), fun id bs e => ?_, h.gone, fun g p e => Nat.lt_of_lt_of_le (h.lt g p e) hsz⟩
  obtain ⟨g, cur, T, h1, h2, h3, h4, h5, h6, h7⟩ := h.box id bs e
  obtain ⟨k1, k2⟩ := hkeep g _ h4
  refine ⟨g, cur, T, h1, by rw [k1]; exact h2, h3, h4, fun j => by rw [k2]; exact h5 j, h6, fun j c hc => ?_⟩
  obtain ⟨u, r1, r2, r3, r4⟩ := h7 j c hc
  exact ⟨u, r1, r2, r3.mono hsub (fun _ _ e => e), fun n k cs E e => hown _ _ _ _ _ (r4 n k cs E e)⟩

theorem RelG.drew (h : RelG Φ0 W M Φ μ ω σ a w) : RelG Φ0 W M Φ μ ω σ a w.drew :=
  h.grow h.below.drew h.imm (fun _ _ _ => rfl) (fun _ _ _ e => e) (fun _ _ _ => ⟨rfl, fun _ => rfl⟩) (Nat.le_refl _)

/-- The memory with a new row. -/
def immRow (Φ : Imm) (g : Nat) (cur : Array Value) : Imm := fun b o => if b = g then cur[o]? else Φ b o

theorem RelG.fresh (h : RelG Φ0 W M Φ μ ω σ a w) {b o : Nat} {u : Value} (e : Φ b o = some u) : b < w.heap.size := World.block_lt_of_cell? _ _ (h.imm b o u e)

theorem cell_alloc_new (w : World) (cur : Array Value) (T : TypeId) (o : Nat) : (w.alloc (.cells cur T)).cell? ⟨w.heap.size, o, none⟩ = cur[o]? := by
  have := heap_alloc_new w (.cells cur T)
  simp only [World.cell?, this]; simp
theorem cell_alloc_old (w : World) (ob : Obj) (b o : Nat) (h : b < w.heap.size) : (w.alloc ob).cell? ⟨b, o, none⟩ = w.cell? ⟨b, o, none⟩ := by
  simp only [World.cell?]; rw [Below.heap_alloc w ob b h]

theorem RelG.row (h : RelG Φ0 W M Φ μ ω σ a w) (cur : Array Value) (T : TypeId) : RelG Φ0 W M (immRow Φ w.heap.size cur) μ ω σ a (w.alloc (.cells cur T)) := by
  have hW := h.below.size
  refine h.grow (h.below.alloc hW _) ?_ ?_ ?_ ?_ (by simp)
  · intro b o u e
    unfold immRow at e
    split at e
    · subst b; rw [cell_alloc_new]; exact e
    · have := h.imm b o u e
      rw [cell_alloc_old _ _ _ _ (h.fresh e)]; exact this
  · intro b o hb; unfold immRow; rw [if_neg (by omega)]
  · intro b o u e; unfold immRow; rw [if_neg (by have := h.fresh e; omega)]; exact e
  · intro g p e
    have := h.lt g p e
    exact ⟨Below.heap_alloc _ _ _ this, fun j => by unfold immRow; rw [if_neg (by omega)]⟩

/-- A new variable. -/
theorem RelG.newBox (h : RelG Φ0 W M Φ μ ω σ a w) {id : Nat} (hid : σ.b id = none) {bs : List PV} {us : List Value} (hr : RepL Φ μ bs us) (hone : ∀ u ∈ us, u.oneCell' = true) (hno : ∀ c ∈ bs, c.ownB = false) (T : TypeId) :
    RelG Φ0 W M Φ (upd μ id (some w.heap.size)) (upd ω w.heap.size (some (.box id))) { σ with b := upd σ.b id (some bs) } a (w.alloc (.cells us.toArray T)) := by
  have hW := h.below.size
  have hμ : ∀ i g, μ i = some g → upd μ id (some w.heap.size) i = some g := by
    intro i g e
    simp only [upd_if]
    rw [if_neg (by rintro rfl; rw [h.gone _ hid] at e; cases e)]; exact e
  have hω : ∀ g p, ω g = some p → upd ω w.heap.size (some (.box id)) g = some p := by
    intro g p e
    simp only [upd_if]; rw [if_neg (by have := h.lt g p e; omega)]; exact e
  have hown : ∀ p n k E v, OwnAt W.heap.size Φ ω w p n k E v → OwnAt W.heap.size Φ (upd ω w.heap.size (some (.box id))) (w.alloc (.cells us.toArray T)) p n k E v := by
    intro p n k E v ho
    rcases ho with ho | ⟨g, cap, cur, h1, h2, h3, h4, h5, h6, h7, h8⟩
    · exact .inl ho
    · exact .inr ⟨g, cap, cur, h1, h2, by rw [Below.heap_alloc _ _ _ (h.lt g _ h7)]; exact h3, h4, h5, h6, hω _ _ h7, h8⟩
  refine ⟨h.below.alloc hW _, h.defers, h.size, ?_, h.old, fun t => (h.tmps t).mono (fun _ _ _ e => e) hμ, fun t n k cs E e => hown _ _ _ _ _ (h.own t n k cs E e), ?_, ?_, ?_⟩
  · intro b o u e
    rw [cell_alloc_old _ _ _ _ (h.fresh e)]; exact h.imm b o u e
  · intro i bs' e
    by_cases hi : i = id
    · subst hi
      simp only [upd_if, if_true] at e
      cases e
      refine ⟨w.heap.size, us.toArray, T, by simp [upd_if], heap_alloc_new w _, hW, by simp [upd_if], ?_, by simpa using hr.1, ?_⟩
      · intro j
        cases hj : Φ w.heap.size j with
        | none => rfl
        | some u => have := h.fresh hj; omega
      · intro j c hc
        obtain ⟨u, hu, hru⟩ := hr.get hc
        refine ⟨u, by simpa using hu, hone u (mem_of_get hu), hru.mono (fun _ _ _ e => e) hμ, fun n k cs E e => ?_⟩
        have := hno c (mem_of_get hc)
        rw [e] at this; simp [PV.ownB] at this
    · simp only [upd_if, if_neg hi] at e
      obtain ⟨g, cur, T', h1, h2, h3, h4, h5, h6, h7⟩ := h.box i bs' e
      refine ⟨g, cur, T', hμ _ _ h1, by rw [Below.heap_alloc _ _ _ (h.lt g _ h4)]; exact h2, h3, hω _ _ h4, h5, h6, fun j c hc => ?_⟩
      obtain ⟨u, r1, r2, r3, r4⟩ := h7 j c hc
      exact ⟨u, r1, r2, r3.mono (fun _ _ _ e => e) hμ, fun n k cs E e => hown _ _ _ _ _ (r4 n k cs E e)⟩
  · intro i e
    by_cases hi : i = id
    · subst hi; simp [upd_if] at e
    · simp only [upd_if, if_neg hi] at e ⊢; exact h.gone i e
  · intro g p e
    simp only [upd_if] at e
    split at e
    · subst g; simp
    · have := h.lt g p e; simp; omega
end
end Go.Proofs.Ytnjopfjmepbpoaa

/- Pure states: the table of types, what an operation that writes nothing yields. -/
namespace Go.Proofs.Ytnjopfjmepbpoaa
set_option linter.unusedSimpArgs false
set_option linter.unusedVariables false
set_option linter.unnecessarySimpa false
open Go.RowKit

/-- What a type is, as far as it matters. -/
inductive TD where
  | int (k : IntKind) | bool | str
  | slice (e : TypeId) (k by_ : Nat) (zero : List PV)
  | struct (fs : List (Nat × Nat × Bool))
  | arr (n : Nat) (e : TypeId) (k : Nat) (agg : Bool)
  | other

/-- What a cell is that is compared by itself. -/
inductive SK where
  | int | bool | str
  deriving DecidableEq

structure TyI where
  size : Nat
  agg : Bool
  kind : TD
  zero : List PV
  eqs : List SK

def aggD : TypeDesc → Bool
  | .struct _ | .array _ _ => true
  | _ => false

def tdOf (P : Program) : TypeDesc → TD
  | .int k => .int k
  | .bool => .bool
  | .string => .str
  | .slice e => match P.info? e with
    | some i => match i.zero with
      | some z => if z.cells.size = i.size ∧ 0 < i.size ∧ z.cells.all (·.oneCell') then .slice e i.size i.bytes (z.cells.toList.map pv0) else .other
      | none => .other
    | none => .other
  | .struct fs => match fs.toList.mapM (m := Option) (fun f => match P.info? f.type, P.underlying f.type with | some i, some d => some (f.offset, i.size, aggD d) | _, _ => none) with
    | some l => .struct l
    | none => .other
  | .array n e => match P.info? e, P.underlying e with
    | some i, some d => .arr n e i.size (aggD d)
    | _, _ => .other
  | _ => .other

def skOf (P : Program) (t : TypeId) : Option SK := match P.underlying t, P.info? t with
  | some (.int _), some i => if i.size = 1 then some .int else none
  | some .bool, some i => if i.size = 1 then some .bool else none
  | some .string, some i => if i.size = 1 then some .str else none
  | _, _ => none
def eqsOf (P : Program) (t : TypeId) : List SK := match P.underlying t with
  | some (.struct fs) => if P.stoodInHeld t = false ∧ P.eqGuardType P.depth t = false then ((fs.toList.zipIdx).mapM (m := Option) fun x => if x.1.name ≠ "_" ∧ x.1.offset = x.2 then skOf P x.1.type else none).getD [] else []
  | some (.array n e) => if P.eqGuardType P.depth t = false then (match skOf P e with | some k => List.replicate n k | none => []) else []
  | _ => []

def tyI (P : Program) (t : TypeId) : Option TyI :=
  match P.info? t, P.underlying t with
  | some i, some d => match i.zero with
    | some z => if z.cells.size = i.size ∧ z.cells.all (·.oneCell') then some ⟨i.size, aggD d, tdOf P d, z.cells.toList.map pv0, eqsOf P t⟩ else none
    | none => none
  | _, _ => none

def tabOf (P : Program) : List (Option TyI) := (List.range P.types.size).map (tyI P)

theorem tyTab_get {P : Program} {T : List (Option TyI)} (hT : T = tabOf P) {t : TypeId} {x : TyI} (h : T[t]? = some (some x)) : tyI P t = some x := by
  subst hT
  rw [tabOf, List.getElem?_map] at h
  by_cases ht : t < P.types.size
  · simpa [ht] using h
  · simp [ht] at h

theorem tyI_parts {P : Program} {t : TypeId} {x : TyI} (h : tyI P t = some x) : ∃ i d z, P.info? t = some i ∧ P.underlying t = some d ∧ i.zero = some z ∧ z.cells.size = i.size ∧ (∀ c ∈ z.cells.toList, c.oneCell' = true) ∧ x = ⟨i.size, aggD d, tdOf P d, z.cells.toList.map pv0, eqsOf P t⟩ := by
  unfold tyI at h
  split at h
  · rename_i i d h1 h2
    split at h
    · rename_i z h3
      split at h
      · rename_i h4
        refine ⟨i, d, z, h1, h2, h3, h4.1, ?_, by simpa using h.symm⟩
        intro c hc
        have := Array.all_eq_true_iff_forall_mem.1 h4.2 c (by simpa using hc)
        exact this
      · cases h
    · cases h
  · cases h

theorem run_isAgg {P : Program} {t : TypeId} {d : TypeDesc} (h : P.underlying t = some d) (w : World) : (isAgg t).run P w = .ok (aggD d) w := by
  unfold isAgg
  simp only [Sem.run_bind, run_underlying h, Result.andThen_ok]
  cases d <;> simp [aggD]

theorem run_size {P : Program} {t : TypeId} {i : TypeInfo} (h : P.info? t = some i) (w : World) : (sizeOf t).run P w = .ok i.size w := by
  simp [sizeOf, typeInfo, h]

def pev (σ : PS) : Operand → PV
  | .tmp t => (σ.t t).bare
  | .const v => pvC v
  | .func f => .fn f []
  | .global _ => .undef

section
variable {Φ0 : Imm} {W : World} {M : Nat} {Φ : Imm} {μ : Nat → Option Nat} {ω : Nat → Option Who} {σ : PS} {a : Act} {w : World}
theorem RelG.ev (h : RelG Φ0 W M Φ μ ω σ a w) (x : Operand) : Rep Φ μ (pev σ x) (a.eval x) := by
  cases x with
  | tmp t => exact (h.tmps t).bare
  | const v => exact rep_pvC v
  | func f => exact RepL.nil.fn f
  | global g => exact .undef _
theorem pev_own (σ : PS) (x : Operand) : (pev σ x).ownB = false := by
  cases x with
  | tmp t => exact PV.bare_own _
  | const v => exact pvC_own v
  | func f => rfl
  | global g => rfl
end

/-- Cells as one value. -/
def asVal (agg : Bool) (k : Nat) (cs : List PV) (off : Nat) : Option PV :=
  if agg then (if off + k ≤ cs.length then some (.agg (((cs.drop off).take k).map PV.bare)) else none) else (cs[off]?).map PV.bare

def ploadAt (x : TyI) (b : Nat → Option (List PV)) : PV → Option PV
  | .ptr id off => match b id with
    | some bs => asVal x.agg x.size bs off
    | none => none
  | .ep cs off => asVal x.agg x.size cs off
  | _ => none

section
variable {Φ0 : Imm} {W : World} {M : Nat} {Φ : Imm} {μ : Nat → Option Nat} {ω : Nat → Option Who} {σ : PS} {a : Act} {w : World} {P : Program}

theorem load_cells {cs : List PV} {off b o : Nat} {us : Nat → Value} {t : TypeId} {x : TyI} {p : PV} (ht : tyI P t = some x) (hc : ∀ j, j < cs.length → w.cell? ⟨b, o + j, none⟩ = some (us j)) (hr : ∀ j c, cs[j]? = some c → Rep Φ μ c (us j)) (hp : asVal x.agg x.size cs off = some p) :
    ∃ v, (loadVar t ⟨b, o + off, none⟩).run P w = .ok v w ∧ Rep Φ μ p v ∧ p.ownB = false := by
  obtain ⟨i, d, z, h1, h2, h3, h4, -, rfl⟩ := tyI_parts ht
  simp only [asVal] at hp
  unfold loadVar
  simp only [Sem.run_bind, run_isAgg h2, Result.andThen_ok]
  split at hp
  · rename_i hagg
    split at hp
    · rename_i hle
      cases hp
      simp only [hagg, if_true, Sem.run_bind, run_size h1, Result.andThen_ok]
      have hlen : ((List.range i.size).map (fun j => us (off + j))).length = i.size := by simp
      have := (run_loadCells_list (P := P) (w := w) ⟨b, o + off, none⟩ ((List.range i.size).map (fun j => us (off + j))) (by
        intro j v hj
        simp only [List.getElem?_map] at hj
        obtain ⟨j', hj', rfl⟩ := Option.map_eq_some_iff.1 hj
        have hlt : j < i.size := by
          have := (List.getElem?_eq_some_iff.1 hj').1
          simpa using this
        simp [hlt] at hj'
        subst hj'
        rw [Addr.add_lit, Nat.add_assoc]
        exact hc (off + j) (by omega)))
      rw [hlen] at this
      rw [this]
      refine ⟨_, rfl, ?_, rfl⟩
      have : RepL Φ μ (((cs.drop off).take i.size).map PV.bare) ((List.range i.size).map (fun j => us (off + j))) := by
        refine ⟨by simp; omega, fun j c u hj hu => ?_⟩
        simp only [List.getElem?_map] at hj hu
        obtain ⟨c', hc', rfl⟩ := Option.map_eq_some_iff.1 hj
        obtain ⟨j', hj', rfl⟩ := Option.map_eq_some_iff.1 hu
        have hlt : j < i.size := by
          have := (List.getElem?_eq_some_iff.1 hj').1
          simpa using this
        simp [hlt] at hj'
        subst hj'
        rw [List.getElem?_take, if_pos hlt, List.getElem?_drop] at hc'
        exact (hr _ _ hc').bare
      exact this.agg
    · cases hp
  · rename_i hagg
    obtain ⟨c, hc', rfl⟩ := Option.map_eq_some_iff.1 hp
    have hagg' : aggD d = false := by simpa using hagg
    simp only [hagg', Bool.false_eq_true, if_false]
    have hlt := (List.getElem?_eq_some_iff.1 hc').1
    refine ⟨us off, ?_, (hr off c hc').bare, PV.bare_own _⟩
    simp [hc off hlt]

theorem RelG.load (h : RelG Φ0 W M Φ μ ω σ a w) {t : TypeId} {x : TyI} (ht : tyI P t = some x) {q p : PV} {v : Value} (hv : Rep Φ μ q v) (hp : ploadAt x σ.b q = some p) : ∃ u, (Instr.loadAt t v).run P w = .ok u w ∧ Rep Φ μ p u ∧ p.ownB = false := by
  cases q with
  | ptr id off =>
    obtain ⟨g, hg, rfl⟩ := hv.ptr_inv
    simp only [ploadAt] at hp
    split at hp
    · rename_i bs hbs
      obtain ⟨g', cur, T, k1, k2, k3, k4, k5, k6, k7⟩ := h.box id bs hbs
      rw [hg] at k1; cases k1
      have := load_cells (P := P) (w := w) (Φ := Φ) (μ := μ) (cs := bs) (off := off) (b := g) (o := 0) (us := fun j => cur.getD j undef) ht (by
        intro j hj
        have : w.cell? ⟨g, 0 + j, none⟩ = cur[j]? := by simp [World.cell?, k2]
        rw [this, Array.getElem?_eq_getElem (by omega)]
        simp [Array.getD, k6, hj]) (by
        intro j c hc
        obtain ⟨u, r1, r2, r3, -⟩ := k7 j c hc
        have : cur.getD j undef = u := by simp [Array.getD_eq_getD_getElem?, r1]
        rw [this]; exact r3) hp
      obtain ⟨u, r1, r2, r3⟩ := this
      refine ⟨u, ?_, r2, r3⟩
      simpa [Instr.loadAt, Instr.sureAddr] using r1
    · cases hp
  | ep cs off =>
    obtain ⟨b, o, us, rfl, h1, h2⟩ := hv.ep_inv
    obtain ⟨u, r1, r2, r3⟩ := load_cells (P := P) (w := w) (off := off) ht (fun j hj => h.imm _ _ _ (h1 j hj)) h2 hp
    refine ⟨u, ?_, r2, r3⟩
    simpa [Instr.loadAt, Instr.sureAddr] using r1
  | _ => simp [ploadAt] at hp
end
end Go.Proofs.Ytnjopfjmepbpoaa

/- Pure states: what the operations that write nothing yield. -/
namespace Go.Proofs.Ytnjopfjmepbpoaa
set_option linter.unusedSimpArgs false
set_option linter.unusedVariables false
set_option linter.unnecessarySimpa false
open Go.RowKit

def pbin (op : BinOp) : Value → Value → Option Value
  | .int k x, .int k' y =>
    match op with
    | .shl => if 0 ≤ y then some (.int k (k.wrap (x * 2 ^ (min y.toNat k.bits)))) else none
    | .shr => if 0 ≤ y then some (.int k (x.fdiv (2 ^ (min y.toNat k.bits)))) else none
    | .add => if k = k' then some (.int k (k.wrap (x + y))) else none
    | .sub => if k = k' then some (.int k (k.wrap (x - y))) else none
    | .mul => if k = k' then some (.int k (k.wrap (x * y))) else none
    | .quo => if k = k' ∧ y ≠ 0 then some (.int k (k.wrap (x.tdiv y))) else none
    | .rem => if k = k' ∧ y ≠ 0 then some (.int k (x.tmod y)) else none
    | .and => if k = k' then some (.int k (k.wrap (BitVec.ofInt k.bits x &&& BitVec.ofInt k.bits y).toNat)) else none
    | .or => if k = k' then some (.int k (k.wrap (BitVec.ofInt k.bits x ||| BitVec.ofInt k.bits y).toNat)) else none
    | .xor => if k = k' then some (.int k (k.wrap (BitVec.ofInt k.bits x ^^^ BitVec.ofInt k.bits y).toNat)) else none
    | .eql => if k = k' then some (.bool (x == y)) else none
    | .neq => if k = k' then some (.bool (x != y)) else none
    | .lss => if k = k' then some (.bool (decide (x < y))) else none
    | .leq => if k = k' then some (.bool (decide (x ≤ y))) else none
    | .gtr => if k = k' then some (.bool (decide (x > y))) else none
    | .geq => if k = k' then some (.bool (decide (x ≥ y))) else none
    | _ => none
  | .string x, .string y =>
    match op with
    | .eql => some (.bool (x.toList == y.toList))
    | .neq => some (.bool !(x.toList == y.toList))
    | .lss => some (.bool (Op.bytesLess x.toList y.toList))
    | .leq => some (.bool (Op.bytesLess x.toList y.toList || x.toList == y.toList))
    | .gtr => some (.bool !(Op.bytesLess x.toList y.toList || x.toList == y.toList))
    | .geq => some (.bool !(Op.bytesLess x.toList y.toList))
    | _ => none
  | _, _ => none

theorem pbin_sound {P : Program} {w : World} {op : BinOp} {t : TypeId} {x y : Operand} {u v r : Value} (h : pbin op u v = some r) : (do eqGuard op t x y u v; binOp op t u v : Sem Value).run P w = .ok r w ∧ plainV r = true := by
  unfold pbin at h
  split at h
  · rename_i k a k' b
    have hg : (eqGuard op t x y (.int k a) (.int k' b)).run P w = .ok () w := by
      unfold eqGuard; split <;> simp
    rw [Sem.run_bind, hg, Result.andThen_ok]
    cases op <;> simp only [] at h <;> first
      | (cases h; done)
      | (split at h
         · rename_i hk
           cases h
           refine ⟨?_, rfl⟩
           first
             | (obtain ⟨rfl, hy⟩ := hk; simp [binOp, Op.intDiv, hy]; done)
             | (subst hk; simp [binOp, Op.intArith, Op.intBits, Op.intCmp]; done)
             | (simp [binOp, Op.shift, Int.not_lt.2 hk]; done)
         · cases h)
  · rename_i a b
    have hg : (eqGuard op t x y (.string a) (.string b)).run P w = .ok () w := by
      unfold eqGuard; split <;> simp
    rw [Sem.run_bind, hg, Result.andThen_ok]
    cases op <;> simp only [] at h <;> first
      | (cases h; done)
      | (cases h; exact ⟨by simp [binOp, Op.stringOp], rfl⟩)
  · cases h

/-- Booleans are compared by the type's table. -/
def pbinB (op : BinOp) : TD → Value → Value → Option Value
  | .bool, .bool a, .bool b => match op with
    | .eql => some (.bool (a == b))
    | .neq => some (.bool (a != b))
    | _ => none
  | _, _, _ => none

theorem pbinB_sound {P : Program} {w : World} {op : BinOp} {t : TypeId} {x y : Operand} {u v r : Value} {ti : TyI} (ht : tyI P t = some ti) (h : pbinB op ti.kind u v = some r) : (do eqGuard op t x y u v; binOp op t u v : Sem Value).run P w = .ok r w ∧ plainV r = true := by
  obtain ⟨i, d, z, h1, h2, h3, h4, -, rfl⟩ := tyI_parts ht
  simp only at h
  unfold pbinB at h
  split at h
  · rename_i a b hd
    have hd' : d = .bool := by
      cases d with
      | bool => rfl
      | slice e => simp only [tdOf] at hd; split at hd <;> (try split at hd) <;> (try split at hd) <;> cases hd
      | struct fs => simp only [tdOf] at hd; split at hd <;> cases hd
      | array n e => simp only [tdOf] at hd; split at hd <;> cases hd
      | _ => cases hd
    subst hd'
    have hg : (eqGuard op t x y (.bool a) (.bool b)).run P w = .ok () w := by
      unfold eqGuard; split <;> simp
    rw [Sem.run_bind, hg, Result.andThen_ok]
    have he : (Op.equal t (.bool a) (.bool b)).run P w = .ok (a == b) w := by
      unfold Op.equal
      rw [show Op.maxDepth = 9999 + 1 from rfl, Op.equalIn]
      simp only [Sem.run_bind, run_underlying h2, Result.andThen_ok]
      simp
    cases op <;> simp only [] at h <;> first
      | (cases h; done)
      | (cases h; exact ⟨by simp only [binOp, Sem.run_bind, he, Result.andThen_ok]; simp [bne], rfl⟩)
  · cases h

def pun (op : UnOp) : Value → Option Value
  | .bool b => match op with
    | .not => some (.bool !b)
    | _ => none
  | .int k n => match op with
    | .neg => some (.int k (k.wrap (0 - n)))
    | _ => none
  | _ => none

theorem pun_sound {P : Program} {w : World} {op : UnOp} {u r : Value} (h : pun op u = some r) : (Op.unary op u).run P w = .ok r w ∧ plainV r = true := by
  unfold pun at h
  split at h
  · cases op <;> simp only [] at h <;> first | (cases h; done) | (cases h; exact ⟨by simp [Op.unary], rfl⟩)
  · cases op <;> simp only [] at h <;> first | (cases h; done) | (cases h; exact ⟨by simp [Op.unary, Op.intArith], rfl⟩)
  · cases h

/-- The address of a field. -/
def pfield (l : List (Nat × Nat × Bool)) (f : Nat) : PV → Option PV
  | .ptr id o => match l[f]? with
    | some (off, size, _) => if size ≠ 0 then some (.ptr id (o + off)) else none
    | none => none
  | .ep cs o => match l[f]? with
    | some (off, size, _) => if size ≠ 0 then some (.ep cs (o + off)) else none
    | none => none
  | _ => none

theorem mapM_get {α β : Type} (g : α → Option β) : ∀ (l : List α) (r : List β), l.mapM g = some r → ∀ (j : Nat) b, r[j]? = some b → ∃ x, l[j]? = some x ∧ g x = some b
  | [], r, h, j, b, hj => by simp at h; subst h; simp at hj
  | x :: l, r, h, j, b, hj => by
    rw [List.mapM_cons] at h
    cases hx : g x with
    | none => rw [hx] at h; simp at h
    | some y =>
      rw [hx] at h
      cases hl : l.mapM g with
      | none => rw [hl] at h; simp at h
      | some r' =>
        rw [hl] at h
        simp at h
        subst h
        cases j with
        | zero => simp at hj; subst hj; exact ⟨x, rfl, hx⟩
        | succ j => simp at hj; simpa using mapM_get g l r' hl j b hj

theorem mapM_len {α β : Type} (g : α → Option β) : ∀ (l : List α) (r : List β), l.mapM g = some r → r.length = l.length
  | [], r, h => by simp at h; subst h; rfl
  | x :: l, r, h => by
    rw [List.mapM_cons] at h
    cases hx : g x with
    | none => rw [hx] at h; simp at h
    | some y =>
      rw [hx] at h
      cases hl : l.mapM g with
      | none => rw [hl] at h; simp at h
      | some r' =>
        rw [hl] at h
        simp at h
        subst h
        simp [mapM_len g l r' hl]

theorem struct_get {P : Program} {t : TypeId} {ti : TyI} (ht : tyI P t = some ti) {l : List (Nat × Nat × Bool)} (hk : ti.kind = .struct l) : ∃ fs, P.underlying t = some (.struct fs) ∧ l.length = fs.size ∧
    ∀ (f off size : Nat) (agg : Bool), l[f]? = some (off, size, agg) → ∃ (fd : Field) (i : TypeInfo) (d : TypeDesc), fs[f]? = some fd ∧ fd.offset = off ∧ P.info? fd.type = some i ∧ i.size = size ∧ P.underlying fd.type = some d ∧ aggD d = agg := by
  obtain ⟨i, d, z, h1, h2, h3, h4, -, rfl⟩ := tyI_parts ht
  simp only at hk
  have : ∃ fs, d = .struct fs := by
    cases d with
    | struct fs => exact ⟨fs, rfl⟩
    | slice e => simp only [tdOf] at hk; split at hk <;> (try split at hk) <;> (try split at hk) <;> cases hk
    | array n e => simp only [tdOf] at hk; split at hk <;> cases hk
    | _ => cases hk
  obtain ⟨fs, rfl⟩ := this
  simp only [tdOf] at hk
  split at hk
  · rename_i l' hm
    cases hk
    refine ⟨fs, h2, by simpa using mapM_len _ _ _ hm, fun f off size agg hl => ?_⟩
    obtain ⟨fd, hf, hg⟩ := mapM_get _ _ _ hm f _ hl
    split at hg
    · rename_i i' d' e1 e2
      simp only [Option.some.injEq, Prod.mk.injEq] at hg
      exact ⟨fd, i', d', by simpa using hf, hg.1, e1, hg.2.1, e2, hg.2.2⟩
    · cases hg
  · cases hk

theorem slice_get {P : Program} {t : TypeId} {ti : TyI} (ht : tyI P t = some ti) {e k by_ : Nat} {zr : List PV} (hk : ti.kind = .slice e k by_ zr) : P.underlying t = some (.slice e) ∧
    ∃ (i : TypeInfo) (z : Value), P.info? e = some i ∧ i.zero = some z ∧ i.size = k ∧ i.bytes = by_ ∧ z.cells.size = k ∧ 0 < k ∧ (∀ c ∈ z.cells.toList, c.oneCell' = true) ∧ zr = z.cells.toList.map pv0 := by
  obtain ⟨i, d, z, h1, h2, h3, h4, -, rfl⟩ := tyI_parts ht
  simp only at hk
  have : ∃ e, d = .slice e := by
    cases d with
    | slice e => exact ⟨e, rfl⟩
    | struct fs => simp only [tdOf] at hk; split at hk <;> cases hk
    | array n e => simp only [tdOf] at hk; split at hk <;> cases hk
    | _ => cases hk
  obtain ⟨e', rfl⟩ := this
  simp only [tdOf] at hk
  split at hk
  · rename_i i' hi
    split at hk
    · rename_i z' hz
      split at hk
      · rename_i hc
        cases hk
        refine ⟨h2, i', z', hi, hz, rfl, rfl, hc.1, hc.2.1, ?_, rfl⟩
        intro c hcm
        exact Array.all_eq_true_iff_forall_mem.1 hc.2.2 c (by simpa using hcm)
      · cases hk
    · cases hk
  · cases hk

theorem arr_get {P : Program} {t : TypeId} {ti : TyI} (ht : tyI P t = some ti) {n e k : Nat} {ag : Bool} (hk : ti.kind = .arr n e k ag) : P.underlying t = some (.array n e) ∧ ∃ (i : TypeInfo) (d : TypeDesc), P.info? e = some i ∧ i.size = k ∧ P.underlying e = some d ∧ aggD d = ag := by
  obtain ⟨i, d, z, h1, h2, h3, h4, -, rfl⟩ := tyI_parts ht
  simp only at hk
  have : ∃ n e, d = .array n e := by
    cases d with
    | array n e => exact ⟨n, e, rfl⟩
    | struct fs => simp only [tdOf] at hk; split at hk <;> cases hk
    | slice e => simp only [tdOf] at hk; split at hk <;> (try split at hk) <;> (try split at hk) <;> cases hk
    | _ => cases hk
  obtain ⟨n', e', rfl⟩ := this
  simp only [tdOf] at hk
  split at hk
  · rename_i i' d' hi hd
    cases hk
    exact ⟨h2, i', d', hi, rfl, hd, rfl⟩
  · cases hk

theorem kind_int {P : Program} {t : TypeId} {ti : TyI} (ht : tyI P t = some ti) {k : IntKind} (hk : ti.kind = .int k) : P.underlying t = some (.int k) := by
  obtain ⟨i, d, z, h1, h2, h3, h4, -, rfl⟩ := tyI_parts ht
  simp only at hk
  cases d with
  | int k' => cases hk; exact h2
  | struct fs => simp only [tdOf] at hk; split at hk <;> cases hk
  | slice e => simp only [tdOf] at hk; split at hk <;> (try split at hk) <;> (try split at hk) <;> cases hk
  | array n e => simp only [tdOf] at hk; split at hk <;> cases hk
  | _ => cases hk
theorem kind_str {P : Program} {t : TypeId} {ti : TyI} (ht : tyI P t = some ti) (hk : ti.kind = .str) : P.underlying t = some .string := by
  obtain ⟨i, d, z, h1, h2, h3, h4, -, rfl⟩ := tyI_parts ht
  simp only at hk
  cases d with
  | string => exact h2
  | struct fs => simp only [tdOf] at hk; split at hk <;> cases hk
  | slice e => simp only [tdOf] at hk; split at hk <;> (try split at hk) <;> (try split at hk) <;> cases hk
  | array n e => simp only [tdOf] at hk; split at hk <;> cases hk
  | _ => cases hk

section
variable {Φ : Imm} {μ : Nat → Option Nat} {w : World} {P : Program}

theorem field_sound {s : TypeId} {ti : TyI} (ht : tyI P s = some ti) {l : List (Nat × Nat × Bool)} (hk : ti.kind = .struct l) {q p : PV} {v : Value} {f : Nat} (hv : Rep Φ μ q v) (hp : pfield l f q = some p) :
    ∃ u, (Instr.fieldAt s v f).run P w = .ok u w ∧ Rep Φ μ p u ∧ p.ownB = false := by
  obtain ⟨fs, hu, -, hget⟩ := struct_get ht hk
  cases q with
  | ptr id o =>
    simp only [pfield] at hp
    split at hp
    · rename_i off size agg hl
      split at hp
      · rename_i hs
        cases hp
        obtain ⟨fd, i, d, e1, e2, e3, e4, -, -⟩ := hget f _ _ _ hl
        obtain ⟨g, hg, rfl⟩ := hv.ptr_inv
        refine ⟨.pointer (some ⟨g, o + off, none⟩), ?_, .ptr _ _ g hg, rfl⟩
        have hsz : i.size ≠ 0 := by rw [e4]; exact hs
        simp [Instr.fieldAt, run_underlying hu, e1, Instr.sureAddr, fieldPlace, run_size e3, hsz, Addr.add_lit, e2]
      · cases hp
    · cases hp
  | ep cs o =>
    simp only [pfield] at hp
    split at hp
    · rename_i off size agg hl
      split at hp
      · rename_i hs
        cases hp
        obtain ⟨fd, i, d, e1, e2, e3, e4, -, -⟩ := hget f _ _ _ hl
        obtain ⟨b, o', us, rfl, k1, k2⟩ := hv.ep_inv
        refine ⟨.pointer (some ⟨b, o' + (o + off), none⟩), ?_, .ep _ _ b o' us k1 k2, rfl⟩
        have hsz : i.size ≠ 0 := by rw [e4]; exact hs
        simp [Instr.fieldAt, run_underlying hu, e1, Instr.sureAddr, fieldPlace, run_size e3, hsz, Addr.add_lit, e2, Nat.add_assoc]
      · cases hp
    · cases hp
  | _ => simp [pfield] at hp

/-- The address of an element. -/
def pindexAt (td : TD) : PV → PV → Option PV
  | .sl n k cs _, .val (.int _ i) => match td with
    | .slice _ k' _ _ => if k' = k ∧ 0 ≤ i ∧ i < n then some (.ep cs (i.toNat * k)) else none
    | _ => none
  | .ptr id o, .val (.int _ i) => match td with
    | .arr n _ k _ => if 0 ≤ i ∧ i < n then some (.ptr id (o + i.toNat * k)) else none
    | _ => none
  | .ep cs o, .val (.int _ i) => match td with
    | .arr n _ k _ => if 0 ≤ i ∧ i < n then some (.ep cs (o + i.toNat * k)) else none
    | _ => none
  | _, _ => none

theorem index_sound {t : TypeId} {ti : TyI} (ht : tyI P t = some ti) {q x p : PV} {v u : Value} (hv : Rep Φ μ q v) (hx : Rep Φ μ x u) (hp : pindexAt ti.kind q x = some p) :
    ∃ r, (Instr.indexAt t v u).run P w = .ok r w ∧ Rep Φ μ p r ∧ p.ownB = false := by
  unfold pindexAt at hp
  split at hp
  · rename_i n k cs own ik i
    obtain ⟨rfl, -⟩ := hx.val_inv
    split at hp
    · rename_i e k' by_ zr hk
      split at hp
      · rename_i hc
        obtain ⟨rfl, h0, hn⟩ := hc
        cases hp
        obtain ⟨hu, i', z', e1, e2, e3, e4, e5, e6, -, -⟩ := slice_get ht hk
        obtain ⟨a, b, off, cap, us, rfl, c1, c2, c3, c4, c5, c6⟩ := hv.sl_inv
        obtain rfl := c4 (by omega)
        refine ⟨.pointer (some ⟨b, off + i.toNat * k', none⟩), ?_, .ep _ _ b off us c5 c6, rfl⟩
        simp [Instr.indexAt, asIntOf, run_underlying hu, h0, hn, run_size e1, e3, Addr.add_lit]
      · cases hp
    · cases hp
  · rename_i id o ik i
    obtain ⟨rfl, -⟩ := hx.val_inv
    split at hp
    · rename_i n e k ag hk
      split at hp
      · rename_i hc
        cases hp
        obtain ⟨hu, i', d', e1, e2, e3, e4⟩ := arr_get ht hk
        obtain ⟨g, hg, rfl⟩ := hv.ptr_inv
        refine ⟨.pointer (some ⟨g, o + i.toNat * k, none⟩), ?_, .ptr _ _ g hg, rfl⟩
        simp [Instr.indexAt, asIntOf, run_underlying hu, hc.1, hc.2, run_size e1, e2, Addr.add_lit, Instr.sureAddr]
      · cases hp
    · cases hp
  · rename_i cs o ik i
    obtain ⟨rfl, -⟩ := hx.val_inv
    split at hp
    · rename_i n e k ag hk
      split at hp
      · rename_i hc
        cases hp
        obtain ⟨hu, i', d', e1, e2, e3, e4⟩ := arr_get ht hk
        obtain ⟨b, o', us, rfl, k1, k2⟩ := hv.ep_inv
        refine ⟨.pointer (some ⟨b, o' + (o + i.toNat * k), none⟩), ?_, .ep _ _ b o' us k1 k2, rfl⟩
        simp [Instr.indexAt, asIntOf, run_underlying hu, hc.1, hc.2, run_size e1, e2, Addr.add_lit, Instr.sureAddr, Nat.add_assoc]
      · cases hp
    · cases hp
  · cases hp
end
end Go.Proofs.Ytnjopfjmepbpoaa

/- Pure states: slices of slices, conversions, literals of structs; all operations that write nothing. -/
namespace Go.Proofs.Ytnjopfjmepbpoaa
set_option linter.unusedSimpArgs false
set_option linter.unusedVariables false
set_option linter.unnecessarySimpa false
open Go.RowKit

/-- The bounds of a slice expression. -/
def pbound (dflt : Nat) (m : Nat) : Option PV → Option Nat
  | none => some dflt
  | some (.val (.int _ i)) => if 0 ≤ i ∧ i ≤ m then some i.toNat else none
  | _ => none

def pslice (td : TD) (x : PV) (lo hi : Option PV) : Option PV :=
  match x with
  | .sl n k cs _ => match td with
    | .slice _ k' _ _ => if k' = k then
        match pbound n n hi with
        | some h => match pbound 0 h lo with
          | some l => some (.sl (h - l) k ((cs.drop (l * k)).take ((h - l) * k)) none)
          | none => none
        | none => none
      else none
    | _ => none
  | .val (.string s) => match td with
    | .str => match pbound s.size s.size hi with
        | some h => match pbound 0 h lo with
          | some l => some (.val (.string (s.extract l h)))
          | none => none
        | none => none
    | _ => none
  | _ => none

section
variable {Φ : Imm} {μ : Nat → Option Nat} {w : World} {P : Program}

theorem bound_sound {d m l : Nat} {p : PV} {u : Value} (hr : Rep Φ μ p u) (hp : pbound d m (some p) = some l) (m' : Nat) (hm : m ≤ m') (code : BoundsCode) : (Instr.sliceBound u m' code).run P w = .ok l w ∧ l ≤ m := by
  unfold pbound at hp
  split at hp
  · rename_i e; cases e
  · rename_i k i e
    cases e
    obtain ⟨rfl, -⟩ := hr.val_inv
    split at hp
    · rename_i hc
      cases hp
      refine ⟨?_, by omega⟩
      have h1 : 0 ≤ i ∧ i ≤ (m' : Int) := ⟨hc.1, by omega⟩
      simp [Instr.sliceBound, asIntOf, h1]
    · cases hp
  · cases hp

/-- Operands that may be absent. -/
def RepO (Φ : Imm) (μ : Nat → Option Nat) (x : Option PV) (v : Option Value) : Prop := match x, v with
  | none, none => True
  | some p, some u => Rep Φ μ p u
  | _, _ => False

theorem bounds_sound {x y : Option PV} {vx vy : Option Value} (hx : RepO Φ μ x vx) (hy : RepO Φ μ y vy) {n h l cap : Nat} {isS : Bool} (hn : n ≤ cap) (h1 : pbound n n y = some h) (h2 : pbound 0 h x = some l) :
    (Instr.sliceBounds isS n cap vx vy none).run P w = .ok (l, h, cap) w ∧ l ≤ h ∧ h ≤ n := by
  have a1 : ∀ code, (match vy with | some v => Instr.sliceBound v cap code | none => pure n : Sem Nat).run P w = .ok h w ∧ h ≤ n := by
    intro code
    cases y with
    | none => cases vy with
      | none => simp [pbound] at h1; subst h1; simp
      | some v => exact hy.elim
    | some p => cases vy with
      | none => exact hy.elim
      | some v => exact bound_sound hy h1 cap hn code
  have a2 : ∀ code, (match vx with | some v => Instr.sliceBound v h code | none => pure 0 : Sem Nat).run P w = .ok l w ∧ l ≤ h := by
    intro code
    cases x with
    | none => cases vx with
      | none => simp [pbound] at h2; subst h2; simp
      | some v => exact hx.elim
    | some p => cases vx with
      | none => exact hx.elim
      | some v => exact bound_sound hx h2 h (Nat.le_refl _) code
  refine ⟨?_, (a2 .sliceB).2, (a1 .sliceB).2⟩
  unfold Instr.sliceBounds
  simp only [Sem.run_bind, Sem.run_pure, Result.andThen_ok]
  have b1 := (a1 (if isS = true then .sliceAcap else .sliceAlen)).1
  have b2 := (a2 .sliceB).1
  cases vy with
  | none =>
    simp only [Sem.run_pure] at b1
    cases b1
    cases vx with
    | none => simp only [Sem.run_pure] at b2; cases b2; simp
    | some v => simp only [] at b2; simp [b2]
  | some v =>
    simp only [] at b1
    cases vx with
    | none => simp only [Sem.run_pure] at b2; cases b2; simp [b1]
    | some v => simp only [] at b2; simp [b1, b2]

theorem slice_sound {t : TypeId} {ti : TyI} (ht : tyI P t = some ti) {q p : PV} {v : Value} {x y : Option PV} {vx vy : Option Value} (hv : Rep Φ μ q v) (hx : RepO Φ μ x vx) (hy : RepO Φ μ y vy) (hp : pslice ti.kind q x y = some p) :
    ∃ r, (Instr.sliceAt t v vx vy none).run P w = .ok r w ∧ Rep Φ μ p r ∧ p.ownB = false := by
  unfold pslice at hp
  split at hp
  · rename_i n k cs own
    split at hp
    · rename_i e k' by_ zr hk
      split at hp
      · rename_i hkk
        subst hkk
        split at hp
        · rename_i h hh
          split at hp
          · rename_i l hl
            cases hp
            obtain ⟨hu, i', z', e1, e2, e3, e4, e5, e6, -, -⟩ := slice_get ht hk
            obtain ⟨a, b, off, cap, us, rfl, c1, c2, c3, c4, c5, c6⟩ := hv.sl_inv
            obtain ⟨r1, r2, r3⟩ := bounds_sound (P := P) (w := w) (isS := true) hx hy c1 hh hl
            refine ⟨.slice (if cap = l then a else a.map (·.add (l * k'))) (h - l) (cap - l), ?_, ?_, rfl⟩
            · simp only [Instr.sliceAt, Sem.run_bind, run_underlying hu, Result.andThen_ok, Instr.slice, r1, run_size e1, e3, Sem.run_pure]
            · by_cases hz : h - l = 0
              · have : (cs.drop (l * k')).take ((h - l) * k') = [] := by rw [hz]; simp
                rw [this, hz]
                exact .sl0 _ _ _ _ (by omega)
              · obtain rfl := c4 (by omega)
                rw [if_neg (by omega)]
                simp only [Option.map_some, Addr.add_lit]
                have hbig : l * k' + (h - l) * k' ≤ n * k' := by rw [← Nat.add_mul]; exact Nat.mul_le_mul_right _ (by omega)
                refine .sl _ _ _ _ b (off + l * k') _ (fun j => us (l * k' + j)) ?_ (by omega) (by omega) ?_ ?_
                · rw [List.length_take, List.length_drop, c3]; omega
                · intro j hj
                  rw [List.length_take, List.length_drop, c3] at hj
                  rw [Nat.add_assoc]
                  exact c5 _ (by omega)
                · intro j c hc
                  rw [List.getElem?_take] at hc
                  split at hc
                  · rw [List.getElem?_drop] at hc; exact c6 _ _ hc
                  · cases hc
          · cases hp
        · cases hp
      · cases hp
    · cases hp
  · rename_i s
    split at hp
    · rename_i hk
      split at hp
      · rename_i h hh
        split at hp
        · rename_i l hl
          cases hp
          obtain ⟨rfl, -⟩ := hv.val_inv
          have hu := kind_str ht hk
          obtain ⟨r1, r2, r3⟩ := bounds_sound (P := P) (w := w) (isS := false) hx hy (Nat.le_refl s.size) hh hl
          refine ⟨.string (s.extract l h), ?_, .val _ rfl, rfl⟩
          simp [Instr.sliceAt, run_underlying hu, Instr.slice, r1]
        · cases hp
      · cases hp
    · cases hp
  · cases hp
end

/-- The cells of a value. -/
def pcells : PV → Option (List PV)
  | .agg cs => if cs.all PV.one then some (cs.map PV.bare) else none
  | p => if p.one then some [p.bare] else none

def splice (cs : List PV) (off : Nat) (new : List PV) : List PV := cs.take off ++ new ++ cs.drop (off + new.length)

/-- The same, by one pass. -/
def splF : List PV → Nat → List PV → List PV
  | cs, 0, [] => cs
  | _ :: cs, 0, n :: new => n :: splF cs 0 new
  | [], 0, n :: new => n :: new
  | c :: cs, off + 1, new => c :: splF cs off new
  | [], _ + 1, new => new
theorem splF_eq : ∀ (cs : List PV) (off : Nat) (new : List PV), off + new.length ≤ cs.length → splF cs off new = splice cs off new
  | cs, 0, [], _ => by cases cs <;> simp [splF, splice]
  | c :: cs, 0, n :: new, h => by
    have := splF_eq cs 0 new (by simp at h ⊢; omega)
    simp only [splF, this, splice]
    simp [Nat.add_comm]
  | [], 0, n :: new, h => by simp at h
  | c :: cs, off + 1, new, h => by
    have := splF_eq cs off new (by simp at h; omega)
    simp only [splF, this, splice]
    rw [show off + 1 + new.length = (off + new.length) + 1 by omega]
    simp
  | [], off + 1, new, h => by simp at h

def pfill (place : Nat → Option (Nat × Nat)) (cs : List PV) : List (Nat × PV) → Option (List PV)
  | [] => some cs
  | (i, p) :: rest => match place i, pcells p with
    | some (off, size), some new => if new.length = size ∧ off + size ≤ cs.length then pfill place (splF cs off new) rest else none
    | _, _ => none

/-- The cells of a value, in memory too. -/
def CellsR (Φ : Imm) (μ : Nat → Option Nat) (cs : List PV) (us : List Value) : Prop := RepL Φ μ cs us ∧ (∀ u ∈ us, u.oneCell' = true) ∧ ∀ c ∈ cs, c.ownB = false

theorem repL_bare {Φ : Imm} {μ : Nat → Option Nat} {cs : List PV} {us : List Value} (h : RepL Φ μ cs us) : RepL Φ μ (cs.map PV.bare) us := by
  refine ⟨by simp [h.1], fun j c u h1 h2 => ?_⟩
  rw [List.getElem?_map] at h1
  obtain ⟨c', hc', rfl⟩ := Option.map_eq_some_iff.1 h1
  exact (h.2 j c' u hc' h2).bare

theorem repL_one {Φ : Imm} {μ : Nat → Option Nat} {cs : List PV} {us : List Value} (h : RepL Φ μ cs us) (ho : cs.all PV.one = true) : ∀ u ∈ us, u.oneCell' = true := by
  intro u hu
  obtain ⟨j, hj⟩ := List.getElem?_of_mem hu
  have hjl : j < cs.length := by rw [← h.1]; exact (List.getElem?_eq_some_iff.1 hj).1
  exact ((h.2 j cs[j] u (by simp [hjl]) hj).one (List.all_eq_true.1 ho _ (by simp))).1

theorem pcells_sound {Φ : Imm} {μ : Nat → Option Nat} {p : PV} {v : Value} (h : Rep Φ μ p v) {cs : List PV} (hc : pcells p = some cs) : CellsR Φ μ cs v.cells.toList := by
  unfold pcells at hc
  split at hc
  · rename_i ds
    split at hc
    · rename_i ho
      cases hc
      obtain ⟨us, rfl, hr⟩ := h.agg_inv
      refine ⟨by simpa [Value.cells] using repL_bare hr, by simpa [Value.cells] using repL_one hr ho, fun c hcm => ?_⟩
      obtain ⟨c', -, rfl⟩ := List.mem_map.1 hcm
      exact PV.bare_own _
    · cases hc
  · split at hc
    · rename_i ho
      cases hc
      obtain ⟨h1, h2⟩ := h.one ho
      rw [h2]
      refine ⟨RepL.cons h.bare RepL.nil, by simpa using h1, by simpa using PV.bare_own _⟩
    · cases hc

theorem repL_splice {Φ : Imm} {μ : Nat → Option Nat} {cs new : List PV} {us vs : List Value} {off : Nat} (h : CellsR Φ μ cs us) (hn : CellsR Φ μ new vs) (hle : off + new.length ≤ cs.length) : CellsR Φ μ (splice cs off new) (us.take off ++ vs ++ us.drop (off + vs.length)) := by
  have hl := h.1.1
  have hl2 := hn.1.1
  refine ⟨⟨?_, fun j c u h1 h2 => ?_⟩, fun u hu => ?_, fun c hc => ?_⟩
  · simp only [splice, List.length_append, List.length_take, List.length_drop]; omega
  · unfold splice at h1
    by_cases h3 : j < off
    · rw [List.append_assoc, List.getElem?_append_left (by rw [List.length_take]; omega), List.getElem?_take, if_pos h3] at h1 h2
      exact h.1.2 j c u h1 h2
    · by_cases h4 : j < off + new.length
      · rw [List.append_assoc, List.getElem?_append_right (by rw [List.length_take]; omega), List.length_take, List.getElem?_append_left (by omega)] at h1 h2
        rw [show min off cs.length = off by omega] at h1
        rw [show min off us.length = off by omega] at h2
        exact hn.1.2 _ c u h1 h2
      · rw [List.getElem?_append_right (by rw [List.length_append, List.length_take]; omega), List.length_append, List.length_take, List.getElem?_drop] at h1 h2
        rw [show off + new.length + (j - (min off cs.length + new.length)) = j by omega] at h1
        rw [show off + vs.length + (j - (min off us.length + vs.length)) = j by omega] at h2
        exact h.1.2 j c u h1 h2
  · simp only [List.mem_append] at hu
    rcases hu with (hu | hu) | hu
    · exact h.2.1 u (List.mem_of_mem_take hu)
    · exact hn.2.1 u hu
    · exact h.2.1 u (List.mem_of_mem_drop hu)
  · simp only [splice, List.mem_append] at hc
    rcases hc with (hc | hc) | hc
    · exact h.2.2 c (List.mem_of_mem_take hc)
    · exact hn.2.2 c hc
    · exact h.2.2 c (List.mem_of_mem_drop hc)

theorem fold_set (off : Nat) : ∀ (vs : List Value) (k : Nat) (cs : Array Value), off + k + vs.length ≤ cs.size →
    ((vs.zipIdx k).foldl (fun cs (x : Value × Nat) => cs.setIfInBounds (off + x.2) x.1) cs).toList = cs.toList.take (off + k) ++ vs ++ cs.toList.drop (off + k + vs.length)
  | [], k, cs, h => by simp
  | v :: vs, k, cs, h => by
    simp only [List.length_cons] at h
    rw [List.zipIdx_cons, List.foldl_cons, fold_set off vs (k + 1) _ (by simp; omega)]
    simp only [Array.toList_setIfInBounds]
    have hk : off + k < cs.toList.length := by simp; omega
    rw [show off + (k + 1) = off + k + 1 by omega]
    rw [List.take_add_one, List.take_set_of_le (by omega), List.getElem?_set_self (by simpa using hk)]
    rw [List.drop_set_of_lt (by omega)]
    simp only [Option.toList_some, List.append_assoc, List.cons_append, List.nil_append, List.length_cons]
    rw [show off + k + 1 + vs.length = off + k + (vs.length + 1) by omega]

theorem fill_sound {Φ : Imm} {μ : Nat → Option Nat} (place : Nat → Option (Nat × Nat)) : ∀ (ps : List (Nat × PV)) (vs : List (Nat × Value)) (cs : List PV) (cur : Array Value) (out : List PV), CellsR Φ μ cs cur.toList →
    vs.length = ps.length → (∀ (j : Nat) i p i' v, ps[j]? = some (i, p) → vs[j]? = some (i', v) → i' = i ∧ Rep Φ μ p v) → pfill place cs ps = some out → ∃ cur', Instr.fill place cur vs = some cur' ∧ CellsR Φ μ out cur'.toList
  | [], vs, cs, cur, out, hc, hl, _, h => by
    obtain rfl : vs = [] := List.eq_nil_of_length_eq_zero (by simpa using hl)
    simp [pfill] at h; subst h
    exact ⟨cur, rfl, hc⟩
  | (i, p) :: ps, [], cs, cur, out, hc, hl, _, h => by simp at hl
  | (i, p) :: ps, (i', v) :: vs, cs, cur, out, hc, hl, hr, h => by
    obtain ⟨rfl, hpv⟩ := hr 0 i p i' v rfl rfl
    simp only [pfill] at h
    split at h
    · rename_i off size new hpl hnew
      split at h
      · rename_i hcond
        have hn := pcells_sound hpv hnew
        have hlen := hn.1.1
        have hl0 := hc.1.1
        simp only [Array.length_toList] at hlen hl0
        have hsp := repL_splice hc hn (off := off) (by omega)
        rw [splF_eq cs off new (by omega)] at h
        obtain ⟨cur', r1, r2⟩ := fill_sound place ps vs (splice cs off new) (v.cells.zipIdx.foldl (fun cs (x : Value × Nat) => cs.setIfInBounds (off + x.2) x.1) cur) out (by
          have := fold_set off v.cells.toList 0 cur (by simp; omega)
          rw [Nat.add_zero] at this
          rw [← Array.foldl_toList, Array.toList_zipIdx, this]; exact hsp) (by simpa using hl) (fun j a b c d e1 e2 => hr (j+1) a b c d (by simpa using e1) (by simpa using e2)) h
        refine ⟨cur', ?_, r2⟩
        rw [Instr.fill, hpl]
        simp only
        rw [if_neg (by simp; omega)]
        exact r1
      · cases h
    · cases h
end Go.Proofs.Ytnjopfjmepbpoaa

/- Pure states: all operations that write nothing. -/
namespace Go.Proofs.Ytnjopfjmepbpoaa
set_option linter.unusedSimpArgs false
set_option linter.unusedVariables false
set_option linter.unnecessarySimpa false
open Go.RowKit

abbrev Tab := List (Option TyI)

def Tab.at (T : Tab) (t : TypeId) : Option TyI := (T[t]?).getD none

theorem tab_at {P : Program} {T : Tab} (hT : T = tabOf P) {t : TypeId} {x : TyI} (h : T.at t = some x) : tyI P t = some x := by
  refine tyTab_get hT ?_
  unfold Tab.at at h
  cases hx : T[t]? with
  | none => rw [hx] at h; cases h
  | some y => rw [hx] at h; simp at h; rw [h]

def pfieldOf (td : TD) (f : Nat) : PV → Option PV
  | .agg cs => match td with
    | .struct l => match l[f]? with
      | some (off, size, agg) => asVal agg size cs off
      | none => none
    | _ => none
  | _ => none

def pindexV (td : TD) : PV → PV → Option PV
  | .val (.string s), .val (.int _ i) => match td with
    | .str => if 0 ≤ i then (match s[i.toNat]? with | some b => some (.val (.int .u8 b.toNat)) | none => none) else none
    | _ => none
  | .agg cs, .val (.int _ i) => match td with
    | .arr n _ k ag => if 0 ≤ i ∧ i < n then asVal ag k cs (i.toNat * k) else none
    | _ => none
  | _, _ => none

def pconv (src dst : TD) : PV → Option PV
  | .val (.int _ n) => match dst with
    | .int k => some (.val (.int k (k.wrap n)))
    | _ => none
  | .val (.string s) => match src, dst with
    | .str, .str => some (.val (.string s))
    | _, _ => none
  | _ => none

/-- The bytes of cells. -/
def bytesOf : List PV → Option (List Int)
  | [] => some []
  | .val (.int .u8 b) :: r => (bytesOf r).map (b :: ·)
  | _ => none
def strI (bs : List Int) : ByteArray := bs.foldl (fun r n => r.push (UInt8.ofNat n.toNat)) ByteArray.empty
theorem bytesOf_get : ∀ (cs : List PV) (bs : List Int), bytesOf cs = some bs → cs = bs.map fun b => .val (.int .u8 b)
  | [], bs, h => by simp [bytesOf] at h; subst h; rfl
  | c :: cs, bs, h => by
    cases c with
    | val v => cases v with
      | int k b => cases k with
        | u8 =>
          simp only [bytesOf] at h
          obtain ⟨l, hl, rfl⟩ := Option.map_eq_some_iff.1 h
          rw [bytesOf_get cs l hl]; rfl
        | _ => simp [bytesOf] at h
      | _ => simp [bytesOf] at h
    | _ => simp [bytesOf] at h
theorem bytesOf_map : ∀ (bs : List Int), bytesOf (bs.map fun b => .val (.int .u8 b)) = some bs
  | [] => rfl
  | b :: bs => by simp [bytesOf, bytesOf_map bs]
/-- string(b) of bytes. -/
def pconvS (T : Tab) (src dst : TD) : PV → Option PV
  | .sl _ k cs _ => match src, dst with
    | .slice e _ _ _, .str => match T.at e with
      | some ei => match ei.kind with
        | .int .u8 => if k = 1 then (bytesOf cs).map fun bs => .val (.string (strI bs)) else none
        | _ => none
      | none => none
    | _, _ => none
  | _ => none

def plen (td : TD) : PV → Option PV
  | .sl n _ _ _ => match td with
    | .slice .. => some (.val (.int .i64 n))
    | _ => none
  | .nilsl => match td with
    | .slice .. => some (.val (.int .i64 0))
    | _ => none
  | .val (.string s) => match td with
    | .str => some (.val (.int .i64 s.size))
    | _ => none
  | _ => match td with
    | .arr n _ _ _ => some (.val (.int .i64 n))
    | _ => none

def pbuild (T : Tab) (ti : TyI) (ps : List (Nat × PV)) : Option PV :=
  match ti.kind with
  | .struct l => (pfill (fun i => (l[i]?).map fun x => (x.1, x.2.1)) ti.zero ps).map .agg
  | .arr _ _ k _ => (pfill (fun i => some (i * k, k)) ti.zero ps).map .agg
  | _ => none

def veq : SK → Value → Value → Option Bool
  | .int, .int k a, .int k' b => if k = k' then some (a == b) else none
  | .str, .string a, .string b => some (a == b)
  | .bool, .bool a, .bool b => some (a == b)
  | _, _, _ => none
/-- Cells that are compared one by one. -/
def peqs : List SK → List PV → List PV → Option Bool
  | [], [], [] => some true
  | k :: ks, .val a :: xs, .val b :: ys => match veq k a b, peqs ks xs ys with
    | some r, some s => some (r && s)
    | _, _ => none
  | _, _, _ => none
def pbinA (op : BinOp) (ks : List SK) (xs ys : List PV) : Option Value := match ks with
  | [] => none
  | _ :: _ => match op with
    | .eql => (peqs ks xs ys).map .bool
    | .neq => (peqs ks xs ys).map fun b => .bool !b
    | _ => none

def pval (T : Tab) (σ : PS) : Op → Option PV
  | .move x => some (pev σ x)
  | .pick c x y => match pev σ c with
    | .val (.bool b) => some (if b then pev σ x else pev σ y)
    | _ => none
  | .load t x => match T.at t with
    | some ti => ploadAt ti σ.b (pev σ x)
    | none => none
  | .fieldAddr s x f => match T.at s with
    | some ti => match ti.kind with
      | .struct l => pfield l f (pev σ x)
      | _ => none
    | none => none
  | .field s x f => match T.at s with
    | some ti => pfieldOf ti.kind f (pev σ x)
    | none => none
  | .indexAddr t x i => match T.at t with
    | some ti => pindexAt ti.kind (pev σ x) (pev σ i)
    | none => none
  | .index t x i => match T.at t with
    | some ti => pindexV ti.kind (pev σ x) (pev σ i)
    | none => none
  | .binOp op t x y _ => match pev σ x, pev σ y with
    | .val u, .val v => match pbin op u v with
      | some r => some (.val r)
      | none => match T.at t with
        | some ti => (pbinB op ti.kind u v).map .val
        | none => none
    | .agg xs, .agg ys => match T.at t with
      | some ti => (pbinA op ti.eqs xs ys).map .val
      | none => none
    | _, _ => none
  | .unOp op _ x => match pev σ x with
    | .val u => (pun op u).map .val
    | _ => none
  | .convert s d x => match T.at s, T.at d with
    | some si, some di => match pconv si.kind di.kind (pev σ x) with
      | some p => some p
      | none => pconvS T si.kind di.kind (pev σ x)
    | _, _ => none
  | .slice t x lo hi mx => match mx with
    | none => match T.at t with
      | some ti => pslice ti.kind (pev σ x) (lo.map (pev σ)) (hi.map (pev σ))
      | none => none
    | some _ => none
  | .extract x i => match pev σ x with
    | .tup vs => (vs[i]?).map PV.bare
    | _ => none
  | .makeFunc fn first caps => match fn with
    | .func f => if first.toList.isEmpty then some (.fn f (caps.toList.map (pev σ))) else none
    | _ => none
  | .build t parts => match T.at t with
    | some ti => pbuild T ti (parts.toList.map fun x => (x.1, pev σ x.2))
    | none => none
  | .call c => match c.callee with
    | .builtin .len => match c.args.toList, c.argTypes.toList with
      | [x], [t] => match T.at t with
        | some ti => plen ti.kind (pev σ x)
        | none => none
      | _, _ => none
    | _ => none
  | _ => none

section
variable {Φ0 : Imm} {W : World} {M : Nat} {Φ : Imm} {μ : Nat → Option Nat} {ω : Nat → Option Who} {σ : PS} {a : Act} {w : World} {P : Program} {T : Tab}

theorem run_mapM_list {α β : Type} (f : α → Sem β) : ∀ (l : List α) (r : List β), r.length = l.length → (∀ (j : Nat) x y, l[j]? = some x → r[j]? = some y → (f x).run P w = .ok y w) → (l.mapM f).run P w = .ok r w
  | [], r, hl, _ => by
    obtain rfl : r = [] := List.eq_nil_of_length_eq_zero (by simpa using hl)
    simp
  | x :: l, [], hl, _ => by simp at hl
  | x :: l, y :: r, hl, h => by
    rw [List.mapM_cons]
    simp only [Sem.run_bind, h 0 x y rfl rfl, Result.andThen_ok, run_mapM_list f l r (by simpa using hl) (fun j a b h1 h2 => h (j+1) a b (by simpa using h1) (by simpa using h2)), Sem.run_pure]

theorem asVal_part {cs : List PV} {us : List Value} (hr : RepL Φ μ cs us) {t : TypeId} {i : TypeInfo} {d : TypeDesc} (h1 : P.info? t = some i) (h2 : P.underlying t = some d) {off : Nat} {p : PV} (hp : asVal (aggD d) i.size cs off = some p) :
    ∃ v, (part t us.toArray off).run P w = .ok v w ∧ Rep Φ μ p v ∧ p.ownB = false := by
  unfold asVal at hp
  unfold part
  simp only [Sem.run_bind, run_isAgg h2, Result.andThen_ok]
  split at hp
  · rename_i hagg
    split at hp
    · rename_i hle
      cases hp
      simp only [hagg, if_true, Sem.run_bind, run_size h1, Result.andThen_ok, Sem.run_pure]
      refine ⟨_, rfl, ?_, rfl⟩
      have e : us.toArray.extract off (off + i.size) = ((us.drop off).take i.size).toArray := by
        simp [List.extract_toArray, List.extract_eq_take_drop]
      rw [e]
      refine RepL.agg (repL_bare ?_)
      refine ⟨by simp [hr.1], fun j c u h3 h4 => ?_⟩
      rw [List.getElem?_take] at h3 h4
      split at h3
      · rename_i hj
        rw [if_pos hj] at h4
        rw [List.getElem?_drop] at h3 h4
        exact hr.2 _ c u h3 h4
      · cases h3
    · cases hp
  · rename_i hagg
    obtain ⟨c, hc, rfl⟩ := Option.map_eq_some_iff.1 hp
    have hagg' : aggD d = false := by simpa using hagg
    obtain ⟨u, hu, hru⟩ := hr.get hc
    refine ⟨u, ?_, hru.bare, PV.bare_own _⟩
    simp [hagg', hu]

theorem run_forIn_eq {α : Type} (body : α → Option Bool × Unit → Sem (ForInStep (Option Bool × Unit))) (c : α → Bool) : ∀ (l : List α), (∀ x ∈ l, ∀ s, (body x s).run P w = .ok (if c x then .yield (none, ()) else .done (some false, ())) w) →
    (forIn l ((none, ()) : Option Bool × Unit) body).run P w = .ok (if l.all c then (none, ()) else (some false, ())) w
  | [], _ => by simp
  | x :: l, h => by
    rw [List.forIn_cons, Sem.run_bind, h x (by simp)]
    by_cases hc : c x = true
    · simp only [hc, if_true, Result.andThen_ok, List.all_cons, Bool.true_and]
      exact run_forIn_eq body c l (fun y hy => h y (by simp [hy]))
    · have hc' : c x = false := by simpa using hc
      simp [hc']

theorem run_veq {k : SK} {t : TypeId} (hk : skOf P t = some k) {a b : Value} {r : Bool} (h : veq k a b = some r) (d : Nat) : (Op.equalIn (d + 1) t a b).run P w = .ok r w := by
  rw [Op.equalIn]
  unfold skOf at hk
  split at hk
  · rename_i kk i hu hi
    split at hk
    · cases hk
      unfold veq at h
      split at h
      · rename_i k1 a k2 b e
        split at h
        · rename_i hkk
          subst hkk
          cases h
          simp [run_underlying hu]
        · cases h
      · rename_i e; cases e
      · rename_i e; cases e
      · cases h
    · cases hk
  · rename_i i hu hi
    split at hk
    · cases hk
      unfold veq at h
      split at h
      · rename_i e; cases e
      · rename_i e; cases e
      · cases h; simp [run_underlying hu]
      · cases h
    · cases hk
  · rename_i i hu hi
    split at hk
    · cases hk
      unfold veq at h
      split at h
      · rename_i e; cases e
      · cases h; simp [run_underlying hu]
      · rename_i e; cases e
      · cases h
    · cases hk
  · cases hk

theorem sk_part {k : SK} {t : TypeId} (hk : skOf P t = some k) {us : List Value} {off : Nat} {u : Value} (hu : us[off]? = some u) : (part t us.toArray off).run P w = .ok u w := by
  have : ∃ d, P.underlying t = some d ∧ aggD d = false := by
    unfold skOf at hk
    split at hk
    · rename_i hu _; exact ⟨_, hu, rfl⟩
    · rename_i hu _; exact ⟨_, hu, rfl⟩
    · rename_i hu _; exact ⟨_, hu, rfl⟩
    · cases hk
  obtain ⟨d, h1, h2⟩ := this
  simp [part, run_isAgg h1, h2, hu]

theorem peqs_get : ∀ (ks : List SK) (xs ys : List PV) (r : Bool), peqs ks xs ys = some r → xs.length = ks.length ∧ ys.length = ks.length ∧ ∃ cs : List Bool, cs.length = ks.length ∧ r = cs.all id ∧ ∀ (j : Nat) k, ks[j]? = some k → ∃ a b c, xs[j]? = some (.val a) ∧ ys[j]? = some (.val b) ∧ cs[j]? = some c ∧ veq k a b = some c
  | [], [], [], r, h => by simp [peqs] at h; subst h; exact ⟨rfl, rfl, [], rfl, rfl, fun j k hj => by simp at hj⟩
  | k :: ks, .val a :: xs, .val b :: ys, r, h => by
    simp only [peqs] at h
    split at h
    · rename_i r1 r2 h1 h2
      cases h
      obtain ⟨l1, l2, cs, l3, rfl, hg⟩ := peqs_get ks xs ys r2 h2
      refine ⟨by simp [l1], by simp [l2], r1 :: cs, by simp [l3], by simp, fun j k' hj => ?_⟩
      cases j with
      | zero => simp at hj; subst hj; exact ⟨a, b, r1, rfl, rfl, rfl, h1⟩
      | succ j => simp at hj; simpa using hg j k' hj
    · cases h
  | [], _ :: _, _, r, h => by simp [peqs] at h
  | [], [], _ :: _, r, h => by simp [peqs] at h
  | _ :: _, [], _, r, h => by simp [peqs] at h
  | _ :: _, .val _ :: _, [], r, h => by simp [peqs] at h
  | _ :: _, p :: _, q :: _, r, h => by
    cases p with
    | val a => cases q with
      | val b => simp only [peqs] at h; split at h
                 · rename_i ks xs ys r1 r2 h1 h2
                   cases h
                   obtain ⟨l1, l2, cs, l3, rfl, hg⟩ := peqs_get _ _ _ r2 h2
                   refine ⟨by simp [l1], by simp [l2], r1 :: cs, by simp [l3], by simp, fun j k' hj => ?_⟩
                   cases j with
                   | zero => simp at hj; subst hj; exact ⟨a, b, r1, rfl, rfl, rfl, h1⟩
                   | succ j => simp at hj; simpa using hg j k' hj
                 · cases h
      | _ => simp [peqs] at h
    | _ => simp [peqs] at h

theorem agg_eq_sound {t : TypeId} {xs ys : List PV} {us vs : List Value} (hx : RepL Φ μ xs us) (hy : RepL Φ μ ys vs) {r : Bool} (hne : eqsOf P t ≠ []) (h : peqs (eqsOf P t) xs ys = some r) : (Op.equal t (.agg us.toArray) (.agg vs.toArray)).run P w = .ok r w ∧ P.eqGuardType P.depth t = false := by
  obtain ⟨l1, l2, cs, l3, rfl, hg⟩ := peqs_get _ _ _ _ h
  have cell : ∀ (j : Nat) k, (eqsOf P t)[j]? = some k → ∃ a b c, us[j]? = some a ∧ vs[j]? = some b ∧ cs[j]? = some c ∧ veq k a b = some c := by
    intro j k hj
    obtain ⟨a, b, c, h1, h2, h3, h4⟩ := hg j k hj
    obtain ⟨u, hu, hru⟩ := hx.get h1
    obtain ⟨v, hv, hrv⟩ := hy.get h2
    obtain ⟨rfl, -⟩ := hru.val_inv
    obtain ⟨rfl, -⟩ := hrv.val_inv
    exact ⟨_, _, c, hu, hv, h3, h4⟩
  unfold Op.equal
  rw [show Op.maxDepth = 9998 + 1 + 1 from rfl, Op.equalIn]
  have heq := hne
  unfold eqsOf at hne
  split at hne
  · rename_i fs hu
    split at hne
    · rename_i hc
      have he : eqsOf P t = ((fs.toList.zipIdx).mapM (m := Option) fun x => if x.1.name ≠ "_" ∧ x.1.offset = x.2 then skOf P x.1.type else none).getD [] := by
        unfold eqsOf; rw [hu]; simp only [hc, and_self, if_true]
      refine ⟨?_, hc.2⟩
      cases hm : (fs.toList.zipIdx).mapM (m := Option) (fun x => if x.1.name ≠ "_" ∧ x.1.offset = x.2 then skOf P x.1.type else none) with
      | none => rw [hm] at he; rw [he] at heq; exact absurd rfl heq
      | some ks =>
        rw [hm] at he
        simp only [Option.getD_some] at he
        have hlen := mapM_len _ _ _ hm
        have hfld : ∀ (j : Nat) f, fs.toList[j]? = some f → ∃ k, ks[j]? = some k ∧ f.name ≠ "_" ∧ f.offset = j ∧ skOf P f.type = some k := by
          intro j f hj
          have hjl : j < ks.length := by rw [hlen]; simpa using (List.getElem?_eq_some_iff.1 hj).1
          obtain ⟨x, hx', hg'⟩ := mapM_get _ _ _ hm j ks[j] (by simp [hjl])
          rw [List.getElem?_zipIdx, hj] at hx'
          simp at hx'
          subst hx'
          split at hg'
          · rename_i hcc; exact ⟨ks[j], by simp [hjl], hcc.1, hcc.2, hg'⟩
          · cases hg'
        simp only [Sem.run_bind, run_underlying hu, Result.andThen_ok, run_program, hc.1, Bool.false_eq_true, if_false]
        rw [← Array.forIn_toList, run_forIn_eq _ (fun f => cs.getD f.offset false) fs.toList ?_]
        · have hall : (fs.toList.all fun f => cs.getD f.offset false) = cs.all id := by
            rw [Bool.eq_iff_iff, List.all_eq_true, List.all_eq_true]
            constructor
            · intro hh c hcm
              obtain ⟨j, hj⟩ := List.getElem?_of_mem hcm
              have hjl : j < fs.toList.length := by
                have h1 := (List.getElem?_eq_some_iff.1 hj).1
                rw [l3, he, hlen] at h1; simpa using h1
              obtain ⟨k, -, -, ho, -⟩ := hfld j fs.toList[j] (by simp)
              have := hh _ (List.getElem_mem hjl)
              rw [ho, List.getD_eq_getElem?_getD, hj] at this
              simpa using this
            · intro hh f hf
              obtain ⟨j, hj⟩ := List.getElem?_of_mem hf
              obtain ⟨k, hk, -, ho, -⟩ := hfld j f hj
              have hjc : j < cs.length := by rw [l3, he]; exact (List.getElem?_eq_some_iff.1 hk).1
              rw [ho, List.getD_eq_getElem?_getD, List.getElem?_eq_getElem hjc]
              exact hh _ (List.getElem_mem hjc)
          rw [hall]
          cases hca : cs.all id <;> simp
        · intro f hf s
          obtain ⟨j, hj⟩ := List.getElem?_of_mem hf
          obtain ⟨k, hk, hn, ho, hsk⟩ := hfld j f hj
          obtain ⟨a, b, c, k1, k2, k3, k4⟩ := cell j k (by rw [he]; exact hk)
          simp only [hn, ne_eq, not_false_eq_true, if_true, Sem.run_bind, ho, sk_part hsk k1, sk_part hsk k2, Result.andThen_ok, run_veq hsk k4]
          rw [List.getD_eq_getElem?_getD, k3]
          cases c <;> simp
    · exact absurd rfl hne
  · rename_i n e hu
    split at hne
    · rename_i hc
      split at hne
      · rename_i k hsk
        have he : eqsOf P t = List.replicate n k := by unfold eqsOf; rw [hu]; simp only [hc, if_true, hsk]
        refine ⟨?_, hc⟩
        have hinfo : ∃ i, P.info? e = some i ∧ i.size = 1 := by
          unfold skOf at hsk
          split at hsk
          · split at hsk
            · rename_i h1 h2 h3; exact ⟨_, h2, h3⟩
            · cases hsk
          · split at hsk
            · rename_i h1 h2 h3; exact ⟨_, h2, h3⟩
            · cases hsk
          · split at hsk
            · rename_i h1 h2 h3; exact ⟨_, h2, h3⟩
            · cases hsk
          · cases hsk
        obtain ⟨i, hi, hs1⟩ := hinfo
        simp only [Sem.run_bind, run_underlying hu, Result.andThen_ok, run_size hi, hs1, Nat.mul_one]
        rw [Std.Legacy.Range.forIn_eq_forIn_range', run_forIn_eq _ (fun j => cs.getD j false) _ ?_]
        · have hall : ((List.range' 0 (Std.Legacy.Range.size [:n]) 1).all fun j => cs.getD j false) = cs.all id := by
            have hcl : cs.length = n := by rw [l3, he]; simp
            have hsz : Std.Legacy.Range.size [:n] = n := by simp [Std.Legacy.Range.size]
            rw [hsz, Bool.eq_iff_iff, List.all_eq_true, List.all_eq_true]
            constructor
            · intro hh c hcm
              obtain ⟨j, hj⟩ := List.getElem?_of_mem hcm
              have hjl := (List.getElem?_eq_some_iff.1 hj).1
              have := hh j (by simp; omega)
              rw [List.getD_eq_getElem?_getD, hj] at this
              simpa using this
            · intro hh j hj
              have hjc : j < cs.length := by simp at hj; omega
              rw [List.getD_eq_getElem?_getD, List.getElem?_eq_getElem hjc]
              exact hh _ (List.getElem_mem hjc)
          rw [hall]
          cases hca : cs.all id <;> simp
        · intro j hj s
          have hjn : j < n := by simp [Std.Legacy.Range.size] at hj; omega
          obtain ⟨a, b, c, k1, k2, k3, k4⟩ := cell j k (by rw [he]; simp [hjn])
          simp only [Sem.run_bind, sk_part hsk k1, sk_part hsk k2, Result.andThen_ok, run_veq hsk k4]
          rw [List.getD_eq_getElem?_getD, k3]
          cases c <;> simp
      · exact absurd rfl hne
    · exact absurd rfl hne
  · exact absurd rfl hne

theorem pval_sound (hT : T = tabOf P) (h : RelG Φ0 W M Φ μ ω σ a w) (o : Oper) {p : PV} (hp : pval T σ o.op = some p) :
    ∃ v, (execOp a.eval o).run P w = .ok (.value v) w ∧ Rep Φ μ p v ∧ p.ownB = false := by
  obtain ⟨dst, op, ty, pos, after, guard⟩ := o
  simp only at hp
  unfold pval at hp
  split at hp
  · rename_i x
    cases hp
    exact ⟨a.eval x, by simp [execOp], h.ev x, pev_own σ x⟩
  · rename_i c x y
    split at hp
    · rename_i b hb
      cases hp
      have hc := h.ev c
      rw [hb] at hc
      obtain ⟨hc, -⟩ := hc.val_inv
      cases b
      · exact ⟨a.eval y, by simp [execOp, hc, asBool], h.ev y, pev_own σ y⟩
      · exact ⟨a.eval x, by simp [execOp, hc, asBool], h.ev x, pev_own σ x⟩
    · cases hp
  · rename_i t x
    split at hp
    · rename_i ti ht
      obtain ⟨u, r1, r2, r3⟩ := h.load (P := P) (tab_at hT ht) (h.ev x) hp
      exact ⟨u, by simp [execOp, r1], r2, r3⟩
    · cases hp
  · rename_i s x f
    split at hp
    · rename_i ti ht
      split at hp
      · rename_i l hl
        obtain ⟨u, r1, r2, r3⟩ := field_sound (P := P) (w := w) (tab_at hT ht) hl (h.ev x) hp
        exact ⟨u, by simp [execOp, r1], r2, r3⟩
      · cases hp
    · cases hp
  · rename_i s x f
    split at hp
    · rename_i ti ht
      unfold pfieldOf at hp
      split at hp
      · rename_i cs hcs
        split at hp
        · rename_i l hl
          split at hp
          · rename_i off size agg hlf
            obtain ⟨fs, hu, -, hget⟩ := struct_get (tab_at hT ht) hl
            obtain ⟨fd, i, d, e1, e2, e3, e4, e5, e6⟩ := hget f _ _ _ hlf
            have hx := h.ev x
            rw [hcs] at hx
            obtain ⟨us, hv, hr⟩ := hx.agg_inv
            subst e4 e6
            obtain ⟨v, r1, r2, r3⟩ := asVal_part (P := P) (w := w) hr e3 e5 hp
            refine ⟨v, ?_, r2, r3⟩
            simp [execOp, Instr.field, run_underlying hu, e1, hv, asAgg, e2, r1]
          · cases hp
        · cases hp
      · cases hp
    · cases hp
  · rename_i t x i
    split at hp
    · rename_i ti ht
      obtain ⟨u, r1, r2, r3⟩ := index_sound (P := P) (w := w) (tab_at hT ht) (h.ev x) (h.ev i) hp
      exact ⟨u, by simp [execOp, r1], r2, r3⟩
    · cases hp
  · rename_i t x i
    split at hp
    · rename_i ti ht
      have hx := h.ev x
      have hi := h.ev i
      unfold pindexV at hp
      split at hp
      · rename_i s ik n e1 e2
        rw [e1] at hx
        rw [e2] at hi
        obtain ⟨hx, -⟩ := hx.val_inv
        obtain ⟨hi, -⟩ := hi.val_inv
        split at hp
        · rename_i hk
          split at hp
          · rename_i h0
            split at hp
            · rename_i b hb
              cases hp
              exact ⟨.int .u8 b.toNat, by simp [execOp, Instr.index, hx, hi, asIntOf, run_underlying (kind_str (tab_at hT ht) hk), h0, hb], .val _ rfl, rfl⟩
            · cases hp
          · cases hp
        · cases hp
      · rename_i cs ik n e1 e2
        rw [e1] at hx
        rw [e2] at hi
        obtain ⟨us, hv, hr⟩ := hx.agg_inv
        obtain ⟨hi, -⟩ := hi.val_inv
        split at hp
        · rename_i len e k ag hk
          split at hp
          · rename_i hc
            obtain ⟨hu, i', d', e3, e4, e5, e6⟩ := arr_get (tab_at hT ht) hk
            subst e4 e6
            obtain ⟨v, r1, r2, r3⟩ := asVal_part (P := P) (w := w) hr e3 e5 hp
            exact ⟨v, by simp [execOp, Instr.index, hv, hi, asIntOf, run_underlying hu, hc.1, hc.2, run_size e3, r1], r2, r3⟩
          · cases hp
        · cases hp
      · cases hp
    · cases hp
  · rename_i op t x y yt
    split at hp
    · rename_i u v e1 e2
      have hx := h.ev x
      have hy := h.ev y
      rw [e1] at hx
      rw [e2] at hy
      obtain ⟨hx, -⟩ := hx.val_inv
      obtain ⟨hy, -⟩ := hy.val_inv
      split at hp
      · rename_i r hr
        cases hp
        obtain ⟨r1, r2⟩ := pbin_sound (P := P) (w := w) (t := t) (x := x) (y := y) hr
        exact ⟨r, by simp only [execOp, Sem.run_bind, hx, hy] at r1 ⊢; rw [r1]; rfl, .val _ r2, rfl⟩
      · split at hp
        · rename_i ti ht
          obtain ⟨r, hr, rfl⟩ := Option.map_eq_some_iff.1 hp
          obtain ⟨r1, r2⟩ := pbinB_sound (P := P) (w := w) (x := x) (y := y) (tab_at hT ht) hr
          exact ⟨r, by simp only [execOp, Sem.run_bind, hx, hy] at r1 ⊢; rw [r1]; rfl, .val _ r2, rfl⟩
        · cases hp
    · rename_i xs ys e1 e2
      have hx := h.ev x
      have hy := h.ev y
      rw [e1] at hx
      rw [e2] at hy
      obtain ⟨us, hx, hxr⟩ := hx.agg_inv
      obtain ⟨vs, hy, hyr⟩ := hy.agg_inv
      split at hp
      · rename_i ti ht
        obtain ⟨r, hr, rfl⟩ := Option.map_eq_some_iff.1 hp
        obtain ⟨i, d, z, -, -, -, -, -, g6⟩ := tyI_parts (tab_at hT ht)
        have heqs : ti.eqs = eqsOf P t := by rw [g6]
        rw [heqs] at hr
        unfold pbinA at hr
        split at hr
        · cases hr
        · rename_i k ks hks
          have hne : eqsOf P t ≠ [] := by rw [hks]; simp
          split at hr
          · obtain ⟨b, hb, rfl⟩ := Option.map_eq_some_iff.1 hr
            obtain ⟨r1, r2⟩ := agg_eq_sound (w := w) hxr hyr hne hb
            refine ⟨.bool b, ?_, .val _ rfl, rfl⟩
            have hgd : (eqGuard .eql t x y (.agg us.toArray) (.agg vs.toArray)).run P w = .ok () w := by simp [eqGuard, r2]
            simp only [execOp, Sem.run_bind, hx, hy, hgd, Result.andThen_ok, binOp, r1]
            rfl
          · obtain ⟨b, hb, rfl⟩ := Option.map_eq_some_iff.1 hr
            obtain ⟨r1, r2⟩ := agg_eq_sound (w := w) hxr hyr hne hb
            refine ⟨.bool !b, ?_, .val _ rfl, rfl⟩
            have hgd : (eqGuard .neq t x y (.agg us.toArray) (.agg vs.toArray)).run P w = .ok () w := by simp [eqGuard, r2]
            simp only [execOp, Sem.run_bind, hx, hy, hgd, Result.andThen_ok, binOp, r1]
            rfl
          · cases hr
      · cases hp
    · cases hp
  · rename_i op t x
    split at hp
    · rename_i u e1
      have hx := h.ev x
      rw [e1] at hx
      obtain ⟨hx, -⟩ := hx.val_inv
      obtain ⟨r, hr, rfl⟩ := Option.map_eq_some_iff.1 hp
      obtain ⟨r1, r2⟩ := pun_sound (P := P) (w := w) hr
      exact ⟨r, by simp [execOp, hx, r1], .val _ r2, rfl⟩
    · cases hp
  · rename_i s d x
    split at hp
    · rename_i si di hs hd
      have hx := h.ev x
      split at hp
      case h_2 =>
        unfold pconvS at hp
        split at hp
        · rename_i n k cs own e1
          rw [e1] at hx
          split at hp
          · rename_i e kk by_ zr hk1 hk2
            split at hp
            · rename_i ei he
              split at hp
              · rename_i hke
                split at hp
                · rename_i hk1'
                  subst hk1'
                  obtain ⟨bs, hbs, rfl⟩ := Option.map_eq_some_iff.1 hp
                  obtain ⟨hu, -⟩ := slice_get (tab_at hT hs) hk1
                  have hd' := kind_str (tab_at hT hd) hk2
                  have he' := kind_int (tab_at hT he) hke
                  obtain ⟨ad, b, off, cap, us, hv, q1, q2, q3, q4, q5, q6⟩ := hx.sl_inv
                  have hcs := bytesOf_get _ _ hbs
                  subst hcs
                  simp only [List.length_map, Nat.mul_one] at q3
                  refine ⟨.string (strI bs), ?_, .val _ rfl, rfl⟩
                  simp only [execOp, Sem.run_bind, hv]
                  rw [run_convert_bytes_string w s d e ad n cap hu he' hd']
                  by_cases hn : 0 < n
                  · obtain rfl := q4 hn
                    rw [run_bytesToString w ⟨b, off, none⟩ n cap bs (by
                      have := run_loadCells_list (P := P) (w := w) ⟨b, off, none⟩ (bs.map (Value.int .u8)) (by
                        intro j u hj
                        rw [List.getElem?_map] at hj
                        obtain ⟨z, hz, rfl⟩ := Option.map_eq_some_iff.1 hj
                        have hjl : j < bs.length := (List.getElem?_eq_some_iff.1 hz).1
                        have hr := q6 j (.val (.int .u8 z)) (by simp [hz])
                        rw [Addr.add_lit, h.imm _ _ _ (q5 j (by simpa using hjl)), hr.val_inv.1])
                      rw [List.length_map, q3] at this
                      first | exact this | simpa using this)]
                    rfl
                  · have hb0 : bs = [] := List.eq_nil_of_length_eq_zero (by omega)
                    have hn0 : n = 0 := by omega
                    subst hb0
                    cases ad with
                    | none => simp [Conv.bytesToString, strI]
                    | some ad =>
                      rw [run_bytesToString w ad n cap [] (by subst hn0; first | rfl | simp [loadCells, loadCellsFrom])]
                      rfl
                · cases hp
              · cases hp
            · cases hp
          · cases hp
        · cases hp
      rename_i pp hpp
      simp only [Option.some.injEq] at hp
      subst hp
      have hp := hpp
      unfold pconv at hp
      split at hp
      · rename_i ik n e1
        rw [e1] at hx
        obtain ⟨hx, -⟩ := hx.val_inv
        split at hp
        · rename_i k hk
          cases hp
          have hu := kind_int (tab_at hT hd) hk
          obtain ⟨i1, d1, z1, -, g2, -⟩ := tyI_parts (tab_at hT hs)
          refine ⟨.int k (k.wrap n), ?_, .val _ rfl, rfl⟩
          simp only [execOp, convert, Sem.run_bind, run_underlying g2, run_underlying hu, Result.andThen_ok, hx]
          simp [Conv.intToInt]
        · cases hp
      · rename_i st e1
        rw [e1] at hx
        obtain ⟨hx, -⟩ := hx.val_inv
        split at hp
        · rename_i hk1 hk2
          cases hp
          have hu := kind_str (tab_at hT hd) hk2
          have hu1 := kind_str (tab_at hT hs) hk1
          refine ⟨.string st, ?_, .val _ rfl, rfl⟩
          simp only [execOp, convert, Sem.run_bind, run_underlying hu1, run_underlying hu, Result.andThen_ok, hx]
          simp
        · cases hp
      · cases hp
    · cases hp
  · rename_i t x lo hi mx
    split at hp
    case h_2 => cases hp
    split at hp
    · rename_i ti ht
      have ho : ∀ y : Option Operand, RepO Φ μ (y.map (pev σ)) (y.map a.eval) := by
        intro y
        cases y with
        | none => trivial
        | some y => exact h.ev y
      obtain ⟨u, r1, r2, r3⟩ := slice_sound (P := P) (w := w) (tab_at hT ht) (h.ev x) (ho lo) (ho hi) hp
      exact ⟨u, by simp [execOp, r1], r2, r3⟩
    · cases hp
  · rename_i x i
    split at hp
    · rename_i vs e1
      have hx := h.ev x
      rw [e1] at hx
      obtain ⟨us, hv, hr⟩ := hx.tup_inv
      obtain ⟨c, hc, rfl⟩ := Option.map_eq_some_iff.1 hp
      obtain ⟨u, hu, hru⟩ := hr.get hc
      exact ⟨u, by simp [execOp, Instr.extract, hv, hu], hru.bare, PV.bare_own _⟩
    · cases hp
  · rename_i fn first caps
    split at hp
    case h_2 => cases hp
    rename_i f
    split at hp
    case isFalse => cases hp
    rename_i hfirst
    obtain rfl : first = #[] := by
      have : first.toList = [] := by simpa using hfirst
      simpa using this
    cases hp
    refine ⟨.func (.func f) #[] (caps.map a.eval), by simp [execOp, Instr.makeFunc], ?_, rfl⟩
    have : RepL Φ μ (caps.toList.map (pev σ)) (caps.toList.map a.eval) := by
      refine ⟨by simp, fun j c u h1 h2 => ?_⟩
      rw [List.getElem?_map] at h1 h2
      obtain ⟨x, hx, rfl⟩ := Option.map_eq_some_iff.1 h1
      rw [hx] at h2
      simp at h2
      subst h2
      exact h.ev x
    have := this.fn f
    have e : (caps.toList.map a.eval).toArray = caps.map a.eval := by rw [← Array.toList_map, Array.toArray_toList]
    rw [e] at this
    exact this
  · rename_i t parts
    split at hp
    · rename_i ti ht
      have hty := tab_at hT ht
      obtain ⟨i, d, z, g1, g2, g3, g4, g5, g6⟩ := tyI_parts hty
      have hz : CellsR Φ μ ti.zero z.cells.toList := by
        rw [g6]
        refine ⟨repL_pv0 _, g5, fun c hc => ?_⟩
        obtain ⟨v, -, rfl⟩ := List.mem_map.1 hc
        exact pv0_own v
      have hparts : ∀ (j : Nat) i p i' v, (parts.toList.map fun x => (x.1, pev σ x.2))[j]? = some (i, p) → (parts.toList.map fun x => (x.1, a.eval x.2))[j]? = some (i', v) → i' = i ∧ Rep Φ μ p v := by
        intro j i p i' v h1 h2
        rw [List.getElem?_map] at h1 h2
        obtain ⟨x, hx, e⟩ := Option.map_eq_some_iff.1 h1
        rw [hx] at h2
        simp at h2 e
        obtain ⟨rfl, rfl⟩ := e
        obtain ⟨rfl, rfl⟩ := h2
        exact ⟨rfl, h.ev x.2⟩
      have hzv : (zeroValue t).run P w = .ok z w := by simp [zeroValue, typeInfo, g1, g3]
      unfold pbuild at hp
      split at hp
      · rename_i l hl
        obtain ⟨fs, hu, hlen, hget⟩ := struct_get hty hl
        obtain ⟨out, ho, rfl⟩ := Option.map_eq_some_iff.1 hp
        have hmap : (fs.mapM fun f => (do pure (f.offset, ← sizeOf f.type) : Sem (Nat × Nat))).run P w = .ok (l.map fun x => (x.1, x.2.1)).toArray w := by
          have e1 : ∀ (j : Nat) (fd : Field), fs.toList[j]? = some fd → ∃ x : Nat × Nat × Bool, l[j]? = some x ∧ ((do pure (fd.offset, ← sizeOf fd.type) : Sem (Nat × Nat))).run P w = .ok (x.1, x.2.1) w := by
            intro j fd hj
            have hjl : j < l.length := by rw [hlen]; simpa using (List.getElem?_eq_some_iff.1 hj).1
            obtain ⟨fd', i', d', k1, k2, k3, k4, -, -⟩ := hget j _ _ _ (show l[j]? = some (l[j].1, l[j].2.1, l[j].2.2) by simp [hjl])
            have : fd' = fd := by
              have h3 : fs.toList[j]? = some fd' := by simpa using k1
              rw [hj] at h3; simpa using h3.symm
            subst this
            exact ⟨l[j], by simp [hjl], by simp [run_size k3, k2, k4]⟩
          rw [Array.mapM_eq_mapM_toList, Sem.run_map, run_mapM_list (P := P) (w := w) _ _ (l.map fun x => (x.1, x.2.1)) (by simp [hlen]) (by
            intro j fd y hj hy
            obtain ⟨x, hx, hr⟩ := e1 j fd hj
            rw [List.getElem?_map, hx] at hy
            simp at hy
            subst hy
            exact hr)]
          rfl
        obtain ⟨cur', r1, r2⟩ := fill_sound (fun (i : Nat) => (l[i]?).map fun (x : Nat × Nat × Bool) => (x.1, x.2.1)) _ (parts.toList.map fun (x : Nat × Operand) => (x.1, a.eval x.2)) _ z.cells _ hz (by simp) hparts ho
        refine ⟨.agg cur', ?_, by simpa using r2.1.agg, rfl⟩
        simp only [execOp, Instr.build, Sem.run_bind, hzv, Result.andThen_ok, run_underlying hu, hmap]
        have e : (fun (i : Nat) => (l.map fun (x : Nat × Nat × Bool) => (x.1, x.2.1)).toArray[i]?) = (fun (i : Nat) => (l[i]?).map fun (x : Nat × Nat × Bool) => (x.1, x.2.1)) := by
          funext i; simp
        simp only [e, Array.toList_map, r1]
        rfl
      · rename_i n e k ag hk
        obtain ⟨hu, i', d', e3, e4, e5, e6⟩ := arr_get hty hk
        obtain ⟨out, ho, rfl⟩ := Option.map_eq_some_iff.1 hp
        obtain ⟨cur', r1, r2⟩ := fill_sound (fun i => some (i * k, k)) _ (parts.toList.map fun (x : Nat × Operand) => (x.1, a.eval x.2)) _ z.cells _ hz (by simp) hparts ho
        refine ⟨.agg cur', ?_, by simpa using r2.1.agg, rfl⟩
        simp only [execOp, Instr.build, Sem.run_bind, hzv, Result.andThen_ok, run_underlying hu, run_size e3, e4, Array.toList_map, r1]
        rfl
      · cases hp
    · cases hp
  · rename_i c
    obtain ⟨callee, args, argTypes⟩ := c
    simp only at hp
    split at hp
    case h_2 => cases hp
    split at hp
    case h_2 => cases hp
    rename_i x t ea et
    obtain rfl : args = #[x] := by rw [← Array.toArray_toList (xs := args), ea]
    obtain rfl : argTypes = #[t] := by rw [← Array.toArray_toList (xs := argTypes), et]
    split at hp
    · rename_i ti ht
      have hx := h.ev x
      obtain ⟨i, d, z, g1, g2, g3, g4, g5, g6⟩ := tyI_parts (tab_at hT ht)
      unfold plen at hp
      split at hp
      · rename_i n k cs own e1
        rw [e1] at hx
        split at hp
        · rename_i hk
          cases hp
          obtain ⟨hu, -⟩ := slice_get (tab_at hT ht) hk
          obtain ⟨a', b, off, cap, us, hv, -⟩ := hx.sl_inv
          refine ⟨.int .i64 n, ?_, .val _ rfl, rfl⟩
          simp [execOp, resolve, invoke, builtin, Builtin.len_, run_underlying hu, hv, goInt]
        · cases hp
      · rename_i e1
        rw [e1] at hx
        split at hp
        · rename_i hk
          cases hp
          obtain ⟨hu, -⟩ := slice_get (tab_at hT ht) hk
          have hv := hx.nilsl_inv
          refine ⟨.int .i64 0, ?_, .val _ rfl, rfl⟩
          simp [execOp, resolve, invoke, builtin, Builtin.len_, run_underlying hu, hv, goInt]
        · cases hp
      · rename_i s e1
        rw [e1] at hx
        obtain ⟨hx, -⟩ := hx.val_inv
        split at hp
        · rename_i hk
          cases hp
          refine ⟨.int .i64 s.size, ?_, .val _ rfl, rfl⟩
          simp [execOp, resolve, invoke, builtin, Builtin.len_, run_underlying (kind_str (tab_at hT ht) hk), hx, goInt]
        · cases hp
      · split at hp
        · rename_i n e k ag hk
          cases hp
          obtain ⟨hu, -⟩ := arr_get (tab_at hT ht) hk
          refine ⟨.int .i64 n, ?_, .val _ rfl, rfl⟩
          simp [execOp, resolve, invoke, builtin, Builtin.len_, run_underlying hu, goInt]
        · cases hp
    · cases hp
  · cases hp
end
end Go.Proofs.Ytnjopfjmepbpoaa

/- Pure states: stores, appends, ownership. -/
namespace Go.Proofs.Ytnjopfjmepbpoaa
set_option linter.unusedSimpArgs false
set_option linter.unusedVariables false
set_option linter.unnecessarySimpa false
open Go.RowKit

section
variable {Φ0 : Imm} {W : World} {M : Nat} {Φ : Imm} {μ : Nat → Option Nat} {ω : Nat → Option Who} {σ : PS} {a : Act} {w : World} {P : Program} {T : Tab}

/-- The parts of OwnAt do not depend on who else owns what. -/
theorem OwnAt.step {B : Nat} {p : Who} {n k : Nat} {E : TypeId} {v : Value} (ho : OwnAt B Φ ω w p n k E v) {Φ' : Imm} {ω' : Nat → Option Who} {w' : World} (hk : ∀ g, ω g = some p → w'.heap[g]? = w.heap[g]? ∧ (∀ j, Φ' g j = Φ g j) ∧ ω' g = some p) : OwnAt B Φ' ω' w' p n k E v := by
  rcases ho with ho | ⟨g, cap, cur, h1, h2, h3, h4, h5, h6, h7, h8⟩
  · exact .inl ho
  · obtain ⟨k1, k2, k3⟩ := hk g h7
    exact .inr ⟨g, cap, cur, h1, h2, by rw [k1]; exact h3, h4, h5, h6, k3, fun j hj => by rw [k2]; exact h8 j hj⟩

/-- A store into a variable: cells without marks. -/
theorem RelG.store (h : RelG Φ0 W M Φ μ ω σ a w) {id : Nat} {bs new : List PV} (hb : σ.b id = some bs) {off : Nat} {vs : List Value} (hn : CellsR Φ μ new vs) (hle : off + new.length ≤ bs.length) {g : Nat} (hg : μ id = some g) :
    ∃ w', (storeCells ⟨g, off, none⟩ vs).run P w = .ok () w' ∧ RelG Φ0 W M Φ μ ω { σ with b := upd σ.b id (some (splice bs off new)) } a w' := by
  obtain ⟨g', cur, Ty, h1, h2, h3, h4, h5, h6, h7⟩ := h.box id bs hb
  rw [hg] at h1; cases h1
  have hl := hn.1.1
  have hcl : cur.toList.length = bs.length := by simpa using h6
  have hrun := run_storeCells_at P g off Ty vs 0 cur w h2 (by omega) hn.2.1
  rw [Nat.add_zero] at hrun
  refine ⟨_, hrun, ?_⟩
  have hlt : g < w.heap.size := (Array.getElem?_eq_some_iff.1 h2).1
  have hkeep : ∀ q : Who, q ≠ .box id → ∀ g', ω g' = some q → (w.setRow g (cur.toList.take off ++ vs ++ cur.toList.drop (off + vs.length)).toArray).heap[g']? = w.heap[g']? ∧ (∀ j, Φ g' j = Φ g' j) ∧ ω g' = some q := by
    intro q hq g' e
    refine ⟨setRow_other w g g' _ ?_, fun _ => rfl, e⟩
    rintro rfl
    rw [h4] at e; cases e; exact hq rfl
  refine ⟨?_, h.defers, h.size, ?_, h.old, h.tmps, fun t n k cs E e => (h.own t n k cs E e).step (hkeep _ (by simp)), ?_, ?_, fun g' p e => by simpa using h.lt g' p e⟩
  · exact h.below.trans ⟨rfl, rfl, rfl, by simp, fun k hk => setRow_other w g k _ (by omega)⟩
  · intro b o u e
    have hbg : b ≠ g := by rintro rfl; rw [h5] at e; cases e
    have := h.imm b o u e
    simp only [World.cell?] at this ⊢
    rw [setRow_other w g b _ hbg]; exact this
  · intro i bs' e
    by_cases hi : i = id
    · subst hi
      simp only [upd_if, if_true] at e
      cases e
      have hbl : (splice bs off new).length = bs.length := by simp only [splice, List.length_append, List.length_take, List.length_drop]; omega
      refine ⟨g, _, Ty, hg, setRow_heap w g cur _ Ty _ h2, h3, h4, h5, by rw [hbl, ← h6]; simp only [List.size_toArray, List.length_append, List.length_take, List.length_drop, Array.length_toList]; omega, ?_⟩
      intro j c hc
      unfold splice at hc
      by_cases j1 : j < off
      · rw [List.append_assoc, List.getElem?_append_left (by rw [List.length_take]; omega), List.getElem?_take, if_pos j1] at hc
        obtain ⟨u, r1, r2, r3, r4⟩ := h7 j c hc
        refine ⟨u, ?_, r2, r3, fun n k cs E e => (r4 n k cs E e).step (hkeep _ (by simp))⟩
        rw [List.getElem?_toArray, List.append_assoc, List.getElem?_append_left (by rw [List.length_take]; omega), List.getElem?_take, if_pos j1]
        simpa using r1
      · by_cases j2 : j < off + new.length
        · rw [List.append_assoc, List.getElem?_append_right (by rw [List.length_take]; omega), List.length_take, List.getElem?_append_left (by omega), show min off bs.length = off by omega] at hc
          obtain ⟨u, hu, hru⟩ := hn.1.get hc
          refine ⟨u, ?_, hn.2.1 u (mem_of_get hu), hru, fun n k cs E e => ?_⟩
          · rw [List.getElem?_toArray, List.append_assoc, List.getElem?_append_right (by rw [List.length_take]; omega), List.length_take, List.getElem?_append_left (by omega), show min off cur.toList.length = off by omega]
            exact hu
          · have := hn.2.2 c (mem_of_get hc)
            rw [e] at this; simp [PV.ownB] at this
        · rw [List.getElem?_append_right (by rw [List.length_append, List.length_take]; omega), List.length_append, List.length_take, List.getElem?_drop, show off + new.length + (j - (min off bs.length + new.length)) = j by omega] at hc
          obtain ⟨u, r1, r2, r3, r4⟩ := h7 j c hc
          refine ⟨u, ?_, r2, r3, fun n k cs E e => (r4 n k cs E e).step (hkeep _ (by simp))⟩
          rw [List.getElem?_toArray, List.getElem?_append_right (by rw [List.length_append, List.length_take]; omega), List.length_append, List.length_take, List.getElem?_drop, show off + vs.length + (j - (min off cur.toList.length + vs.length)) = j by omega]
          simpa using r1
    · simp only [upd_if, if_neg hi] at e
      obtain ⟨g2, cur2, T2, k1, k2, k3, k4, k5, k6, k7⟩ := h.box i bs' e
      have hne : (Who.box i) ≠ .box id := by simp [hi]
      refine ⟨g2, cur2, T2, k1, by rw [(hkeep _ hne g2 k4).1]; exact k2, k3, k4, k5, k6, fun j c hc => ?_⟩
      obtain ⟨u, r1, r2, r3, r4⟩ := k7 j c hc
      exact ⟨u, r1, r2, r3, fun n k cs E e => (r4 n k cs E e).step (hkeep _ (by simp))⟩
  · intro i e
    by_cases hi : i = id
    · subst hi; simp [upd_if] at e
    · simp only [upd_if, if_neg hi] at e; exact h.gone i e

/-- A slice of one's own goes from a slot into another. -/
theorem RelG.moveOwn (h : RelG Φ0 W M Φ μ ω σ a w) {s d : Nat} (hd : d < M) {n k : Nat} {cs : List PV} {E : TypeId} (hs : σ.t s = .sl n k cs (some E)) :
    ∃ ω', RelG Φ0 W M Φ μ ω' { σ with t := upd (upd σ.t s (σ.t s).bare) d (σ.t s) } (a.put (some d) (a.tmps.getD s undef)) w := by
  have hd' : d < a.tmps.size := by rw [h.size]; exact hd
  have ho := h.own s n k cs E hs
  have hr := h.tmps s
  have key : ∀ ω' : Nat → Option Who, (∀ g p, ω g = some p → p ≠ .tmp s → ω' g = some p) → (∀ g p, ω' g = some p → g < w.heap.size) → OwnAt W.heap.size Φ ω' w (.tmp d) n k E (a.tmps.getD s undef) →
      RelG Φ0 W M Φ μ ω' { σ with t := upd (upd σ.t s (σ.t s).bare) d (σ.t s) } (a.put (some d) (a.tmps.getD s undef)) w := by
    intro ω' hω hlt ho'
    have hstep : ∀ q n k E v, q ≠ .tmp s → OwnAt W.heap.size Φ ω w q n k E v → OwnAt W.heap.size Φ ω' w q n k E v := fun q n k E v hq hh => hh.step (fun g e => ⟨rfl, fun _ => rfl, hω g q e hq⟩)
    refine ⟨h.below, h.defers, by simp [Act.put, h.size], h.imm, h.old, fun t => ?_, fun t n' k' cs' E' e => ?_, fun id bs e => ?_, h.gone, hlt⟩
    · rw [getD_put _ _ _ _ hd']
      simp only [upd_if]
      by_cases ht : t = d
      · simp only [if_pos ht]; exact hr
      · simp only [if_neg ht]
        by_cases hts : t = s
        · subst hts; simp only [if_true]; exact hr.bare
        · simp only [if_neg hts]; exact h.tmps t
    · rw [getD_put _ _ _ _ hd']
      simp only [upd_if] at e
      by_cases ht : t = d
      · simp only [if_pos ht] at e ⊢
        rw [hs] at e; cases e
        subst ht; exact ho'
      · simp only [if_neg ht] at e ⊢
        by_cases hts : t = s
        · simp only [if_pos hts] at e
          have := PV.bare_own (σ.t s); rw [e] at this; simp [PV.ownB] at this
        · simp only [if_neg hts] at e
          exact hstep _ _ _ _ _ (by simp [hts]) (h.own t n' k' cs' E' e)
    · obtain ⟨g, cur, Ty, h1, h2, h3, h4, h5, h6, h7⟩ := h.box id bs e
      refine ⟨g, cur, Ty, h1, h2, h3, hω g _ h4 (by simp), h5, h6, fun j c hc => ?_⟩
      obtain ⟨u, r1, r2, r3, r4⟩ := h7 j c hc
      exact ⟨u, r1, r2, r3, fun n k cs E e => hstep _ _ _ _ _ (by simp) (r4 n k cs E e)⟩
  rcases ho with ⟨ho, hn⟩ | ⟨g, cap, cur, h1, h2, h3, h4, h5, h6, h7, h8⟩
  · exact ⟨ω, key ω (fun g p e _ => e) h.lt (.inl ⟨ho, hn⟩)⟩
  · refine ⟨upd ω g (some (.tmp d)), key _ ?_ ?_ (.inr ⟨g, cap, cur, h1, h2, h3, h4, h5, h6, by simp [upd_if], h8⟩)⟩
    · intro g' p e hp
      simp only [upd_if]
      rw [if_neg (by rintro rfl; rw [h7] at e; cases e; exact hp rfl)]
      exact e
    · intro g' p e
      simp only [upd_if] at e
      split at e
      · subst g'; exact (Array.getElem?_eq_some_iff.1 h3).1
      · exact h.lt g' p e

end
end Go.Proofs.Ytnjopfjmepbpoaa

/- Pure states: new slices of one's own, appends. -/
namespace Go.Proofs.Ytnjopfjmepbpoaa
set_option linter.unusedSimpArgs false
set_option linter.unusedVariables false
set_option linter.unnecessarySimpa false
open Go.RowKit

section
variable {Φ0 : Imm} {W : World} {M : Nat} {Φ : Imm} {μ : Nat → Option Nat} {ω : Nat → Option Who} {σ : PS} {a : Act} {w : World} {P : Program} {T : Tab}

/-- A new slice, which may be appended to. -/
theorem RelG.newOwn (h : RelG Φ0 W M Φ μ ω σ a w) {d : Nat} (hd : d < M) {N k cap : Nat} {L : List PV} {cur : Array Value} {e : TypeId} (hL : L.length = N * k) (hr : RepL Φ μ L (cur.toList.take (N * k))) (hN : N ≤ cap) (hcap : cap ≤ maxLen) (hcur : cur.size = cap * k) :
    ∃ Φ' ω', RelG Φ0 W M Φ' μ ω' (σ.put d (.sl N k L (some e))) (a.put (some d) (.slice (some ⟨w.heap.size, 0, none⟩) N cap)) (w.alloc (.cells cur e)) ∧ (∀ b o u, Φ b o = some u → Φ' b o = some u) := by
  have hW := h.below.size
  have hd' : d < a.tmps.size := by rw [h.size]; exact hd
  have h1 := h.row (cur.toList.take (N * k)).toArray e
  -- the same memory, but for the spare cells
  let Φ' : Imm := immRow Φ w.heap.size (cur.toList.take (N * k)).toArray
  have hsub : ∀ b o u, Φ b o = some u → Φ' b o = some u := by
    intro b o u e; show immRow _ _ _ b o = _; unfold immRow; rw [if_neg (by have := h.fresh e; omega)]; exact e
  have hrow : ∀ j, Φ' w.heap.size j = (cur.toList.take (N * k))[j]? := by intro j; show immRow _ _ _ _ _ = _; simp [immRow]
  have h2 : RelG Φ0 W M Φ' μ ω σ a (w.alloc (.cells cur e)) := by
    refine h.grow (h.below.alloc hW _) ?_ ?_ hsub ?_ (by simp)
    · intro b o u hu
      by_cases hb : b = w.heap.size
      · subst hb
        rw [hrow, List.getElem?_take] at hu
        rw [cell_alloc_new]
        split at hu
        · simpa using hu
        · cases hu
      · have hu' : Φ b o = some u := by
          have : Φ' b o = Φ b o := by show immRow _ _ _ b o = _; simp [immRow, hb]
          rw [← this]; exact hu
        rw [cell_alloc_old _ _ _ _ (h.fresh hu')]; exact h.imm b o u hu'
    · intro b o hb; show immRow _ _ _ b o = _; unfold immRow; rw [if_neg (by omega)]
    · intro g p hg
      have := h.lt g p hg
      exact ⟨Below.heap_alloc _ _ _ this, fun j => by show immRow _ _ _ g j = _; unfold immRow; rw [if_neg (by omega)]⟩
  refine ⟨Φ', upd ω w.heap.size (some (.tmp d)), ?_, hsub⟩
  have hω : ∀ g p, ω g = some p → upd ω w.heap.size (some (.tmp d)) g = some p := by
    intro g p e
    simp only [upd_if]; rw [if_neg (by have := h.lt g p e; omega)]; exact e
  have hstep : ∀ q n k E v, OwnAt W.heap.size Φ' ω (w.alloc (.cells cur e)) q n k E v → OwnAt W.heap.size Φ' (upd ω w.heap.size (some (.tmp d))) (w.alloc (.cells cur e)) q n k E v := fun q n k E v hh => hh.step (fun g e => ⟨rfl, fun _ => rfl, hω g q e⟩)
  refine ⟨h2.below, h2.defers, by simp [Act.put, h.size], h2.imm, h2.old, fun t => ?_, fun t n' k' cs' E' et => ?_, fun id bs eb => ?_, h2.gone, ?_⟩
  · rw [getD_put _ _ _ _ hd']
    simp only [PS.put, upd_if]
    by_cases ht : t = d
    · simp only [if_pos ht]
      refine .sl N k L _ w.heap.size 0 cap (fun j => (cur.toList.take (N * k)).getD j undef) hL hN hcap (fun j hj => ?_) (fun j c hc => ?_)
      · rw [Nat.zero_add, hrow]
        have : j < (cur.toList.take (N * k)).length := by rw [hr.1]; exact hj
        rw [List.getD_eq_getElem?_getD, List.getElem?_eq_getElem this]; rfl
      · exact (hr.mono hsub (fun _ _ e => e)).us j c hc
    · simp only [if_neg ht]; exact h2.tmps t
  · rw [getD_put _ _ _ _ hd']
    simp only [PS.put, upd_if] at et
    by_cases ht : t = d
    · simp only [if_pos ht] at et ⊢
      cases et
      subst ht
      refine .inr ⟨w.heap.size, cap, cur, rfl, hW, heap_alloc_new w _, hN, hcap, hcur, by simp [upd_if], fun j hj => ?_⟩
      rw [hrow, List.getElem?_eq_none (by rw [List.length_take]; omega)]
    · simp only [if_neg ht] at et ⊢
      exact hstep _ _ _ _ _ (h2.own t n' k' cs' E' et)
  · obtain ⟨g, cur', Ty, h1, h2', h3, h4, h5, h6, h7⟩ := h2.box id bs eb
    refine ⟨g, cur', Ty, h1, h2', h3, hω g _ h4, h5, h6, fun j c hc => ?_⟩
    obtain ⟨u, r1, r2, r3, r4⟩ := h7 j c hc
    exact ⟨u, r1, r2, r3, fun n k cs E e => hstep _ _ _ _ _ (r4 n k cs E e)⟩
  · intro g p eg
    simp only [upd_if] at eg
    split at eg
    · subst g; simp
    · have := h.lt g p eg; simp; omega

/-- An append that stays in its block. -/
theorem RelG.appendIn (h : RelG Φ0 W M Φ μ ω σ a w) {s d : Nat} (hd : d < M) {n m k cap g : Nat} {cs ds : List PV} {e : TypeId} {cur : Array Value} {news : List Value} (hs : σ.t s = .sl n k cs (some e))
    (hv : a.tmps.getD s undef = .slice (some ⟨g, 0, none⟩) n cap) (hg : w.heap[g]? = some (.cells cur e (0, 0))) (hroom : n + m ≤ cap) (hcur : cur.size = cap * k) (hω : ω g = some (.tmp s)) (hfree : ∀ j, n * k ≤ j → Φ g j = none) (hB : W.heap.size ≤ g) (hcap : cap ≤ maxLen)
    (hds : ds.length = m * k) (hn : RepL Φ μ ds news) :
    ∃ Φ' ω', RelG Φ0 W M Φ' μ ω' { σ with t := upd (upd σ.t s (σ.t s).bare) d (.sl (n + m) k (cs ++ ds) (some e)) } (a.put (some d) (.slice (some ⟨g, 0, none⟩) (n + m) cap)) (w.setRow g (cur.toList.take (n * k) ++ news ++ cur.toList.drop (n * k + news.length)).toArray) := by
  have hd' : d < a.tmps.size := by rw [h.size]; exact hd
  have hr := h.tmps s
  rw [hs, hv] at hr
  have hcs : cs.length = n * k := by
    obtain ⟨_, _, _, _, _, _, _, _, h3, _⟩ := hr.sl_inv; exact h3
  have hnk : (n + m) * k ≤ cap * k := Nat.mul_le_mul_right _ hroom
  rw [Nat.add_mul] at hnk
  have hnl := hn.1
  -- the old cells
  have hold : RepL Φ μ cs (cur.toList.take (n * k)) := by
    refine ⟨by rw [List.length_take, Array.length_toList, hcs]; omega, fun j c u hc hu => ?_⟩
    have hj : j < n * k := by rw [← hcs]; exact (List.getElem?_eq_some_iff.1 hc).1
    cases hr with
    | sl0 => rw [List.getElem?_nil] at hc; cases hc
    | sl _ _ _ _ _ _ _ us _ _ _ hp hrr =>
      have h1 := h.imm _ _ _ (hp j (by omega))
      rw [List.getElem?_take, if_pos hj] at hu
      simp only [World.cell?, hg, Nat.zero_add] at h1
      have : u = us j := by
        have hu' : cur[j]? = some u := by simpa using hu
        rw [hu'] at h1; simpa using h1
      rw [this]; exact hrr j c hc
  let all : List Value := cur.toList.take (n * k) ++ news
  have hall : all.length = (n + m) * k := by show (cur.toList.take (n * k) ++ news).length = _; rw [List.length_append, List.length_take, Array.length_toList, hnl, hds, Nat.add_mul]; omega
  have hrep : RepL Φ μ (cs ++ ds) all := by
    refine ⟨by rw [hall, List.length_append, hcs, hds, Nat.add_mul], fun j c u hc hu => ?_⟩
    by_cases hj : j < n * k
    · rw [List.getElem?_append_left (by omega)] at hc
      rw [List.getElem?_append_left (by rw [List.length_take, Array.length_toList]; omega)] at hu
      exact hold.2 j c u hc hu
    · rw [List.getElem?_append_right (by omega), hcs] at hc
      rw [List.getElem?_append_right (by rw [List.length_take, Array.length_toList]; omega), List.length_take, Array.length_toList, show min (n * k) cur.size = n * k by omega] at hu
      exact hn.2 _ c u hc hu
  let Φ' : Imm := fun b o => if b = g then all[o]? else Φ b o
  have hrow : ∀ j, Φ' g j = all[j]? := by intro j; show (if _ then _ else _) = _; simp
  have hoth : ∀ b j, b ≠ g → Φ' b j = Φ b j := by intro b j hb; show (if _ then _ else _) = _; simp [hb]
  have hsub : ∀ b o u, Φ b o = some u → Φ' b o = some u := by
    intro b o u eu
    by_cases hb : b = g
    · subst hb
      rw [hrow]
      have ho : o < n * k := by
        rcases Nat.lt_or_ge o (n * k) with hlt | hge
        · exact hlt
        · rw [hfree o hge] at eu; cases eu
      have h1 := h.imm b o u eu
      simp only [World.cell?, hg] at h1
      show (cur.toList.take (n * k) ++ news)[o]? = _
      rw [List.getElem?_append_left (by rw [List.length_take, Array.length_toList]; omega), List.getElem?_take, if_pos ho]
      simpa using h1
    · rw [hoth b o hb]; exact eu
  have hlt : g < w.heap.size := (Array.getElem?_eq_some_iff.1 hg).1
  have hω' : ∀ g' p, ω g' = some p → p ≠ .tmp s → upd ω g (some (.tmp d)) g' = some p := by
    intro g' p eg hp
    simp only [upd_if]
    rw [if_neg (by rintro rfl; rw [hω] at eg; cases eg; exact hp rfl)]
    exact eg
  have hstep : ∀ q n' k' E v, q ≠ .tmp s → OwnAt W.heap.size Φ ω w q n' k' E v → OwnAt W.heap.size Φ' (upd ω g (some (.tmp d))) (w.setRow g (cur.toList.take (n * k) ++ news ++ cur.toList.drop (n * k + news.length)).toArray) q n' k' E v := by
    intro q n' k' E v hq hh
    refine hh.step (fun g' eg => ?_)
    have hne : g' ≠ g := by rintro rfl; rw [hω] at eg; cases eg; exact hq rfl
    exact ⟨setRow_other w g g' _ hne, fun j => hoth g' j hne, hω' g' q eg hq⟩
  refine ⟨Φ', upd ω g (some (.tmp d)), ?_, h.defers, by simp [Act.put, h.size], ?_, ?_, fun t => ?_, fun t n' k' cs' E' et => ?_, fun id bs eb => ?_, h.gone, ?_⟩
  · exact h.below.trans ⟨rfl, rfl, rfl, by simp, fun j hj => setRow_other w g j _ (by omega)⟩
  · intro b o u eu
    by_cases hb : b = g
    · subst hb
      rw [cell_setRow_same w b o cur _ e _ hg, List.getElem?_toArray]
      rw [hrow] at eu
      rw [List.getElem?_append_left (by have := (List.getElem?_eq_some_iff.1 eu).1; exact this)]
      exact eu
    · rw [hoth b o hb] at eu
      have := h.imm b o u eu
      simp only [World.cell?] at this ⊢
      rw [setRow_other w g b _ hb]; exact this
  · intro b o hb
    rw [hoth b o (by omega)]; exact h.old b o hb
  · rw [getD_put _ _ _ _ hd']
    simp only [upd_if]
    by_cases ht : t = d
    · simp only [if_pos ht]
      refine .sl (n + m) k _ _ g 0 cap (fun j => all.getD j undef) (by rw [List.length_append, hcs, hds, Nat.add_mul]) hroom hcap (fun j hj => ?_) (fun j c hc => ?_)
      · rw [Nat.zero_add, hrow]
        have : j < all.length := by rw [hrep.1]; exact hj
        rw [List.getD_eq_getElem?_getD, List.getElem?_eq_getElem this]; rfl
      · exact (hrep.mono hsub (fun _ _ e => e)).us j c hc
    · simp only [if_neg ht]
      by_cases hts : t = s
      · subst hts; simp only [if_true]; exact ((h.tmps t).mono hsub (fun _ _ e => e)).bare
      · simp only [if_neg hts]; exact (h.tmps t).mono hsub (fun _ _ e => e)
  · rw [getD_put _ _ _ _ hd']
    simp only [upd_if] at et
    by_cases ht : t = d
    · simp only [if_pos ht] at et ⊢
      cases et
      subst ht
      refine .inr ⟨g, cap, _, rfl, hB, setRow_heap w g cur _ e _ hg, hroom, hcap, ?_, by simp [upd_if], fun j hj => ?_⟩
      · simp only [List.size_toArray, List.length_append, List.length_take, List.length_drop, Array.length_toList]; omega
      · rw [hrow, List.getElem?_eq_none (by omega)]
    · simp only [if_neg ht] at et ⊢
      by_cases hts : t = s
      · simp only [if_pos hts] at et
        have := PV.bare_own (σ.t s); rw [et] at this; simp [PV.ownB] at this
      · simp only [if_neg hts] at et
        exact hstep _ _ _ _ _ (by simp [hts]) (h.own t n' k' cs' E' et)
  · obtain ⟨g2, cur', Ty, h1, h2', h3, h4, h5, h6, h7⟩ := h.box id bs eb
    have hne : g2 ≠ g := by rintro rfl; rw [hω] at h4; cases h4
    refine ⟨g2, cur', Ty, h1, by rw [setRow_other w g g2 _ hne]; exact h2', h3, hω' g2 _ h4 (by simp), fun j => by rw [hoth g2 j hne]; exact h5 j, h6, fun j c hc => ?_⟩
    obtain ⟨u, r1, r2, r3, r4⟩ := h7 j c hc
    exact ⟨u, r1, r2, r3.mono hsub (fun _ _ e => e), fun n k cs E e => hstep _ _ _ _ _ (by simp) (r4 n k cs E e)⟩
  · intro g' p eg
    simp only [upd_if] at eg
    split at eg
    · subst g'; simpa using hlt
    · simpa using h.lt g' p eg
end
end Go.Proofs.Ytnjopfjmepbpoaa

/- Pure states: slices of one's own in variables. -/
namespace Go.Proofs.Ytnjopfjmepbpoaa
set_option linter.unusedSimpArgs false
set_option linter.unusedVariables false
set_option linter.unnecessarySimpa false
open Go.RowKit

section
variable {Φ0 : Imm} {W : World} {M : Nat} {Φ : Imm} {μ : Nat → Option Nat} {ω : Nat → Option Who} {σ : PS} {a : Act} {w : World} {P : Program} {T : Tab}

theorem set_get {α : Type} {l : List α} {i j : Nat} {x c : α} (h : (l.set i x)[j]? = some c) : (j = i ∧ c = x) ∨ (j ≠ i ∧ l[j]? = some c) := by
  rw [List.getElem?_set] at h
  by_cases e : i = j
  · subst e
    rw [if_pos rfl] at h
    split at h
    · simp at h; exact .inl ⟨rfl, h.symm⟩
    · cases h
  · rw [if_neg e] at h; exact .inr ⟨fun x => e x.symm, h⟩

/-- What a slot owns goes into a variable that holds the same. -/
theorem RelG.give (h : RelG Φ0 W M Φ μ ω σ a w) {s id off n k g : Nat} {cs : List PV} {E : TypeId} {bs : List PV} (hs : σ.t s = .sl n k cs (some E)) (hb : σ.b id = some bs) (ho : bs[off]? = some (.sl n k cs none)) (hg : μ id = some g) (hc : w.cell? ⟨g, off, none⟩ = some (a.tmps.getD s undef)) :
    ∃ ω', RelG Φ0 W M Φ μ ω' { t := upd σ.t s (σ.t s).bare, b := upd σ.b id (some (bs.set off (.sl n k cs (some E)))) } a w := by
  have hown := h.own s n k cs E hs
  have key : ∀ ω' : Nat → Option Who, (∀ g p, ω g = some p → p ≠ .tmp s → ω' g = some p) → (∀ g p, ω' g = some p → g < w.heap.size) → OwnAt W.heap.size Φ ω' w (.cell id off) n k E (a.tmps.getD s undef) →
      RelG Φ0 W M Φ μ ω' { t := upd σ.t s (σ.t s).bare, b := upd σ.b id (some (bs.set off (.sl n k cs (some E)))) } a w := by
    intro ω' hω hlt ho'
    have hstep : ∀ q n k E v, q ≠ .tmp s → OwnAt W.heap.size Φ ω w q n k E v → OwnAt W.heap.size Φ ω' w q n k E v := fun q n k E v hq hh => hh.step (fun g e => ⟨rfl, fun _ => rfl, hω g q e hq⟩)
    have h1 := h.strip s
    refine ⟨h.below, h.defers, h.size, h.imm, h.old, h1.tmps, fun t n' k' cs' E' e => ?_, fun i bs' e => ?_, fun i e => ?_, hlt⟩
    · by_cases ht : t = s
      · subst ht
        simp only [upd_if, if_true] at e
        have := PV.bare_own (σ.t t); rw [e] at this; simp [PV.ownB] at this
      · simp only [upd_if, if_neg ht] at e
        exact hstep _ _ _ _ _ (by simp [ht]) (h.own t n' k' cs' E' e)
    · by_cases hi : i = id
      · subst hi
        simp only [upd_if, if_true] at e
        cases e
        obtain ⟨g', cur, Ty, h1, h2, h3, h4, h5, h6, h7⟩ := h.box i bs hb
        rw [hg] at h1; cases h1
        refine ⟨g, cur, Ty, hg, h2, h3, hω g _ h4 (by simp), h5, by simpa using h6, fun j c hcj => ?_⟩
        rcases set_get hcj with ⟨rfl, rfl⟩ | ⟨hne, hcj⟩
        · obtain ⟨u, r1, r2, r3, r4⟩ := h7 j _ ho
          have hu : u = a.tmps.getD s undef := by
            simp only [World.cell?, h2] at hc
            have hc' : cur[j]? = some (a.tmps.getD s undef) := by simpa using hc
            rw [r1] at hc'; simpa using hc'
          refine ⟨u, r1, r2, ?_, fun n' k' cs' E' e => ?_⟩
          · have := h.tmps s; rw [hs, ← hu] at this; exact this
          · cases e; rw [hu]; exact ho'
        · obtain ⟨u, r1, r2, r3, r4⟩ := h7 j c hcj
          exact ⟨u, r1, r2, r3, fun n k cs E e => hstep _ _ _ _ _ (by simp) (r4 n k cs E e)⟩
      · simp only [upd_if, if_neg hi] at e
        obtain ⟨g', cur, Ty, h1, h2, h3, h4, h5, h6, h7⟩ := h.box i bs' e
        refine ⟨g', cur, Ty, h1, h2, h3, hω g' _ h4 (by simp), h5, h6, fun j c hcj => ?_⟩
        obtain ⟨u, r1, r2, r3, r4⟩ := h7 j c hcj
        exact ⟨u, r1, r2, r3, fun n k cs E e => hstep _ _ _ _ _ (by simp) (r4 n k cs E e)⟩
    · by_cases hi : i = id
      · subst hi; simp [upd_if] at e
      · simp only [upd_if, if_neg hi] at e; exact h.gone i e
  rcases hown with ⟨hn, hn0⟩ | ⟨g', cap, cur, h1, h2, h3, h4, h5, h6, h7, h8⟩
  · exact ⟨ω, key ω (fun g p e _ => e) h.lt (.inl ⟨hn, hn0⟩)⟩
  · refine ⟨upd ω g' (some (.cell id off)), key _ ?_ ?_ (.inr ⟨g', cap, cur, h1, h2, h3, h4, h5, h6, by simp [upd_if], h8⟩)⟩
    · intro g'' p e hp
      simp only [upd_if]
      rw [if_neg (by rintro rfl; rw [h7] at e; cases e; exact hp rfl)]
      exact e
    · intro g'' p e
      simp only [upd_if] at e
      split at e
      · subst g''; exact (Array.getElem?_eq_some_iff.1 h3).1
      · exact h.lt g'' p e

/-- What a variable owns goes into a slot. -/
theorem RelG.fetch (h : RelG Φ0 W M Φ μ ω σ a w) {d id off n k g : Nat} (hd : d < M) {cs : List PV} {E : TypeId} {bs : List PV} (hb : σ.b id = some bs) (ho : bs[off]? = some (.sl n k cs (some E))) (hg : μ id = some g) :
    ∃ u ω', w.cell? ⟨g, off, none⟩ = some u ∧ RelG Φ0 W M Φ μ ω' { t := upd σ.t d (.sl n k cs (some E)), b := upd σ.b id (some (bs.set off (.sl n k cs none))) } (a.put (some d) u) w := by
  have hd' : d < a.tmps.size := by rw [h.size]; exact hd
  obtain ⟨g', cur, Ty, b1, b2, b3, b4, b5, b6, b7⟩ := h.box id bs hb
  rw [hg] at b1; cases b1
  obtain ⟨u, r1, r2, r3, r4⟩ := b7 off _ ho
  have hown := r4 n k cs E rfl
  have hcell : w.cell? ⟨g, off, none⟩ = some u := by simp [World.cell?, b2, r1]
  have key : ∀ ω' : Nat → Option Who, (∀ g p, ω g = some p → p ≠ .cell id off → ω' g = some p) → (∀ g p, ω' g = some p → g < w.heap.size) → OwnAt W.heap.size Φ ω' w (.tmp d) n k E u →
      RelG Φ0 W M Φ μ ω' { t := upd σ.t d (.sl n k cs (some E)), b := upd σ.b id (some (bs.set off (.sl n k cs none))) } (a.put (some d) u) w := by
    intro ω' hω hlt ho'
    have hstep : ∀ q n k E v, q ≠ .cell id off → OwnAt W.heap.size Φ ω w q n k E v → OwnAt W.heap.size Φ ω' w q n k E v := fun q n k E v hq hh => hh.step (fun g e => ⟨rfl, fun _ => rfl, hω g q e hq⟩)
    refine ⟨h.below, h.defers, by simp [Act.put, h.size], h.imm, h.old, fun t => ?_, fun t n' k' cs' E' e => ?_, fun i bs' e => ?_, fun i e => ?_, hlt⟩
    · rw [getD_put _ _ _ _ hd']
      by_cases ht : t = d
      · simp only [upd_if, if_pos ht]; exact r3
      · simp only [upd_if, if_neg ht]; exact h.tmps t
    · rw [getD_put _ _ _ _ hd']
      by_cases ht : t = d
      · simp only [upd_if, if_pos ht] at e ⊢
        cases e
        subst ht; exact ho'
      · simp only [upd_if, if_neg ht] at e ⊢
        exact hstep _ _ _ _ _ (by simp) (h.own t n' k' cs' E' e)
    · by_cases hi : i = id
      · subst hi
        simp only [upd_if, if_true] at e
        cases e
        refine ⟨g, cur, Ty, hg, b2, b3, hω g _ b4 (by simp), b5, by simpa using b6, fun j c hcj => ?_⟩
        rcases set_get hcj with ⟨rfl, rfl⟩ | ⟨hne, hcj⟩
        · exact ⟨u, r1, r2, r3.bare, fun n' k' cs' E' e => by cases e⟩
        · obtain ⟨u', q1, q2, q3, q4⟩ := b7 j c hcj
          exact ⟨u', q1, q2, q3, fun n k cs E e => hstep _ _ _ _ _ (by simp [hne]) (q4 n k cs E e)⟩
      · simp only [upd_if, if_neg hi] at e
        obtain ⟨g', cur', Ty', h1, h2, h3, h4, h5, h6, h7⟩ := h.box i bs' e
        refine ⟨g', cur', Ty', h1, h2, h3, hω g' _ h4 (by simp), h5, h6, fun j c hcj => ?_⟩
        obtain ⟨u', q1, q2, q3, q4⟩ := h7 j c hcj
        exact ⟨u', q1, q2, q3, fun n k cs E e => hstep _ _ _ _ _ (by simp [hi]) (q4 n k cs E e)⟩
    · by_cases hi : i = id
      · subst hi; simp [upd_if] at e
      · simp only [upd_if, if_neg hi] at e; exact h.gone i e
  rcases hown with ⟨hn, hn0⟩ | ⟨g', cap, cur', h1, h2, h3, h4, h5, h6, h7, h8⟩
  · exact ⟨u, ω, hcell, key ω (fun g p e _ => e) h.lt (.inl ⟨hn, hn0⟩)⟩
  · refine ⟨u, upd ω g' (some (.tmp d)), hcell, key _ ?_ ?_ (.inr ⟨g', cap, cur', h1, h2, h3, h4, h5, h6, by simp [upd_if], h8⟩)⟩
    · intro g'' p e hp
      simp only [upd_if]
      rw [if_neg (by rintro rfl; rw [h7] at e; cases e; exact hp rfl)]
      exact e
    · intro g'' p e
      simp only [upd_if] at e
      split at e
      · subst g''; exact (Array.getElem?_eq_some_iff.1 h3).1
      · exact h.lt g'' p e
end
end Go.Proofs.Ytnjopfjmepbpoaa

/- Pure states: what every operation but a call does. -/
namespace Go.Proofs.Ytnjopfjmepbpoaa
set_option linter.unusedSimpArgs false
set_option linter.unusedVariables false
set_option linter.unnecessarySimpa false
open Go.RowKit

structure Eff where
  v : PV
  bx : Option (Nat × List PV)
  dis : Option Nat

def PS.app (σ : PS) (dst : Option Nat) (e : Eff) : PS where
  t := match dst with
    | some d => upd (match e.dis with | some s => upd σ.t s (σ.t s).bare | none => σ.t) d e.v
    | none => (match e.dis with | some s => upd σ.t s (σ.t s).bare | none => σ.t)
  b := match e.bx with
    | some x => upd σ.b x.1 (some x.2)
    | none => σ.b

def takeE (σ : PS) : Operand → Eff
  | .tmp s => if (σ.t s).ownB then ⟨σ.t s, none, some s⟩ else ⟨(σ.t s).bare, none, none⟩
  | x => ⟨pev σ x, none, none⟩

/-- The slice that is appended to. -/
def asOwn (e k : Nat) : PV → Option (Nat × List PV)
  | .nilsl => some (0, [])
  | .sl n k' cs (some e') => if k' = k ∧ e' = e then some (n, cs) else none
  | _ => none
/-- What is appended. -/
def asSrc (k : Nat) : PV → Option (Nat × List PV)
  | .nilsl => some (0, [])
  | .sl n k' cs _ => if k' = k then some (n, cs) else none
  | _ => none

def ownPV (σ : PS) : Operand → PV
  | .tmp s => σ.t s
  | x => pev σ x
def disOf : Operand → Option Nat
  | .tmp s => some s
  | _ => none

open Classical in
/-- The bounds are not computed (they are of numbers that are not known): they are proved. -/
noncomputable def pappend (e k by_ : Nat) (p q : PV) (s : Option Nat) : Option Eff :=
  match asOwn e k p, asSrc k q with
  | some x, some y => if (x.1 + y.1) * by_ ≤ 140737488355328 ∧ x.1 + y.1 ≤ 140737488355328 ∧ y.2.all PV.one then some ⟨.sl (x.1 + y.1) k (x.2 ++ y.2) (some e), none, s⟩ else none
  | _, _ => none

/-- A load of what is one's own, to be appended to. -/
def ploadO (T : Tab) (hd : Bool) (b : Nat → Option (List PV)) (t : TypeId) : PV → Option Eff
  | .ptr j off => if hd then (match b j with
    | some bs => match bs[off]? with
      | some (.sl n k cs (some E)) => match T.at t with
        | some ti => if ti.agg = false then some ⟨.sl n k cs (some E), some (j, bs.set off (.sl n k cs none)), none⟩ else none
        | none => none
      | _ => none
    | none => none) else none
  | _ => none

noncomputable def presE (T : Tab) (hd : Bool) (id : Nat) (σ : PS) : Op → Option Eff
  | .assign x => some (takeE σ x)
  | .move x => if hd then some (takeE σ x) else some ⟨pev σ x, none, none⟩
  | .alloc e => match T.at e, σ.b id with
    | some ti, none => some ⟨.ptr id 0, some (id, ti.zero), none⟩
    | _, _ => none
  | .box _ x => match pcells (pev σ x), σ.b id with
    | some cs, none => some ⟨.ptr id 0, some (id, cs), none⟩
    | _, _ => none
  | .store t x y => match pev σ x with
    | .ptr j off => if (ownPV σ y).ownB then (match σ.b j, T.at t with
        | some bs, some ti => if ti.size = 1 ∧ off + 1 ≤ bs.length then some ⟨.tup [], some (j, bs.set off (ownPV σ y)), disOf y⟩ else none
        | _, _ => none)
      else match σ.b j, T.at t, pcells (pev σ y) with
      | some bs, some ti, some new => if new.length = ti.size ∧ off + new.length ≤ bs.length then some ⟨.tup [], some (j, splF bs off new), none⟩ else none
      | _, _, _ => none
    | _ => none
  | .load t x => match ploadO T hd σ.b t (pev σ x) with
    | some E => some E
    | none => (pval T σ (.load t x)).map fun v => ⟨v, none, none⟩
  | .buildSlice t len parts => match T.at t with
    | some ti => match ti.kind with
      | .slice e k _ zr => if len * k ≤ 16777216 then (pfill (fun i => some (i * k, k)) ((List.replicate len zr).flatten) (parts.toList.map fun x => (x.1, pev σ x.2))).map fun cs => ⟨.sl len k cs (some e), none, none⟩ else none
      | _ => none
    | none => none
  | .call c => match c.callee with
    | .builtin .append => match c.args.toList, c.argTypes.toList with
      | [s, x], [t, t'] => if t' = t then (match T.at t with
          | some ti => match ti.kind with
            | .slice e k by_ _ => pappend e k by_ (ownPV σ s) (pev σ x) (disOf s)
            | _ => none
          | none => none) else none
      | _, _ => none
    | _ => (pval T σ (.call c)).map fun v => ⟨v, none, none⟩
  | op => (pval T σ op).map fun v => ⟨v, none, none⟩

section
variable {Φ0 : Imm} {W : World} {M : Nat} {Φ : Imm} {μ : Nat → Option Nat} {ω : Nat → Option Who} {σ : PS} {a : Act} {w : World} {P : Program} {T : Tab}

/-- What an operation leaves. -/
def Does (P : Program) (Φ0 : Imm) (W : World) (M : Nat) (a : Act) (w : World) (o : Oper) (σ' : PS) : Prop :=
  ∃ nx v w', (execOp a.eval o).run P w = .ok nx w' ∧ (nx = .value v ∨ nx = .skip ∧ v = undef) ∧ Rel Φ0 W M σ' (a.put o.dst v) w'

theorem does_val (h : RelG Φ0 W M Φ μ ω σ a w) (o : Oper) {d : Nat} (hd : o.dst = some d) (hM : d < M) {p : PV} {v : Value} (hr : (execOp a.eval o).run P w = .ok (.value v) w) (hp : Rep Φ μ p v) (ho : p.ownB = false) :
    Does P Φ0 W M a w o (σ.app o.dst ⟨p, none, none⟩) := by
  refine ⟨_, v, w, hr, .inl rfl, Φ, μ, ω, ?_⟩
  rw [hd]
  exact h.put hM hp ho

theorem does_take (h : RelG Φ0 W M Φ μ ω σ a w) (o : Oper) {d : Nat} (hd : o.dst = some d) (hM : d < M) (x : Operand) (hr : (execOp a.eval o).run P w = .ok (.value (a.eval x)) w) : Does P Φ0 W M a w o (σ.app o.dst (takeE σ x)) := by
  cases x with
  | tmp s =>
    simp only [takeE]
    split
    · rename_i hown
      obtain ⟨n, k, cs, E, hs⟩ : ∃ n k cs E, σ.t s = .sl n k cs (some E) := by
        cases hσ : σ.t s with
        | sl n k cs own => cases own with
          | none => rw [hσ] at hown; simp [PV.ownB] at hown
          | some E => exact ⟨n, k, cs, E, rfl⟩
        | _ => rw [hσ] at hown; simp [PV.ownB] at hown
      obtain ⟨ω', h'⟩ := h.moveOwn hM hs
      refine ⟨_, a.eval (.tmp s), w, hr, .inl rfl, Φ, μ, ω', ?_⟩
      rw [hd]
      exact h'
    · exact does_val h o hd hM hr (h.tmps s).bare (PV.bare_own _)
  | const v => exact does_val h o hd hM hr (h.ev (.const v)) (pev_own σ _)
  | global g => exact does_val h o hd hM hr (h.ev (.global g)) (pev_own σ _)
  | func f => exact does_val h o hd hM hr (h.ev (.func f)) (pev_own σ _)

theorem zero_rows {zr : List PV} {z : Array Value} {k len : Nat} (hk : z.size = k) (hpos : 0 < k) (hr : RepL Φ μ zr z.toList) (hone : ∀ c ∈ z.toList, c.oneCell' = true) (hno : ∀ c ∈ zr, c.ownB = false) :
    CellsR Φ μ ((List.replicate len zr).flatten) ((Array.range (len * k)).map (fun i => z[i % z.size]!)).toList := by
  have hzl : zr.length = k := by rw [← hr.1]; simpa using hk
  have hget : ∀ j, ((List.replicate len zr).flatten)[j]? = if j < len * k then zr[j % k]? else none := by
    induction len with
    | zero => intro j; simp
    | succ len ih =>
      intro j
      rw [List.replicate_succ, List.flatten_cons]
      by_cases hj : j < k
      · rw [List.getElem?_append_left (by omega), if_pos (by rw [Nat.succ_mul]; omega), Nat.mod_eq_of_lt hj]
      · rw [List.getElem?_append_right (by omega), hzl, ih]
        have e1 : (j - k) % k = j % k := by rw [Nat.mod_eq_sub_mod (a := j) (by omega)]
        rw [e1]
        by_cases h1 : j - k < len * k
        · rw [if_pos h1, if_pos (by rw [Nat.succ_mul]; omega)]
        · rw [if_neg h1, if_neg (by rw [Nat.succ_mul]; omega)]
  have hz : ∀ j, j < len * k → ((Array.range (len * k)).map (fun i => z[i % z.size]!)).toList[j]? = z.toList[j % k]? := by
    intro j hj
    have : j % k < z.size := by rw [hk]; exact Nat.mod_lt _ hpos
    simp [hj, hk, this, getElem!_pos]
    rw [getElem!_pos z _ this, Array.getElem?_eq_getElem this]
  refine ⟨⟨?_, fun j c u h1 h2 => ?_⟩, fun u hu => ?_, fun c hc => ?_⟩
  · simp [hzl]
  · rw [hget] at h1
    split at h1
    · rename_i hj
      rw [hz j hj] at h2
      exact hr.2 _ c u h1 h2
    · cases h1
  · obtain ⟨j, hj⟩ := List.getElem?_of_mem hu
    have hlt : j < len * k := by have := (List.getElem?_eq_some_iff.1 hj).1; simpa using this
    rw [hz j hlt] at hj
    exact hone u (mem_of_get hj)
  · obtain ⟨l, hl, hcl⟩ := List.mem_flatten.1 hc
    rw [List.eq_of_mem_replicate hl] at hcl
    exact hno c hcl

theorem parts_rep (h : RelG Φ0 W M Φ μ ω σ a w) (parts : Array (Nat × Operand)) : ∀ (j : Nat) i p i' v, (parts.toList.map fun x => (x.1, pev σ x.2))[j]? = some (i, p) → (parts.toList.map fun x => (x.1, a.eval x.2))[j]? = some (i', v) → i' = i ∧ Rep Φ μ p v := by
  intro j i p i' v h1 h2
  rw [List.getElem?_map] at h1 h2
  obtain ⟨x, hx, e⟩ := Option.map_eq_some_iff.1 h1
  rw [hx] at h2
  simp at h2 e
  obtain ⟨rfl, rfl⟩ := e
  obtain ⟨rfl, rfl⟩ := h2
  exact ⟨rfl, h.ev x.2⟩

theorem does_append (h : RelG Φ0 W M Φ μ ω σ a w) (o : Oper) {d : Nat} (hd : o.dst = some d) (hM : d < M) {s x : Operand} {t : TypeId} (hop : o.op = .call { callee := .builtin .append, args := #[s, x], argTypes := #[t, t] })
    {ti : TyI} (ht : tyI P t = some ti) {e k by_ : Nat} {zr : List PV} (hk : ti.kind = .slice e k by_ zr) {E : Eff} (hp : pappend e k by_ (ownPV σ s) (pev σ x) (disOf s) = some E) : Does P Φ0 W M a w o (σ.app o.dst E) := by
  obtain ⟨hu, i, z, e1, e2, e3, e4, e5, e6, -, -⟩ := slice_get ht hk
  have hrun : ∀ v' w', (Builtin.append_ #[t, t] o.type #[a.eval s, a.eval x]).run P w = .ok v' w' → (execOp a.eval o).run P w = .ok (.value v') w' := by
    intro v' w' hr
    simp only [execOp, hop, resolve, invoke, builtin, Sem.run_bind, Sem.run_pure, Result.andThen_ok, List.map_toArray, List.map_cons, List.map_nil, hr]
  unfold pappend at hp
  split at hp
  case h_2 => cases hp
  rename_i X Y hX hY
  split at hp
  case isFalse => cases hp
  rename_i hc
  obtain ⟨c1, c2, c3⟩ := hc
  cases hp
  obtain ⟨n, cs⟩ := X
  obtain ⟨m, ds⟩ := Y
  simp only at c1 c2 c3
  have hml : n + m ≤ maxLen := by unfold maxLen; omega
  -- what is appended
  have hx : ∃ ad cx news, a.eval x = .slice ad m cx ∧ (0 < m → ∃ adr, ad = some adr ∧ ∀ j u, news[j]? = some u → w.cell? (adr.add j) = some u) ∧ RepL Φ μ ds news ∧ (∀ u ∈ news, u.oneCell' = true) ∧ ds.length = m * k := by
    have hxr := h.ev x
    unfold asSrc at hY
    split at hY
    · rename_i hq
      simp at hY
      obtain ⟨rfl, rfl⟩ := hY
      rw [hq] at hxr
      exact ⟨none, 0, [], hxr.nilsl_inv, fun h => by omega, RepL.nil, by simp, by simp⟩
    · rename_i n' k' cs' own hq
      split at hY
      · rename_i hkk
        subst hkk
        simp at hY
        obtain ⟨rfl, rfl⟩ := hY
        rw [hq] at hxr
        obtain ⟨ad, b, off, cap, us, hv, q1, q2, q3, q4, q5, q6⟩ := hxr.sl_inv
        have hrl := repL_of_us cs' us q6
        refine ⟨ad, cap, _, hv, fun hpos => ⟨_, q4 hpos, ?_⟩, hrl, repL_one hrl c3, q3⟩
        intro j u hj
        rw [Addr.add_lit]
        have hjl : j < cs'.length := by have := (List.getElem?_eq_some_iff.1 hj).1; simpa using this
        simp [hjl] at hj
        subst hj
        exact h.imm _ _ _ (q5 j hjl)
      · cases hY
    · cases hY
  obtain ⟨ad, cx, news, hxv, hxa, hxr, hxo, hdl⟩ := hx
  have hnl : news.length = m * k := by rw [hxr.1, hdl]
  -- a new block
  have fresh : ∀ (v' : Value) (xs : List Value) (cap : Nat) (rest : Array Value), RepL Φ μ cs xs → xs.length = n * k → n + m ≤ cap → cap ≤ maxLen → (xs.toArray ++ news.toArray ++ rest).size = cap * k →
      (Builtin.append_ #[t, t] o.type #[a.eval s, a.eval x]).run P w = .ok (.slice (some ⟨w.heap.size, 0, none⟩) (n + m) cap) (w.drew.alloc (.cells (xs.toArray ++ news.toArray ++ rest) e)) → Does P Φ0 W M a w o (σ.app o.dst ⟨.sl (n + m) k (cs ++ ds) (some e), none, disOf s⟩) := by
    intro v' xs cap rest hxs hxl hcap hcm hsz hr
    have hL : (cs ++ ds).length = (n + m) * k := by rw [List.length_append, ← hxs.1, hxl, hdl, Nat.add_mul]
    have htake : (xs.toArray ++ news.toArray ++ rest).toList.take ((n + m) * k) = xs ++ news := by
      simp only [Array.toList_append]
      rw [← hL, List.length_append, ← hxs.1, ← hxr.1, ← List.length_append]
      exact List.take_left
    have hrep : RepL Φ μ (cs ++ ds) (xs ++ news) := by
      refine ⟨by simp [hxs.1, hxr.1], fun j c u h1 h2 => ?_⟩
      by_cases hj : j < cs.length
      · rw [List.getElem?_append_left hj] at h1
        rw [List.getElem?_append_left (by rw [hxs.1]; exact hj)] at h2
        exact hxs.2 j c u h1 h2
      · rw [List.getElem?_append_right (by omega)] at h1
        rw [List.getElem?_append_right (by rw [hxs.1]; omega), hxs.1] at h2
        exact hxr.2 _ c u h1 h2
    obtain ⟨Φ', ω', h', -⟩ := h.drew.newOwn (d := d) hM (N := n + m) (k := k) (cap := cap) (L := cs ++ ds) (cur := xs.toArray ++ news.toArray ++ rest) (e := e) hL (by rw [htake]; exact hrep) hcap hcm hsz
    refine ⟨_, _, _, hrun _ _ hr, .inl rfl, ?_⟩
    rw [hd]
    cases s with
    | tmp s =>
      have h2 := h'.strip s
      refine ⟨Φ', μ, ω', ?_⟩
      simp only [PS.app, disOf]
      by_cases hsd : s = d
      · subst hsd
        have e9 : upd (upd σ.t s (σ.t s).bare) s (.sl (n + m) k (cs ++ ds) (some e)) = upd σ.t s (.sl (n + m) k (cs ++ ds) (some e)) := by
          funext j; simp only [upd_if]; by_cases hj : j = s <;> simp [hj]
        simp only [e9]
        exact h'
      · have e9 : upd (upd σ.t s (σ.t s).bare) d (.sl (n + m) k (cs ++ ds) (some e)) = upd (upd σ.t d (.sl (n + m) k (cs ++ ds) (some e))) s (σ.t s).bare := upd_comm _ _ _ hsd
        simp only [e9]
        have e10 : (PS.put σ d (.sl (n + m) k (cs ++ ds) (some e))).t s = σ.t s := by simp [PS.put, upd_if, hsd]
        rw [e10] at h2
        exact h2
    | const v => exact ⟨Φ', μ, ω', h'⟩
    | global v => exact ⟨Φ', μ, ω', h'⟩
    | func v => exact ⟨Φ', μ, ω', h'⟩
  -- what is appended to
  have hsrc : (a.eval s = .slice none 0 0 ∧ n = 0 ∧ cs = [] ∧ (ownPV σ s).ownB = false) ∨ (∃ s', s = .tmp s' ∧ σ.t s' = .sl n k cs (some e)) := by
    unfold asOwn at hX
    split at hX
    · rename_i hq
      simp at hX
      obtain ⟨rfl, rfl⟩ := hX
      left
      have : Rep Φ μ .nilsl (a.eval s) := by
        cases s with
        | tmp s' => have := h.tmps s'; simp only [ownPV] at hq; rw [hq] at this; exact this
        | const v => have := h.ev (.const v); simp only [ownPV] at hq; rw [← hq]; exact this
        | global v => have := h.ev (.global v); simp only [ownPV] at hq; rw [← hq]; exact this
        | func v => have := h.ev (.func v); simp only [ownPV] at hq; rw [← hq]; exact this
      exact ⟨this.nilsl_inv, rfl, rfl, by rw [hq]; rfl⟩
    · rename_i n' k' cs' e' hq
      split at hX
      · rename_i hkk
        obtain ⟨rfl, rfl⟩ := hkk
        simp at hX
        obtain ⟨rfl, rfl⟩ := hX
        right
        cases s with
        | tmp s' => exact ⟨s', rfl, hq⟩
        | const v => have := pvC_own v; simp only [ownPV, pev] at hq; rw [hq] at this; simp [PV.ownB] at this
        | global g => simp [ownPV, pev] at hq
        | func f => simp [ownPV, pev] at hq
      · cases hX
    · cases hX
  by_cases hm : m = 0
  · -- nothing is appended
    subst hm
    have hds : ds = [] := List.eq_nil_of_length_eq_zero (by simpa using hdl)
    subst hds
    simp only [Nat.add_zero, List.append_nil]
    rcases hsrc with ⟨hs, rfl, rfl, hno⟩ | ⟨s', rfl, hs⟩
    · refine ⟨_, .slice none 0 0, w, hrun _ _ (by rw [hs, hxv]; exact run_append0 w t _ e i hu e1 none ad 0 0 cx (Nat.le_refl _)), .inl rfl, ?_⟩
      rw [hd]
      have hput : ∀ σ1 : PS, RelG Φ0 W M Φ μ ω σ1 a w → RelG Φ0 W M Φ μ ω (σ1.put d (.sl 0 k [] (some e))) (a.put (some d) (.slice none 0 0)) w := by
        intro σ1 h1
        have h2 := h1.put (p := .nilsl) hM .nilsl rfl
        have h3 := h2.forget (upd (σ1.put d .nilsl).t d (.sl 0 k [] (some e))) (fun u => by
          by_cases hu : u = d
          · subst hu; right; right; right; exact ⟨k, e, by simp [upd_if], by simp [PS.put, upd_if]⟩
          · right; left; simp [upd_if, hu])
        have e' : upd (σ1.put d .nilsl).t d (.sl 0 k [] (some e)) = upd σ1.t d (.sl 0 k [] (some e)) := by
          funext j; simp only [PS.put, upd_if]; by_cases hj : j = d <;> simp [hj]
        rw [e'] at h3
        exact h3
      cases s with
      | tmp s' => exact ⟨Φ, μ, ω, hput _ (h.strip s')⟩
      | const v => exact ⟨Φ, μ, ω, hput _ h⟩
      | global v => exact ⟨Φ, μ, ω, hput _ h⟩
      | func v => exact ⟨Φ, μ, ω, hput _ h⟩
    · have hsv := h.tmps s'
      rw [hs] at hsv
      obtain ⟨ad', b, off, cap, us, hv, q1, -⟩ := hsv.sl_inv
      obtain ⟨ω', h'⟩ := h.moveOwn hM hs
      refine ⟨_, a.eval (.tmp s'), w, hrun _ _ ?_, .inl rfl, Φ, μ, ω', ?_⟩
      · rw [hxv, show a.eval (.tmp s') = .slice ad' n cap from hv]; exact run_append0 w t _ e i hu e1 ad' ad n cap cx q1
      · rw [hd]
        simp only [PS.app, disOf]
        rw [hs] at h' ⊢
        exact h'
  · obtain ⟨adr, rfl, hcells⟩ := hxa (by omega)
    rcases hsrc with ⟨hs, rfl, rfl, hno⟩ | ⟨s', rfl, hs⟩
    · have hr := run_append_nil (P := P) w t o.type e i z hu e1 e2 adr m cx news (by rw [hnl, e3]) hcells (by omega) (by omega) (by rw [e4]; rw [Nat.zero_add] at c1; omega)
      refine fresh undef [] (grownCap w m 0 e) (Builtin.zeroCells z.cells (grownCap w m 0 e - m)) RepL.nil (by simp) ?_ ?_ ?_ ?_
      · rw [Nat.zero_add]; exact grownCap_ge w m 0 e
      · exact grownCap_le_maxLen w m 0 e (by omega)
      rotate_left
      · rw [hs, hxv, Nat.zero_add]
        simpa using hr
      · have hge := grownCap_ge w m 0 e
        simp only [Array.size_append, List.size_toArray, size_zeroCells, hnl, e5, List.length_nil, Nat.zero_add, ← Nat.add_mul]
        congr 1
        omega
    · have ho := h.own s' n k cs e hs
      rcases ho with ⟨hnil, rfl⟩ | ⟨g, cap, cur, hv, hB, hg, q1, q2, q3, q4, q5⟩
      · have hs0 : a.eval (.tmp s') = .slice none 0 0 := hnil
        have hcs : cs = [] := by
          have := h.tmps s'
          rw [hs] at this
          obtain ⟨_, _, _, _, _, _, _, _, h3, _⟩ := this.sl_inv
          exact List.eq_nil_of_length_eq_zero (by simpa using h3)
        subst hcs
        have hr := run_append_nil (P := P) w t o.type e i z hu e1 e2 adr m cx news (by rw [hnl, e3]) hcells (by omega) (by omega) (by rw [e4]; rw [Nat.zero_add] at c1; omega)
        refine fresh undef [] (grownCap w m 0 e) (Builtin.zeroCells z.cells (grownCap w m 0 e - m)) RepL.nil (by simp) ?_ ?_ ?_ ?_
        · rw [Nat.zero_add]; exact grownCap_ge w m 0 e
        · exact grownCap_le_maxLen w m 0 e (by omega)
        rotate_left
        · rw [hs0, hxv, Nat.zero_add]
          simpa using hr
        · have hge := grownCap_ge w m 0 e
          simp only [Array.size_append, List.size_toArray, size_zeroCells, hnl, e5, List.length_nil, Nat.zero_add, ← Nat.add_mul]
          congr 1
          omega
      · have hsv : a.eval (.tmp s') = .slice (some ⟨g, 0, none⟩) n cap := hv
        by_cases hroom : n + m ≤ cap
        · have hfit : n * i.size + news.length ≤ cur.size := by rw [hnl, q3, e3, ← Nat.add_mul]; exact Nat.mul_le_mul_right _ hroom
          have hr := run_append_room (P := P) w t o.type e i hu e1 g n cap cur hg adr m cx news (by rw [hnl, e3]) hcells hxo hroom hfit
          obtain ⟨Φ', ω', h'⟩ := h.appendIn hM hs hv hg hroom q3 q4 q5 hB q2 hdl hxr
          refine ⟨_, _, _, hrun _ _ (by rw [hsv, hxv]; exact hr), .inl rfl, Φ', μ, ω', ?_⟩
          rw [hd, e3]
          exact h'
        · have hsr := h.tmps s'
          rw [hs, hv] at hsr
          have hcsl : cs.length = n * k := by obtain ⟨_, _, _, _, _, _, _, _, h3, _⟩ := hsr.sl_inv; exact h3
          obtain ⟨xs, hxs, hcx⟩ : ∃ xs, RepL Φ μ cs xs ∧ ∀ j u, xs[j]? = some u → w.cell? ((⟨g, 0, none⟩ : Addr).add j) = some u := by
            cases hsr with
            | sl0 => exact ⟨[], RepL.nil, fun j u hj => by simp at hj⟩
            | sl _ _ _ _ _ _ _ us _ _ _ hp hrr =>
              refine ⟨_, repL_of_us cs us hrr, fun j u hj => ?_⟩
              have hjl : j < cs.length := by have := (List.getElem?_eq_some_iff.1 hj).1; simpa using this
              simp [hjl] at hj
              subst hj
              rw [Addr.add_lit]
              exact h.imm _ _ _ (hp j hjl)
          have hxl : xs.length = n * k := by rw [hxs.1, hcsl]
          have hr := run_append_grow (P := P) w t o.type e i z hu e1 e2 ⟨g, 0, none⟩ n cap xs (by rw [hxl, e3]) hcx adr m cx news (by rw [hnl, e3]) hcells (by omega) (by omega) (growslice_fits (by omega) (by rw [e4]; exact c1))
          refine fresh undef xs (grownCap w (n + m) cap e) (Builtin.zeroCells z.cells (grownCap w (n + m) cap e - (n + m))) hxs hxl (grownCap_ge w _ _ e) (grownCap_le_maxLen w _ _ e hml) ?_ ?_
          rotate_left
          · rw [hsv, hxv]
            exact hr
          · have hge := grownCap_ge w (n + m) cap e
            simp only [Array.size_append, List.size_toArray, size_zeroCells, hxl, hnl, e5, ← Nat.add_mul]
            congr 1
            omega

theorem presE_sound (hT : T = tabOf P) (h : RelG Φ0 W M Φ μ ω σ a w) (o : Oper) {hd : Bool} {id : Nat} {E : Eff} (hp : presE T hd id σ o.op = some E) (hdst : ∀ d, o.dst = some d → d < M) (hkind : (match o.op with | .store .. => o.dst = none | _ => o.dst.isSome = true)) :
    Does P Φ0 W M a w o (σ.app o.dst E) := by
  obtain ⟨dst, op, ty, pos, after, guard⟩ := o
  simp only at hp hdst hkind
  have simple : ∀ p, pval T σ op = some p → dst.isSome = true → Does P Φ0 W M a w ⟨dst, op, ty, pos, after, guard⟩ (σ.app dst ⟨p, none, none⟩) := by
    intro p hpv hds
    obtain ⟨d, rfl⟩ := Option.isSome_iff_exists.1 hds
    obtain ⟨v, r1, r2, r3⟩ := pval_sound hT h ⟨some d, op, ty, pos, after, guard⟩ hpv
    exact does_val h _ rfl (hdst d rfl) r1 r2 r3
  have other : ∀ E, (pval T σ op).map (fun v => (⟨v, none, none⟩ : Eff)) = some E → dst.isSome = true → Does P Φ0 W M a w ⟨dst, op, ty, pos, after, guard⟩ (σ.app dst E) := by
    intro E hE hds
    obtain ⟨p, hpv, rfl⟩ := Option.map_eq_some_iff.1 hE
    exact simple p hpv hds
  unfold presE at hp
  split at hp
  · rename_i x
    cases hp
    obtain ⟨d, rfl⟩ := Option.isSome_iff_exists.1 hkind
    exact does_take h _ rfl (hdst d rfl) x (by simp [execOp])
  · rename_i x
    obtain ⟨d, rfl⟩ := Option.isSome_iff_exists.1 hkind
    split at hp
    · cases hp
      exact does_take h _ rfl (hdst d rfl) x (by simp [execOp])
    · cases hp
      exact does_val h _ rfl (hdst d rfl) (by simp [execOp]) (h.ev x) (pev_own σ x)
  · rename_i e
    obtain ⟨d, rfl⟩ := Option.isSome_iff_exists.1 hkind
    split at hp
    · rename_i ti ht hb
      cases hp
      obtain ⟨i, dd, z, g1, g2, g3, g4, g5, g6⟩ := tyI_parts (tab_at hT ht)
      have hz : ti.zero = z.cells.toList.map pv0 := by rw [g6]
      have h1 := h.newBox hb (bs := ti.zero) (us := z.cells.toList) (by rw [hz]; exact repL_pv0 _) g5 (by rw [hz]; intro c hc; obtain ⟨v, -, rfl⟩ := List.mem_map.1 hc; exact pv0_own v) e
      have h2 := h1.put (d := d) (hdst d rfl) (p := .ptr id 0) (.ptr id 0 w.heap.size (by simp [upd_if])) rfl
      refine ⟨_, .pointer (some ⟨w.heap.size, 0, none⟩), w.alloc (.cells z.cells e), ?_, .inl rfl, Φ, _, _, by rw [Array.toArray_toList] at h2; exact h2⟩
      simp [execOp, Instr.alloc, zeroValue, typeInfo, g1, g3, newVar, newRow]
    · cases hp
  · rename_i e x
    obtain ⟨d, rfl⟩ := Option.isSome_iff_exists.1 hkind
    split at hp
    · rename_i cs hcs hb
      cases hp
      have hc := pcells_sound (h.ev x) hcs
      have h1 := h.newBox hb hc.1 hc.2.1 hc.2.2 e
      have h2 := h1.put (d := d) (hdst d rfl) (p := .ptr id 0) (.ptr id 0 w.heap.size (by simp [upd_if])) rfl
      refine ⟨_, .pointer (some ⟨w.heap.size, 0, none⟩), w.alloc (.cells (a.eval x).cells e), ?_, .inl rfl, Φ, _, _, by rw [Array.toArray_toList] at h2; exact h2⟩
      simp [execOp, Instr.box, newVar, newRow]
    · cases hp
  · rename_i t x y
    subst hkind
    split at hp
    · rename_i j off hx
      have hxr := h.ev x
      rw [hx] at hxr
      obtain ⟨g, hg, hv⟩ := hxr.ptr_inv
      split at hp
      · rename_i hown
        split at hp
        · rename_i bs ti hb ht
          split at hp
          · rename_i hc
            cases hp
            obtain ⟨s, n, k, cs, E, rfl, hs⟩ : ∃ s n k cs E, y = .tmp s ∧ σ.t s = .sl n k cs (some E) := by
              cases y with
              | tmp s =>
                simp only [ownPV] at hown
                cases hσ : σ.t s with
                | sl n k cs own => cases own with
                  | none => rw [hσ] at hown; simp [PV.ownB] at hown
                  | some E => exact ⟨s, n, k, cs, E, rfl, hσ⟩
                | _ => rw [hσ] at hown; simp [PV.ownB] at hown
              | const v => have := pvC_own v; simp only [ownPV, pev] at hown; rw [this] at hown; cases hown
              | global g => simp [ownPV, pev, PV.ownB] at hown
              | func f => simp [ownPV, pev, PV.ownB] at hown
            have hsr := (h.tmps s)
            rw [hs] at hsr
            obtain ⟨o1, o2⟩ := hsr.one rfl
            have hcr : CellsR Φ μ [.sl n k cs none] [a.tmps.getD s undef] := ⟨RepL.cons hsr.bare RepL.nil, by simpa using o1, by simp [PV.ownB]⟩
            obtain ⟨w', r1, r2⟩ := h.store (P := P) hb hcr (off := off) (by simpa using hc.2) hg
            have hsp : (splice bs off [.sl n k cs none])[off]? = some (.sl n k cs none) := by
              simp only [splice]
              rw [List.append_assoc, List.getElem?_append_right (by rw [List.length_take]; omega), List.length_take, show min off bs.length = off by omega]
              simp
            have hcell : w'.cell? ⟨g, off, none⟩ = some (a.tmps.getD s undef) := by
              obtain ⟨g2, cur2, T2, q1, q2, q3, q4, q5, q6, q7⟩ := h.box j bs hb
              rw [hg] at q1; cases q1
              have hr := run_storeCells_at P g off T2 [a.tmps.getD s undef] 0 cur2 w q2 (by simp; omega) (by simpa using o1)
              rw [Nat.add_zero] at hr
              rw [hr] at r1
              cases r1
              rw [cell_setRow_same w g off cur2 _ T2 _ q2, List.getElem?_toArray]
              rw [List.append_assoc, List.getElem?_append_right (by rw [List.length_take]; omega), List.length_take, show min off cur2.toList.length = off by simp; omega]
              simp
            obtain ⟨ω', r3⟩ := r2.give (id := j) (off := off) (n := n) (k := k) (g := g) (cs := cs) (E := E) (bs := splice bs off [.sl n k cs none]) hs (by simp [upd_if]) hsp hg hcell
            obtain ⟨i, dd, z, g1, g2, g3, g4, g5, g6⟩ := tyI_parts (tab_at hT ht)
            refine ⟨_, undef, w', ?_, .inr ⟨rfl, rfl⟩, Φ, μ, ω', ?_⟩
            · have hsz : (a.eval (.tmp s)).cells.size = i.size := by
                have : a.eval (.tmp s) = a.tmps.getD s undef := rfl
                rw [this, o2]
                have h1 := hc.1
                rw [g6] at h1
                exact h1.symm
              have hcl : (a.eval (.tmp s)).cells.toList = [a.tmps.getD s undef] := by
                have : a.eval (.tmp s) = a.tmps.getD s undef := rfl
                rw [this, o2]
              have r1' := r1
              simp only [Array.getD_eq_getD_getElem?] at r1'
              simp [execOp, Instr.storeAt, Instr.sureAddr, hv, storeVar, run_size g1, hsz, hcl, r1']
            · have e1 : upd (upd σ.b j (some (splice bs off [.sl n k cs none]))) j (some ((splice bs off [.sl n k cs none]).set off (.sl n k cs (some E)))) = upd σ.b j (some (bs.set off (.sl n k cs (some E)))) := by
                have e2 : (splice bs off [.sl n k cs none]).set off (.sl n k cs (some E)) = bs.set off (.sl n k cs (some E)) := by
                  apply List.ext_getElem?
                  intro q
                  simp only [List.getElem?_set, splice, List.length_append, List.length_take, List.length_drop, List.length_cons, List.length_nil]
                  by_cases hq : off = q
                  · subst hq
                    rw [if_pos rfl, if_pos rfl, if_pos (by omega), if_pos (by omega)]
                  · rw [if_neg hq, if_neg hq]
                    by_cases hql : q < off
                    · rw [List.append_assoc, List.getElem?_append_left (by rw [List.length_take]; omega), List.getElem?_take, if_pos hql]
                    · rw [List.getElem?_append_right (by rw [List.length_append, List.length_take]; simp; omega), List.length_append, List.length_take, List.getElem?_drop]
                      congr 1
                      simp; omega
                rw [e2]
                funext q; simp only [upd_if]; by_cases hq : q = j <;> simp [hq]
              simp only at r3
              rw [e1] at r3
              simp only [PS.app, ownPV, disOf, hs] at r3 ⊢
              exact r3
          · cases hp
        · cases hp
      · split at hp
        · rename_i bs ti new hb ht hnew
          split at hp
          · rename_i hc
            cases hp
            have hcr := pcells_sound (h.ev y) hnew
            obtain ⟨w', r1, r2⟩ := h.store (P := P) hb hcr hc.2 hg
            rw [← splF_eq bs off new hc.2] at r2
            obtain ⟨i, dd, z, g1, g2, g3, g4, g5, g6⟩ := tyI_parts (tab_at hT ht)
            refine ⟨_, undef, w', ?_, .inr ⟨rfl, rfl⟩, Φ, μ, ω, r2⟩
            have hsz : (a.eval y).cells.size = i.size := by
              have := hcr.1.1
              simp only [Array.length_toList] at this
              rw [this, hc.1, g6]
            simp [execOp, Instr.storeAt, Instr.sureAddr, hv, storeVar, run_size g1, hsz, r1]
          · cases hp
        · cases hp
    · cases hp
  · rename_i t x
    obtain ⟨d, rfl⟩ := Option.isSome_iff_exists.1 hkind
    split at hp
    · rename_i E' hE
      cases hp
      unfold ploadO at hE
      split at hE
      · rename_i j off hx
        split at hE
        · split at hE
          · rename_i bs hb
            split at hE
            · rename_i n k cs E hbo
              split at hE
              · rename_i ti ht
                split at hE
                · rename_i hag
                  cases hE
                  have hxr := h.ev x
                  rw [hx] at hxr
                  obtain ⟨g, hg, hv⟩ := hxr.ptr_inv
                  obtain ⟨u, ω', hc, h'⟩ := h.fetch (d := d) (hdst d rfl) hb hbo hg
                  obtain ⟨i, dd, z, g1, g2, g3, g4, g5, g6⟩ := tyI_parts (tab_at hT ht)
                  have hagg : aggD dd = false := by rw [g6] at hag; exact hag
                  refine ⟨_, u, w, ?_, .inl rfl, Φ, μ, ω', h'⟩
                  simp [execOp, Instr.loadAt, Instr.sureAddr, hv, loadVar, run_isAgg g2, hagg, hc]
                · cases hE
              · cases hE
            · cases hE
          · cases hE
        · cases hE
      · cases hE
    · exact other E hp hkind
  · rename_i t len parts
    obtain ⟨d, rfl⟩ := Option.isSome_iff_exists.1 hkind
    split at hp
    · rename_i ti ht
      split at hp
      · rename_i e k by_ zr hk
        split at hp
        · rename_i hle
          obtain ⟨cs, hcs, rfl⟩ := Option.map_eq_some_iff.1 hp
          obtain ⟨hu, i, z, e1, e2, e3, e4, e5, e6, e7, e8⟩ := slice_get (tab_at hT ht) hk
          subst e8
          have hzr := zero_rows (Φ := Φ) (μ := μ) (len := len) (z := z.cells) e5 e6 (repL_pv0 _) e7 (by intro c hc; obtain ⟨v, -, rfl⟩ := List.mem_map.1 hc; exact pv0_own v)
          obtain ⟨cur, r1, r2⟩ := fill_sound (fun i => some (i * k, k)) _ (parts.toList.map fun (x : Nat × Operand) => (x.1, a.eval x.2)) _ _ _ hzr (by simp) (parts_rep h parts) hcs
          have hlen : cs.length = len * k := by
            have hl : ∀ (ps : List (Nat × PV)) (c0 c1 : List PV), pfill (fun i => some (i * k, k)) c0 ps = some c1 → c1.length = c0.length := by
              intro ps
              induction ps with
              | nil => intro c0 c1 hh; simp [pfill] at hh; rw [hh]
              | cons x ps ih =>
                intro c0 c1 hh
                simp only [pfill] at hh
                split at hh
                · rename_i off size new hpl hnew
                  split at hh
                  · rename_i hcc
                    rw [ih _ _ hh, splF_eq _ _ _ (by omega)]
                    simp only [splice, List.length_append, List.length_take, List.length_drop]; omega
                  · cases hh
                · cases hh
            rw [hl _ _ _ hcs, ← hzr.1.1]; simp
          have hcl := r2.1.1
          simp only [Array.length_toList] at hcl
          obtain ⟨Φ', ω', h', -⟩ := h.newOwn (d := d) (hdst d rfl) (N := len) (k := k) (cap := len) (L := cs) (cur := cur) (e := e) hlen (by rw [List.take_of_length_le (by simp; omega)]; exact r2.1) (Nat.le_refl _) (by
            have : len ≤ len * k := Nat.le_mul_of_pos_right _ e6
            unfold maxLen; omega) (by omega)
          refine ⟨_, .slice (some ⟨w.heap.size, 0, none⟩) len len, w.alloc (.cells cur e), ?_, .inl rfl, Φ', μ, ω', h'⟩
          have hnle : ¬ (len * k > 2 ^ 24) := by omega
          simp only [execOp, Instr.buildSlice, Sem.run_bind, run_underlying hu, Result.andThen_ok, run_size e1, e3, hnle, if_false]
          by_cases hz0 : len * k = 0
          · have hr0 : ((Array.range (len * k)).map (fun i => z.cells[i % z.cells.size]!)) = #[] := by rw [hz0]; simp
            rw [hr0] at r1
            have hr1 : (Array.map (fun (_ : Nat) => (default : Value)) (Array.range 0)) = #[] := by simp
            simp [hz0, hr1, r1, newRow]
          · simp only [hz0, if_false, Sem.run_bind, zeroValue, typeInfo, run_program, Result.andThen_ok, e1, e2, Sem.run_pure, Array.toList_map, r1]
            rfl
        · cases hp
      · cases hp
    · cases hp
  · rename_i c
    obtain ⟨callee, args, argTypes⟩ := c
    simp only at hp
    split at hp
    · split at hp
      · rename_i s x t t' ea et
        obtain rfl : args = #[s, x] := by rw [← Array.toArray_toList (xs := args), ea]
        obtain rfl : argTypes = #[t, t'] := by rw [← Array.toArray_toList (xs := argTypes), et]
        obtain ⟨d, rfl⟩ := Option.isSome_iff_exists.1 hkind
        split at hp
        · rename_i htt
          subst htt
          split at hp
          · rename_i ti ht
            split at hp
            · rename_i e k by_ zr hk
              exact does_append h _ rfl (hdst d rfl) rfl (tab_at hT ht) hk hp
            · cases hp
          · cases hp
        · cases hp
      · cases hp
    · exact other E hp hkind
  · rename_i hne1 hne2 hne3 hne4 hne5 hne6 hne7 hne8
    refine other E hp ?_
    cases op <;> first | exact hkind | exact absurd rfl (hne5 _ _ _)
end
end Go.Proofs.Ytnjopfjmepbpoaa

/- Pure states: calls, regions in the order of the text, control. -/
namespace Go.Proofs.Ytnjopfjmepbpoaa
set_option linter.unusedSimpArgs false
set_option linter.unusedVariables false
set_option linter.unnecessarySimpa false
open Go.RowKit

def mu0 : Nat → Option Nat := fun _ => none

/-- What a call leaves. -/
def CallPost (Φ : Imm) (w : World) (post : PV → Prop) (e : Ending) (w' : World) : Prop :=
  ∃ r v Φ', e = .returned v ∧ post r ∧ Rep Φ' mu0 r v ∧ (∀ b o u, Φ' b o = some u → w'.cell? ⟨b, o, none⟩ = some u) ∧ (∀ b o, b < w.heap.size → Φ' b o = Φ b o) ∧ Below w.heap.size w w' ∧
    (∀ n k cs E, r = .sl n k cs (some E) → OwnAt w.heap.size Φ' (fun _ => some (.tmp 0)) w' (.tmp 0) n k E v)

def callB (P : Program) (f : FuncId) : Bool := match P.funcs[f]? with
  | some fn => !(fn.name == "runtime.NumGoroutine") && !fn.body.isNone
  | none => false

theorem run_callFunc {P : Program} {f : FuncId} (h : callB P f = true) (args : Array Value) (w : World) : (callFunc f args).run P w = .ok (.enter f args) w := by
  unfold callB at h
  split at h
  · rename_i fn hf
    simp only [Bool.and_eq_true, Bool.not_eq_true'] at h
    simp only [callFunc, Sem.run_bind, run_program, Result.andThen_ok, hf, h.1, h.2, Bool.false_eq_true, if_false, Sem.run_pure]
  · cases h

/-- The contract of a function, over pure values. -/
def PCalls (P : Program) (f : FuncId) (args : List PV) (post : PV → Prop) : Prop :=
  callB P f = true ∧ ∀ (Φ : Imm) (μ : Nat → Option Nat) (w : World) (vs : List Value), (∀ b o u, Φ b o = some u → w.cell? ⟨b, o, none⟩ = some u) → RepL Φ μ args vs → Calls P f vs.toArray w (CallPost Φ w post)

theorem PCalls.mono {P : Program} {f : FuncId} {args : List PV} {post post' : PV → Prop} (h : PCalls P f args post) (hp : ∀ r, post r → post' r) : PCalls P f args post' := by
  refine ⟨h.1, fun Φ μ w vs h1 h2 => (h.2 Φ μ w vs h1 h2).mono ?_⟩
  rintro e w' ⟨r, v, Φ', k1, k2, k3⟩
  exact ⟨r, v, Φ', k1, hp r k2, k3⟩

def pcall (σ : PS) : Op → Option (FuncId × List PV)
  | .call c => match c.callee with
    | .value x => match pev σ x with
      | .fn f caps => some (f, c.args.toList.map (pev σ) ++ caps)
      | _ => none
    | _ => none
  | _ => none

def pguard (ops : Array Oper) (σ : PS) (o : Oper) : Option Bool :=
  match o.guard with
  | none => some true
  | some (j, want) => match (ops.toList[j]?).bind (·.dst) with
    | some d => match (σ.t d).bare with
      | .val (.bool b) => some (b == want)
      | .tup [] => some false
      | _ => none
    | none => none

/-- Is the slot appended to in this region? -/
def headB (ops : Array Oper) (dst : Option Nat) : Bool := match dst with
  | some d => ops.toList.any fun o => match o.op with
    | .call c => match c.callee, c.args.toList with
      | .builtin .append, .tmp t :: _ => t == d
      | _, _ => false
    | _ => false
  | none => false

/-- The variables that an operation may look at. -/
def PS.only (σ : PS) (ok : Nat → Bool) : PS := { t := σ.t, b := fun id => if ok id then σ.b id else none }

/-- What an operation may do. -/
def May (P : Program) (T : Tab) (ops : Array Oper) (base : Nat) (ok : Nat → Nat → Bool) (i : Nat) (o : Oper) (σ : PS) (E : Eff) : Prop :=
  (pguard ops σ o = some false ∧ E = ⟨.tup [], none, none⟩) ∨ (pguard ops σ o = some true ∧ ((presE T (headB ops o.dst) (base + i) (σ.only (ok i)) o.op = some E ∧ σ.b (base + i) = none) ∨
    (∃ f args r d, o.dst = some d ∧ pcall σ o.op = some (f, args) ∧ PCalls P f args (· = r) ∧ E = ⟨r, none, none⟩)))

/-- One operation. -/
def PWop (P : Program) (T : Tab) (ops : Array Oper) (base : Nat) (ok : Nat → Nat → Bool) (i : Nat) (o : Oper) (K : PS → Prop) (σ : PS) : Prop := ∃ E, May P T ops base ok i o σ E ∧ K (σ.app o.dst E)

def PWops (P : Program) (T : Tab) (ops : Array Oper) (base : Nat) (ok : Nat → Nat → Bool) : List (Nat × Oper) → (PS → Prop) → PS → Prop
  | [], Q, σ => Q σ
  | (i, o) :: rest, Q, σ => PWop P T ops base ok i o (PWops P T ops base ok rest Q) σ

/-- The slots that a region writes are there; only stores write none. -/
def dstB (M : Nat) (o : Oper) : Bool := match o.op, o.dst with
  | .store .., none => true
  | .store .., some _ => false
  | _, some d => decide (d < M)
  | _, none => false

section
variable {Φ0 : Imm} {W : World} {M : Nat} {Φ : Imm} {μ : Nat → Option Nat} {ω : Nat → Option Who} {σ : PS} {a : Act} {w : World} {P : Program} {T : Tab}

theorem dstB_spec {o : Oper} (h : dstB M o = true) : (∀ d, o.dst = some d → d < M) ∧ (match o.op with | .store .. => o.dst = none | _ => o.dst.isSome = true) := by
  obtain ⟨dst, op, ty, pos, after, guard⟩ := o
  simp only [dstB] at h
  cases dst with
  | none => cases op <;> simp_all
  | some d => cases op <;> simp_all

theorem guard_wanted (h : RelG Φ0 W M Φ μ ω σ a w) {ops : Array Oper} {o : Oper} {b : Bool} (hM : ∀ (j d : Nat), (ops[j]?).bind (·.dst) = some d → d < M) (hg : pguard ops σ o = some b) : Region.wanted o (yielded ops a.tmps) = b := by
  unfold pguard at hg
  unfold Region.wanted
  split at hg
  · rename_i e
    rw [e]
    simpa using hg
  · rename_i j want e
    rw [e]
    simp only
    split at hg
    · rename_i d hd
      rw [Array.getElem?_toList] at hd
      have hlt : d < a.tmps.size := by rw [h.size]; exact hM j d hd
      have hr := (h.tmps d).bare
      have hget : a.tmps[d]? = some (a.tmps.getD d undef) := by simp [Array.getD_eq_getD_getElem?, hlt]
      split at hg
      · rename_i b' hb
        rw [hb] at hr
        obtain ⟨hv, -⟩ := hr.val_inv
        simp only [Option.some.injEq] at hg
        subst hg
        simp [yielded, hd, hget, hv]
      · rename_i hb
        rw [hb] at hr
        obtain ⟨us, hv, hl⟩ := hr.tup_inv
        obtain rfl : us = [] := List.eq_nil_of_length_eq_zero (by simpa using hl.1)
        simp only [Option.some.injEq] at hg
        subst hg
        simp [yielded, hd, hget, hv]
      · cases hg
    · cases hg

theorem RelG.skip (h : RelG Φ0 W M Φ μ ω σ a w) {dst : Option Nat} (hd : ∀ d, dst = some d → d < M) : RelG Φ0 W M Φ μ ω (σ.app dst ⟨.tup [], none, none⟩) (a.put dst undef) w := by
  cases dst with
  | none => exact h
  | some d => exact h.put (hd d rfl) (p := .tup []) (by have := (RepL.nil (Φ := Φ) (μ := μ)).tup; exact this) rfl

/-- A call in a region. -/
theorem call_sound (h : RelG Φ0 W M Φ μ ω σ a w) (o : Oper) {d : Nat} (hd : o.dst = some d) (hM : d < M) {f : FuncId} {args : List PV} {post : PV → Prop} (hc : pcall σ o.op = some (f, args)) (hp : PCalls P f args post) {next : Act → World → Prop} {Q : Exit → Act → World → Prop}
    (hn : ∀ r a' w', post r → Rel Φ0 W M (σ.put d r) a' w' → next a' w') : o.wp P a w next Q := by
  unfold pcall at hc
  split at hc
  case h_2 => cases hc
  rename_i c hop
  split at hc
  case h_2 => cases hc
  rename_i x hcal
  split at hc
  case h_2 => cases hc
  rename_i f' caps hx
  simp only [Option.some.injEq, Prod.mk.injEq] at hc
  obtain ⟨rfl, rfl⟩ := hc
  have hxr := h.ev x
  rw [hx] at hxr
  obtain ⟨us, hv, hl⟩ := hxr.fn_inv
  have hargs : RepL Φ μ (c.args.toList.map (pev σ) ++ caps) (c.args.toList.map a.eval ++ us) := by
    refine ⟨by simp [hl.1], fun j p u h1 h2 => ?_⟩
    by_cases hj : j < c.args.size
    · rw [List.getElem?_append_left (by simpa using hj), List.getElem?_map] at h1 h2
      obtain ⟨y, hy, rfl⟩ := Option.map_eq_some_iff.1 h1
      rw [hy] at h2
      simp at h2
      subst h2
      exact h.ev y
    · rw [List.getElem?_append_right (by simpa using hj)] at h1 h2
      simp only [List.length_map] at h1 h2
      exact hl.2 _ p u h1 h2
  have hrun : (execOp a.eval o).run P w = .ok (.enter f' (c.args.toList.map a.eval ++ us).toArray) w := by
    simp only [execOp, hop, resolve, hcal, hv, Deferred.ofValue, Sem.run_bind, Sem.run_pure, Result.andThen_ok, invoke]
    have e : (#[] : Array Value) ++ c.args.map a.eval ++ us.toArray = (c.args.toList.map a.eval ++ us).toArray := by
      apply Array.ext'
      simp
    rw [e, run_callFunc hp.1]
  unfold Oper.wp
  rw [hrun]
  show Calls P f' _ w _
  refine (hp.2 Φ μ w _ h.imm hargs).mono ?_
  rintro e w' ⟨r, v, Φ', rfl, hr, hrep, himm, hold, hb, hown⟩
  simp only
  rw [hd]
  have hsub : ∀ b o u, Φ b o = some u → Φ' b o = some u := fun b o u e => by rw [hold b o (h.fresh e)]; exact e
  have h1 : RelG Φ0 W M Φ' μ ω σ a w' := by
    refine h.grow (h.below.trans (hb.mono h.below.size)) himm (fun b o hbo => hold b o (Nat.lt_of_lt_of_le hbo h.below.size)) hsub (fun g p e => ⟨hb.block g (h.lt g p e), fun j => hold g j (h.lt g p e)⟩) hb.size
  have hrep' : Rep Φ' μ r v := hrep.mono (fun _ _ _ e => e) (fun i g e => by cases e)
  by_cases ho : r.ownB = false
  · exact hn r _ _ hr ⟨Φ', μ, ω, h1.put hM hrep' ho⟩
  · obtain ⟨n, k, cs, E, rfl⟩ : ∃ n k cs E, r = .sl n k cs (some E) := by
      cases r with
      | sl n k cs own => cases own with
        | none => exact absurd rfl ho
        | some E => exact ⟨n, k, cs, E, rfl⟩
      | _ => exact absurd rfl ho
    have hoo := hown n k cs E rfl
    have h2 := h1.put hM hrep'.bare (PV.bare_own _)
    have hd' : d < a.tmps.size := by rw [h.size]; exact hM
    have fin : ∀ ω', (∀ g p, ω g = some p → ω' g = some p) → (∀ g p, ω' g = some p → g < w'.heap.size) → OwnAt W.heap.size Φ' ω' w' (.tmp d) n k E v → next (a.put (some d) v) w' := by
      intro ω' hω hlt ho'
      have hstep : ∀ q n k E v, OwnAt W.heap.size Φ' ω w' q n k E v → OwnAt W.heap.size Φ' ω' w' q n k E v := fun q n k E v hh => hh.step (fun g e => ⟨rfl, fun _ => rfl, hω g q e⟩)
      refine hn _ _ _ hr ⟨Φ', μ, ω', h1.below, h1.defers, by simp [Act.put, h.size], h1.imm, h1.old, fun t => ?_, fun t n' k' cs' E' et => ?_, fun id bs eb => ?_, h1.gone, hlt⟩
      · rw [getD_put _ _ _ _ hd']
        simp only [PS.put, upd_if]
        by_cases ht : t = d
        · simp only [if_pos ht]; exact hrep'
        · simp only [if_neg ht]; exact h1.tmps t
      · rw [getD_put _ _ _ _ hd']
        simp only [PS.put, upd_if] at et
        by_cases ht : t = d
        · simp only [if_pos ht] at et ⊢
          cases et
          subst ht
          exact ho'
        · simp only [if_neg ht] at et ⊢
          exact hstep _ _ _ _ _ (h1.own t n' k' cs' E' et)
      · obtain ⟨g, cur', Ty, q1, q2, q3, q4, q5, q6, q7⟩ := h1.box id bs eb
        refine ⟨g, cur', Ty, q1, q2, q3, hω g _ q4, q5, q6, fun j c hc => ?_⟩
        obtain ⟨u, r1, r2, r3, r4⟩ := q7 j c hc
        exact ⟨u, r1, r2, r3, fun n k cs E e => hstep _ _ _ _ _ (r4 n k cs E e)⟩
    rcases hoo with ⟨hnil, hn0⟩ | ⟨g, cap, cur, q1, q2, q3, q4, q5, q6, q7, q8⟩
    · exact fin ω (fun _ _ e => e) h1.lt (.inl ⟨hnil, hn0⟩)
    · refine fin (upd ω g (some (.tmp d))) ?_ ?_ (.inr ⟨g, cap, cur, q1, Nat.le_trans h.below.size q2, q3, q4, q5, q6, by simp [upd_if], q8⟩)
      · intro g' p e
        simp only [upd_if]
        rw [if_neg (by have := h.lt g' p e; omega)]
        exact e
      · intro g' p e
        simp only [upd_if] at e
        split at e
        · subst g'; exact (Array.getElem?_eq_some_iff.1 q3).1
        · exact h1.lt g' p e

/-- It looks at fewer variables, and does the same. -/
theorem presE_only {ok : Nat → Bool} {hd : Bool} {id : Nat} {op : Op} {E : Eff} (h : presE T hd id (σ.only ok) op = some E) (hid : σ.b id = none) : presE T hd id σ op = some E := by
  have hev : ∀ x, pev (σ.only ok) x = pev σ x := fun x => by cases x <;> rfl
  have hev' : pev (σ.only ok) = pev σ := funext hev
  have htk : ∀ x, takeE (σ.only ok) x = takeE σ x := fun x => by cases x <;> rfl
  have how : ∀ x, ownPV (σ.only ok) x = ownPV σ x := fun x => by cases x <;> rfl
  have hb : ∀ i bs, (σ.only ok).b i = some bs → σ.b i = some bs := by
    intro i bs e
    simp only [PS.only] at e
    split at e
    · exact e
    · cases e
  have hload : ∀ (x : TyI) (q p : PV), ploadAt x (σ.only ok).b q = some p → ploadAt x σ.b q = some p := by
    intro x q p e
    cases q with
    | ptr i off =>
      simp only [ploadAt] at e ⊢
      cases hbi : (σ.only ok).b i with
      | none => rw [hbi] at e; cases e
      | some bs => rw [hbi] at e; rw [hb i bs hbi]; exact e
    | _ => exact e
  have hval : ∀ op p, pval T (σ.only ok) op = some p → pval T σ op = some p := by
    intro op p e
    cases op with
    | load t x =>
      simp only [pval, hev] at e ⊢
      cases ht : T.at t with
      | none => rw [ht] at e; cases e
      | some ti => rw [ht] at e; exact hload _ _ _ e
    | _ => simpa only [pval, hev, hev'] using e
  have hother : ∀ op, ((pval T (σ.only ok) op).map fun v => (⟨v, none, none⟩ : Eff)) = some E → ((pval T σ op).map fun v => (⟨v, none, none⟩ : Eff)) = some E := by
    intro op e
    obtain ⟨p, hp, rfl⟩ := Option.map_eq_some_iff.1 e
    rw [hval op p hp]; rfl
  cases op with
  | assign x => simpa only [presE, htk] using h
  | move x => simpa only [presE, htk, hev] using h
  | alloc e =>
    simp only [presE] at h ⊢
    rw [hid]
    split at h
    · rename_i ti ht hbn; rw [ht]; exact h
    · cases h
  | box e x =>
    simp only [presE, hev] at h ⊢
    rw [hid]
    split at h
    · rename_i cs hcs hbn; rw [hcs]; exact h
    · cases h
  | store t x y =>
    simp only [presE, hev, how] at h ⊢
    split at h
    · rename_i j off hx
      split at h
      · rename_i ho
        simp only [ho, if_true]
        split at h
        · rename_i bs ti hbs ht
          rw [hb j bs hbs, ht]
          exact h
        · cases h
      · rename_i ho
        simp only [ho, if_false, Bool.false_eq_true]
        split at h
        · rename_i bs ti new hbs ht hn
          rw [hb j bs hbs, ht, hn]
          exact h
        · cases h
    · cases h
  | load t x =>
    simp only [presE, hev] at h ⊢
    have hO : ∀ (q : PV), (∀ E', ploadO T hd (σ.only ok).b t q = some E' → ploadO T hd σ.b t q = some E') ∧ (ploadO T hd (σ.only ok).b t q = none → (∃ p, pval T (σ.only ok) (.load t x) = some p) → pev σ x = q → ploadO T hd σ.b t q = none) := by
      intro q
      refine ⟨fun E' e => ?_, fun e ⟨p, hp⟩ hq => ?_⟩
      · unfold ploadO at e ⊢
        split at e
        · rename_i j off
          split at e
          · rename_i hhd
            simp only [hhd, if_true]
            split at e
            · rename_i bs hbs
              rw [hb j bs hbs]
              exact e
            · cases e
          · cases e
        · cases e
      · unfold ploadO at e ⊢
        split
        · rename_i j off
          split
          · rename_i hhd
            simp only [hhd, if_true] at e
            simp only [pval, hev, hq] at hp
            cases ht : T.at t with
            | none => rw [ht] at hp; cases hp
            | some ti =>
              rw [ht] at hp
              simp only [ploadAt] at hp
              cases hbj : (σ.only ok).b j with
              | none => rw [hbj] at hp; cases hp
              | some bs =>
                rw [hbj, ht] at e
                rw [hb j bs hbj]
                exact e
          · rfl
        · rfl
    split at h
    · rename_i E' hE
      rw [(hO _).1 E' hE]
      exact h
    · rename_i hE
      obtain ⟨p, hp, rfl⟩ := Option.map_eq_some_iff.1 h
      rw [(hO _).2 hE ⟨p, hp⟩ rfl, hval _ p hp]
      rfl
  | buildSlice t len parts => simpa only [presE, hev, hev'] using h
  | call c =>
    simp only [presE, how, hev] at h ⊢
    split at h
    · exact h
    · rename_i hne
      exact hother _ h
  | _ => first | exact hother _ h | (simp [presE, pval] at h; done)

/-- One operation, in memory. -/
theorem op_sound (hT : T = tabOf P) {ops : Array Oper} (hall : ∀ (j : Nat) o, ops[j]? = some o → dstB M o = true) {base : Nat} {ok : Nat → Nat → Bool} {i : Nat} {o : Oper} (hio : ops[i]? = some o) {K : PS → Prop} {K' : Act → World → Prop} {Q' : Exit → Act → World → Prop}
    (hK : ∀ σ a w, K σ → Rel Φ0 W M σ a w → K' a w) (h : PWop P T ops base ok i o K σ) (hr : Rel Φ0 W M σ a w) :
    if Region.wanted o (yielded ops a.tmps) then o.wp P a w K' Q' else K' (a.put o.dst undef) w := by
  obtain ⟨Φ, μ, ω, hg⟩ := hr
  have hd := dstB_spec (hall i o hio)
  have hM : ∀ (j d : Nat), (ops[j]?).bind (·.dst) = some d → d < M := by
    intro j d e
    obtain ⟨o', ho', e'⟩ := Option.bind_eq_some_iff.1 e
    exact (dstB_spec (hall j o' ho')).1 d e'
  obtain ⟨E, hm, hk⟩ := h
  rcases hm with ⟨hgd, rfl⟩ | ⟨hgd, hm⟩
  · rw [guard_wanted hg hM hgd]
    simp only [Bool.false_eq_true, if_false]
    exact hK _ _ _ hk ⟨Φ, μ, ω, hg.skip hd.1⟩
  · rw [guard_wanted hg hM hgd]
    simp only [if_true]
    rcases hm with ⟨hE, hid⟩ | ⟨f, args, r, d, hdd, hc, hp, rfl⟩
    · obtain ⟨nx, v, w', r1, r2, r3⟩ := presE_sound hT hg o (presE_only hE hid) hd.1 hd.2
      unfold Oper.wp
      rw [r1]
      rcases r2 with rfl | ⟨rfl, rfl⟩
      · exact hK _ _ _ hk r3
      · exact hK _ _ _ hk r3
    · exact call_sound hg o hdd (hd.1 d hdd) hc hp (fun r' a' w' hr' hrel => by subst hr'; exact hK _ _ _ hk (by rw [hdd]; exact hrel))

/-- A region in the order of the text. -/
theorem ops_sound (hT : T = tabOf P) {ops : Array Oper} (hall : ∀ (j : Nat) o, ops[j]? = some o → dstB M o = true) {base : Nat} {ok : Nat → Nat → Bool} {Q : PS → Prop} {Q' : Exit → Act → World → Prop} (hQ : ∀ σ a w, Q σ → Rel Φ0 W M σ a w → Q' .normal a w) :
    ∀ (l : List (Nat × Oper)), (∀ x ∈ l, ops[x.1]? = some x.2) → ∀ (σ : PS) (a : Act) (w : World), PWops P T ops base ok l Q σ → Rel Φ0 W M σ a w → wpOps P ops Q' (l.map (·.1)) a w
  | [], _, σ, a, w, h, hr => hQ σ a w h hr
  | (i, o) :: rest, hl, σ, a, w, h, hr => by
    have hio : ops[i]? = some o := hl (i, o) (by simp)
    have ih := ops_sound hT hall (base := base) (ok := ok) hQ rest (fun x hx => hl x (by simp [hx]))
    simp only [List.map_cons, wpOps, hio]
    have := op_sound hT hall hio (K' := wpOps P ops Q' (rest.map (·.1))) (Q' := Q') ih h hr
    split
    · rename_i hw; rw [if_pos hw] at this; exact .inl this
    · rename_i hw; rw [if_neg hw] at this; exact this
end
end Go.Proofs.Ytnjopfjmepbpoaa

/- Pure states: control, functions. -/
namespace Go.Proofs.Ytnjopfjmepbpoaa
set_option linter.unusedSimpArgs false
set_option linter.unusedVariables false
set_option linter.unnecessarySimpa false
open Go.RowKit

def Lift (Φ0 : Imm) (W : World) (M : Nat) (Q : Exit → PS → Prop) : Exit → Act → World → Prop := fun e a w => ∃ σ, Q e σ ∧ Rel Φ0 W M σ a w

/-- The code leads from the state to what is asked, in any memory that reads so. -/
def PW (P : Program) (M : Nat) (c : Code) (Q : Exit → PS → Prop) (σ : PS) : Prop := ∀ Φ0 W a w, Rel Φ0 W M σ a w → c.wp P (Lift Φ0 W M Q) a w

def Sub (M : Nat) (σ σ' : PS) : Prop := ∀ Φ0 W a w, Rel Φ0 W M σ a w → Rel Φ0 W M σ' a w
theorem Sub.refl (M : Nat) (σ : PS) : Sub M σ σ := fun _ _ _ _ h => h
theorem Sub.trans {M : Nat} {a b c : PS} (h : Sub M a b) (k : Sub M b c) : Sub M a c := fun _ _ _ _ x => k _ _ _ _ (h _ _ _ _ x)

section
variable {P : Program} {M : Nat} {Q : Exit → PS → Prop} {σ : PS} {T : Tab}

theorem PW.sub {c : Code} {σ' : PS} (h : PW P M c Q σ') (hs : Sub M σ σ') : PW P M c Q σ := fun Φ0 W a w hr => h Φ0 W a w (hs Φ0 W a w hr)
theorem PW.conseq {c : Code} {Q' : Exit → PS → Prop} (h : PW P M c Q' σ) (hq : ∀ e σ, Q' e σ → Q e σ) : PW P M c Q σ :=
  fun Φ0 W a w hr => wp_mono (h Φ0 W a w hr) (fun e a w ⟨σ', h1, h2⟩ => ⟨σ', hq e σ' h1, h2⟩)

/-- What is asked behind the first of two codes. -/
def ThenP (P : Program) (M : Nat) (y : Code) (Q : Exit → PS → Prop) : Exit → PS → Prop
  | .normal, σ => PW P M y Q σ
  | e, σ => Q e σ
theorem PW.seq {x y : Code} (h : PW P M x (ThenP P M y Q) σ) : PW P M (.seq x y) Q σ := by
  intro Φ0 W a w hr
  refine wp_seq (wp_mono (h Φ0 W a w hr) ?_)
  rintro e a' w' ⟨σ', h1, h2⟩
  cases e with
  | normal => exact h1 Φ0 W a' w' h2
  | _ => exact ⟨σ', h1, h2⟩

theorem PW.skip (h : Q .normal σ) : PW P M .skip Q σ := fun Φ0 W a w hr => wp_skip ⟨σ, h, hr⟩
theorem PW.label {l : Nat} (h : Q .normal σ) : PW P M (.label l) Q σ := fun Φ0 W a w hr => wp_label ⟨σ, h, hr⟩
theorem PW.exit {i : Nat} (h : Q (.exit i) σ) : PW P M (.exit i) Q σ := fun Φ0 W a w hr => wp_exit ⟨σ, h, hr⟩
theorem PW.ret (h : Q .ret σ) : PW P M .ret Q σ := fun Φ0 W a w hr => wp_ret ⟨σ, h, hr⟩

theorem PW.cond {c : Operand} {x y : Code} {b : Bool} (hc : pev σ c = .val (.bool b)) (h1 : b = true → PW P M x Q σ) (h2 : b = false → PW P M y Q σ) : PW P M (.cond c x y) Q σ := by
  intro Φ0 W a w hr
  obtain ⟨Φ, μ, ω, hg⟩ := hr
  have hv := hg.ev c
  rw [hc] at hv
  obtain ⟨hv, -⟩ := hv.val_inv
  refine wp_cond_split hv (fun e => h1 e Φ0 W a w ⟨Φ, μ, ω, hg⟩) (fun e => h2 e Φ0 W a w ⟨Φ, μ, ω, hg⟩)

def BlockP (id : Nat) (Q : Exit → PS → Prop) : Exit → PS → Prop
  | .exit i, σ => if i = id then Q .normal σ else Q (.exit i) σ
  | e, σ => Q e σ
theorem PW.block {id : Nat} {c : Code} (h : PW P M c (BlockP id Q) σ) : PW P M (.block id c) Q σ := by
  intro Φ0 W a w hr
  refine wp_block (wp_mono (h Φ0 W a w hr) ?_)
  rintro e a' w' ⟨σ', h1, h2⟩
  cases e with
  | exit i =>
    simp only [BlockP] at h1
    simp only [Exit.inBlock]
    split at h1
    · rename_i e; simp only [e, if_true]; exact ⟨σ', h1, h2⟩
    · rename_i e; simp only [e, if_false]; exact ⟨σ', h1, h2⟩
  | _ => exact ⟨σ', h1, h2⟩

/-- What is asked of a round. -/
def LoopP {α : Type} (M : Nat) (st : α → PS) (I : α → Prop) (m : α → Nat) (x : α) (Q : Exit → PS → Prop) : Exit → PS → Prop
  | .normal, σ => ∃ y, I y ∧ m y < m x ∧ Sub M σ (st y)
  | e, σ => Q e σ
theorem PW.loop {α : Type} {c : Code} (st : α → PS) (I : α → Prop) (m : α → Nat) (x0 : α) (hi : I x0) (h0 : Sub M σ (st x0)) (round : ∀ x, I x → PW P M c (LoopP M st I m x Q) (st x)) : PW P M (.loop c) Q σ := by
  intro Φ0 W a w hr b k cs
  have key : ∀ n x a w, m x = n → I x → Rel Φ0 W M (st x) a w → ∃ e a' w', Lift Φ0 W M Q e a' w' ∧ Arrives P (lone (b.at a (.code c :: .inLoop c :: k)) cs w) b k cs e a' w' := by
    intro n
    induction n using Nat.strongRecOn with
    | _ n ih =>
      intro x a w hn hi' hI
      obtain ⟨e, a₁, w₁, ⟨σ₁, hq, hrel⟩, harr⟩ := round x hi' Φ0 W a w hI b (.inLoop c :: k) cs
      cases e with
      | normal =>
        obtain ⟨y, hy, hlt, hsub⟩ := hq
        obtain ⟨e₂, a₂, w₂, hq₂, harr₂⟩ := ih (m y) (hn ▸ hlt) y a₁ w₁ rfl hy (hsub _ _ _ _ hrel)
        exact ⟨e₂, a₂, w₂, hq₂, .of_steps (Steps.trans harr (.one step_inLoop)) harr₂⟩
      | exit id => exact ⟨_, a₁, w₁, ⟨σ₁, hq, hrel⟩, .pass (x := .inLoop c) rfl (fun _ _ => .inl (by simp)) harr⟩
      | goto l => exact ⟨_, a₁, w₁, ⟨σ₁, hq, hrel⟩, .pass (x := .inLoop c) rfl (fun _ _ => .inl (by simp)) harr⟩
      | ret => exact ⟨_, a₁, w₁, ⟨σ₁, hq, hrel⟩, .pass (x := .inLoop c) rfl (fun _ _ => .inl (by simp)) harr⟩
      | panic ch => exact ⟨_, a₁, w₁, ⟨σ₁, hq, hrel⟩, .pass (x := .inLoop c) rfl (fun _ _ => .inl (by simp)) harr⟩
      | outgrown => exact ⟨_, a₁, w₁, ⟨σ₁, hq, hrel⟩, .pass (x := .inLoop c) rfl (fun _ _ => .inl (by simp)) harr⟩
  obtain ⟨e, a', w', hq, harr⟩ := key _ x0 a w rfl hi (h0 _ _ _ _ hr)
  exact ⟨e, a', w', hq, .of_steps (.one step_loop) harr⟩

theorem zip_range (ops : List Oper) : ∀ k, ((ops.zipIdx k).map (·.2)) = List.range' k ops.length := by
  induction ops with
  | nil => intro k; rfl
  | cons o ops ih => intro k; simp [ih (k+1), List.range'_succ]

def indexed : Nat → List Oper → List (Nat × Oper)
  | _, [] => []
  | i, o :: r => (i, o) :: indexed (i + 1) r
theorem indexed_fst : ∀ (i : Nat) (l : List Oper), (indexed i l).map (·.1) = List.range' i l.length
  | _, [] => rfl
  | i, o :: r => by simp [indexed, indexed_fst (i+1) r, List.range'_succ]
theorem indexed_mem : ∀ (i : Nat) (l : List Oper) (x : Nat × Oper), x ∈ indexed i l → i ≤ x.1 ∧ l[x.1 - i]? = some x.2
  | _, [], x, h => by cases h
  | i, o :: r, x, h => by
    simp only [indexed, List.mem_cons] at h
    rcases h with rfl | h
    · simp
    · obtain ⟨h1, h2⟩ := indexed_mem (i+1) r x h
      refine ⟨by omega, ?_⟩
      rw [show x.1 - i = (x.1 - (i+1)) + 1 by omega]
      simpa using h2

/-- A region in the order of the text. -/
theorem PW.region (hT : T = tabOf P) {id : Nat} {ops : List Oper} (hall : ops.all (dstB M) = true) (h : PWops P T ops.toArray (1000 * id) (fun _ _ => true) (indexed 0 ops) (Q .normal) σ) : PW P M (.region id ops.toArray false) Q σ := by
  intro Φ0 W a w hr
  refine wp_region ?_
  have := ops_sound (Φ0 := Φ0) (W := W) (M := M) hT (ops := ops.toArray) (by
    intro j o hj
    exact List.all_eq_true.1 hall o (mem_of_get (by simpa using hj))) (Q := Q .normal) (Q' := Lift Φ0 W M Q) (fun σ a w hq hrel => ⟨_, hq, hrel⟩) (indexed 0 ops) (by
    intro x hx
    obtain ⟨-, h2⟩ := indexed_mem 0 ops x hx
    simpa using h2) σ a w h hr
  rw [indexed_fst] at this
  rw [List.range_eq_range', List.size_toArray]
  exact this

/-- A result. -/
def pres1 (T : Tab) (σ : PS) : ResultVar → Option PV
  | .tmp t => some (σ.t t)
  | .cell x ty => match T.at ty with
    | some ti => ploadAt ti σ.b (σ.t x).bare
    | none => none
def presult (T : Tab) (σ : PS) : List ResultVar → Option PV
  | [x] => pres1 T σ x
  | xs => (xs.mapM (pres1 T σ)).map fun l => .tup (l.map PV.bare)

def RetP (T : Tab) (rs : List ResultVar) (post : PV → Prop) : Exit → PS → Prop
  | .ret, σ => ∃ r, presult T σ rs = some r ∧ Low r ∧ post r
  | .normal, σ => ∃ r, presult T σ rs = some r ∧ Low r ∧ post r
  | _, _ => False

def initS (args : List PV) : PS := { t := fun t => (args[t]?).getD .undef, b := fun _ => none }

theorem pres1_sound (hT : T = tabOf P) {Φ0 : Imm} {W : World} {Φ : Imm} {μ : Nat → Option Nat} {ω : Nat → Option Who} {a : Act} {w : World} (h : RelG Φ0 W M Φ μ ω σ a w) {x : ResultVar} {r : PV} (hp : pres1 T σ x = some r) :
    ∃ v, (match x with | .tmp t => pure (a.tmps.getD t undef) | .cell y t => do loadVar t (← asAddr (a.tmps.getD y undef)) : Sem Value).run P w = .ok v w ∧ Rep Φ μ r v ∧ (r.ownB = true → ∃ t, r = σ.t t ∧ v = a.tmps.getD t undef) := by
  cases x with
  | tmp t =>
    simp only [pres1, Option.some.injEq] at hp
    subst hp
    exact ⟨a.tmps.getD t undef, by simp, h.tmps t, fun _ => ⟨t, rfl, rfl⟩⟩
  | cell y ty =>
    simp only [pres1] at hp
    split at hp
    · rename_i ti ht
      obtain ⟨u, r1, r2, r3⟩ := h.load (P := P) (tab_at hT ht) (h.tmps y).bare hp
      refine ⟨u, ?_, r2, fun e => by rw [r3] at e; cases e⟩
      have hb := (h.tmps y).bare
      have : ∃ ad, a.tmps.getD y undef = .pointer (some ad) := by
        unfold ploadAt at hp
        split at hp
        · rename_i e; rw [e] at hb; obtain ⟨g, -, e2⟩ := hb.ptr_inv; exact ⟨_, e2⟩
        · rename_i e; rw [e] at hb; obtain ⟨_, _, _, e2, _⟩ := hb.ep_inv; exact ⟨_, e2⟩
        · cases hp
      obtain ⟨ad, e⟩ := this
      simp only
      rw [e] at r1 ⊢
      simpa [asAddr, Instr.loadAt, Instr.sureAddr] using r1
    · cases hp

theorem pcalls_of_pw (hT : T = tabOf P) {f : FuncId} {fn : Func} {c : Code} {args : List PV} {post : PV → Prop} (hf : P.funcs[f]? = some fn) (hb : fn.body = some c) (hcb : callB P f = true) (hlow : ∀ p ∈ args, Low p) (hno : ∀ p ∈ args, p.ownB = false) (hn : args.length ≤ fn.ntmps)
    (h : PW P fn.ntmps c (RetP T fn.results.toList post) (initS args)) : PCalls P f args post := by
  refine ⟨hcb, fun Φ μ w vs himm hrep => calls_of_wp hf hb ?_⟩
  have hrel : Rel Φ w fn.ntmps (initS args) { tmps := vs.toArray ++ Array.replicate (fn.ntmps - vs.toArray.size) undef, defers := [] } w := by
    refine ⟨Φ, mu0, fun _ => none, Below.refl _ _, rfl, by simp [hrep.1]; omega, himm, fun _ _ _ => rfl, fun t => ?_, fun t n k cs E e => ?_, fun id bs e => (by cases e), fun _ _ => rfl, fun g p e => (by cases e)⟩
    · simp only [initS]
      cases ht : args[t]? with
      | none => exact .undef _
      | some p =>
        obtain ⟨u, hu, hru⟩ := hrep.get ht
        have hlt : t < vs.length := (List.getElem?_eq_some_iff.1 hu).1
        have : (vs.toArray ++ Array.replicate (fn.ntmps - vs.toArray.size) undef).getD t undef = u := by
          rw [Array.getD_eq_getD_getElem?, Array.getElem?_append_left (by simpa using hlt)]
          simp [hu]
        rw [this]
        exact hru.low (hlow p (mem_of_get ht))
    · simp only [initS] at e
      cases ht : args[t]? with
      | none => rw [ht] at e; simp at e
      | some p =>
        rw [ht] at e
        simp at e
        have := hno p (mem_of_get ht)
        rw [e] at this; simp [PV.ownB] at this
  refine wp_mono (h Φ w _ w hrel) ?_
  rintro e a' w' ⟨σ', hq, hrel'⟩
  obtain ⟨Φ', μ', ω', hg⟩ := hrel'
  have fin : ∀ r, presult T σ' fn.results.toList = some r → Low r → post r → a'.defers = [] ∧ ∃ v, (results fn a'.tmps).run P w' = .ok v w' ∧ CallPost Φ w post (.returned v) w' := by
    intro r hpr hl hpost
    refine ⟨hg.defers, ?_⟩
    have done : ∀ v, (results fn a'.tmps).run P w' = .ok v w' → Rep Φ' μ' r v → (r.ownB = true → ∃ t, r = σ'.t t ∧ v = a'.tmps.getD t undef) → ∃ v, (results fn a'.tmps).run P w' = .ok v w' ∧ CallPost Φ w post (.returned v) w' := by
      intro v r1 r2 r3
      refine ⟨v, r1, r, v, Φ', rfl, hpost, r2.low hl, hg.imm, hg.old, hg.below, fun n k cs E e => ?_⟩
      obtain ⟨t, e1, e2⟩ := r3 (by rw [e]; rfl)
      subst e2
      rcases hg.own t n k cs E (by rw [← e1, e]) with ho | ⟨g, cap, cur, k1, k2, k3, k4, k5, k6, k7, k8⟩
      · exact .inl ho
      · exact .inr ⟨g, cap, cur, k1, k2, k3, k4, k5, k6, rfl, k8⟩
    unfold presult at hpr
    split at hpr
    · rename_i x hx
      obtain ⟨v, r1, r2, r3⟩ := pres1_sound hT hg hpr
      refine done v ?_ r2 r3
      unfold results
      rw [Sem.run_bind, Array.mapM_eq_mapM_toList, Sem.run_map, hx, run_mapM_list (P := P) (w := w') _ [x] [v] rfl (by
        intro j x' y h1 h2
        cases j with
        | zero => simp at h1 h2; subst h1 h2; exact r1
        | succ j => simp at h1)]
      simp
    · rename_i hne
      obtain ⟨l, hl', rfl⟩ := Option.map_eq_some_iff.1 hpr
      have hget := mapM_get _ _ _ hl'
      have hlen := mapM_len _ _ _ hl'
      have hex : ∃ us : List Value, us.length = l.length ∧ ∀ (j : Nat) p u, l[j]? = some p → us[j]? = some u → Rep Φ' μ' p u ∧ ∀ x, fn.results.toList[j]? = some x → (match x with | .tmp t => pure (a'.tmps.getD t undef) | .cell y t => do loadVar t (← asAddr (a'.tmps.getD y undef)) : Sem Value).run P w' = .ok u w' := by
        have : ∀ j : Nat, ∃ u, ∀ p, l[j]? = some p → Rep Φ' μ' p u ∧ ∀ x, fn.results.toList[j]? = some x → (match x with | .tmp t => pure (a'.tmps.getD t undef) | .cell y t => do loadVar t (← asAddr (a'.tmps.getD y undef)) : Sem Value).run P w' = .ok u w' := by
          intro j
          cases hj : l[j]? with
          | none => exact ⟨undef, fun p e => by cases e⟩
          | some p =>
            obtain ⟨x, hx, hpx⟩ := hget j p hj
            obtain ⟨v, r1, r2, r3⟩ := pres1_sound hT hg hpx
            refine ⟨v, fun p' e => ?_⟩
            cases e
            refine ⟨r2, fun x' hx' => ?_⟩
            rw [hx] at hx'; cases hx'
            exact r1
        obtain ⟨us, hus⟩ := Classical.axiomOfChoice this
        refine ⟨(List.range l.length).map us, by simp, fun j p u h1 h2 => ?_⟩
        have hj : j < l.length := (List.getElem?_eq_some_iff.1 h1).1
        simp [hj] at h2
        subst h2
        exact hus j p h1
      obtain ⟨us, hul, hus⟩ := hex
      refine done (.tuple us.toArray) ?_ ?_ (fun e => by simp [PV.ownB] at e)
      · unfold results
        rw [Sem.run_bind, Array.mapM_eq_mapM_toList, Sem.run_map, run_mapM_list (P := P) (w := w') _ fn.results.toList us (by rw [hul, hlen]) (by
          intro j x y h1 h2
          have hj : j < l.length := by rw [← hul]; exact (List.getElem?_eq_some_iff.1 h2).1
          exact (hus j l[j] y (by simp [hj]) h2).2 x h1)]
        have hne1 : us.length ≠ 1 := by
          rw [hul, hlen]
          intro e1
          obtain ⟨x, hx⟩ := List.length_eq_one_iff.1 e1
          exact hne x hx
        simp [hne1]
      · exact (repL_bare ⟨hul, fun j p u h1 h2 => (hus j p u h1 h2).1⟩).tup
  cases e with
  | ret => obtain ⟨r, k1, k2, k3⟩ := hq; exact fin r k1 k2 k3
  | normal => obtain ⟨r, k1, k2, k3⟩ := hq; exact fin r k1 k2 k3
  | _ => exact hq.elim
end
end Go.Proofs.Ytnjopfjmepbpoaa

/- Pure states: the steps of a walk. -/
namespace Go.Proofs.Ytnjopfjmepbpoaa
set_option linter.unusedSimpArgs false
set_option linter.unusedVariables false
set_option linter.unnecessarySimpa false
open Go.RowKit

section
variable {P : Program} {M : Nat} {Q : Exit → PS → Prop} {σ : PS} {T : Tab} {ops : Array Oper} {i : Nat} {o : Oper} {rest : List (Nat × Oper)} {K : PS → Prop}

/-- A value, its form laid open. -/
def fcell : PV → Option PV
  | .undef => some .undef
  | .val (.int k n) => some (.val (.int k n))
  | .val (.bool b) => some (.val (.bool b))
  | .val (.string b) => some (.val (.string b))
  | .val v => some (.val v)
  | .nilsl => some .nilsl
  | .sl n k cs o => some (.sl n k cs o)
  | .ptr id off => some (.ptr id off)
  | .ep cs off => some (.ep cs off)
  | .fn f cs => some (.fn f cs)
  | .agg cs => some (.agg cs)
  | .tup cs => some (.tup cs)
theorem fcell_eq {p q : PV} (h : fcell p = some q) : p = q := by
  unfold fcell at h
  split at h <;> simpa using h
def flist : List PV → Option (List PV)
  | [] => some []
  | c :: cs => match fcell c, flist cs with
    | some d, some ds => some (d :: ds)
    | _, _ => none
theorem flist_eq : ∀ {l r : List PV}, flist l = some r → l = r
  | [], r, h => by simpa [flist] using h
  | c :: cs, r, h => by
    simp only [flist] at h
    split at h
    · rename_i d ds h1 h2
      rw [fcell_eq h1, flist_eq h2]
      simpa using h
    · cases h
def fval : PV → Option PV
  | .agg cs => (flist cs).map .agg
  | .tup cs => (flist cs).map .tup
  | .fn f cs => (flist cs).map (.fn f)
  | p => fcell p
theorem fval_eq {p q : PV} (h : fval p = some q) : p = q := by
  unfold fval at h
  split at h
  · obtain ⟨r, hr, rfl⟩ := Option.map_eq_some_iff.1 h; rw [flist_eq hr]
  · obtain ⟨r, hr, rfl⟩ := Option.map_eq_some_iff.1 h; rw [flist_eq hr]
  · obtain ⟨r, hr, rfl⟩ := Option.map_eq_some_iff.1 h; rw [flist_eq hr]
  · exact fcell_eq h
def feff : Option Eff → Option PV
  | some ⟨v, none, none⟩ => fval v
  | _ => none
def feffO : Option Eff → Option (PV × Nat)
  | some ⟨v, none, some s⟩ => (fval v).map fun p => (p, s)
  | _ => none
def feffB : Option Eff → Option (PV × Nat × List PV)
  | some ⟨v, some (id, cs), none⟩ => match fval v, flist cs with
    | some p, some l => some (p, id, l)
    | _, _ => none
  | _ => none
def PS.setb (σ : PS) (id : Nat) (cs : List PV) : PS := { t := σ.t, b := upd σ.b id (some cs) }

variable {base : Nat} {ok : Nat → Nat → Bool}
theorem PWops.step {E : Eff} (hg : pguard ops σ o = some true) (hE : presE T (headB ops o.dst) (base + i) (σ.only (ok i)) o.op = some E) (hb : σ.b (base + i) = none) (k : PWops P T ops base ok rest K (σ.app o.dst E)) : PWops P T ops base ok ((i, o) :: rest) K σ := by
  exact ⟨E, .inr ⟨hg, .inl ⟨hE, hb⟩⟩, k⟩

/-- An operation that yields a value. -/
theorem PWops.val {d : Nat} {p : PV} (hg : pguard ops σ o = some true) (hd : o.dst = some d) (hE : feff (presE T (headB ops o.dst) (base + i) (σ.only (ok i)) o.op) = some p) (hb : σ.b (base + i) = none) (k : PWops P T ops base ok rest K (σ.put d p)) : PWops P T ops base ok ((i, o) :: rest) K σ := by
  unfold feff at hE
  split at hE
  · rename_i v h
    refine PWops.step hg h hb ?_
    rw [hd, fval_eq hE]
    exact k
  · cases hE
/-- An operation that takes what is one's own. -/
theorem PWops.own {d s : Nat} {p q : PV} (hg : pguard ops σ o = some true) (hd : o.dst = some d) (hE : feffO (presE T (headB ops o.dst) (base + i) (σ.only (ok i)) o.op) = some (p, s)) (hb : σ.b (base + i) = none) (hq : fval (σ.t s).bare = some q) (k : PWops P T ops base ok rest K ((σ.put s q).put d p)) : PWops P T ops base ok ((i, o) :: rest) K σ := by
  unfold feffO at hE
  split at hE
  · rename_i v s' h
    obtain ⟨p', hp, e⟩ := Option.map_eq_some_iff.1 hE
    cases e
    refine PWops.step hg h hb ?_
    rw [hd, fval_eq hp]
    simp only [PS.app]
    rw [fval_eq hq]
    exact k
  · cases hE
def isLit : Op → Bool
  | .buildSlice .. => true
  | _ => false
def feffL : Option Eff → Option (Nat × Nat × List PV × TypeId)
  | some ⟨.sl n k cs (some e), none, none⟩ => match flist cs with
    | some l => some (n, k, l, e)
    | none => none
  | _ => none
/-- A slice that is written out. -/
theorem PWops.lit {d n k e : Nat} {l : List PV} (hl : isLit o.op = true) (hg : pguard ops σ o = some true) (hd : o.dst = some d) (hE : feffL (presE T (headB ops o.dst) (base + i) (σ.only (ok i)) o.op) = some (n, k, l, e)) (hb : σ.b (base + i) = none) (kn : PWops P T ops base ok rest K (σ.put d (.sl n k l (some e)))) : PWops P T ops base ok ((i, o) :: rest) K σ := by
  unfold feffL at hE
  split at hE
  · rename_i n' k' cs' e' h
    split at hE
    · rename_i l' hl'
      cases hE
      refine PWops.step hg h hb ?_
      rw [hd, flist_eq hl']
      exact kn
    · cases hE
  · cases hE
/-- A new variable. -/
theorem PWops.var {d id : Nat} {p : PV} {cs : List PV} (hg : pguard ops σ o = some true) (hd : o.dst = some d) (hE : feffB (presE T (headB ops o.dst) (base + i) (σ.only (ok i)) o.op) = some (p, id, cs)) (hb : σ.b (base + i) = none) (k : PWops P T ops base ok rest K ((σ.setb id cs).put d p)) : PWops P T ops base ok ((i, o) :: rest) K σ := by
  unfold feffB at hE
  split at hE
  · rename_i v id' cs' h
    split at hE
    · rename_i p' l hp hl
      cases hE
      refine PWops.step hg h hb ?_
      rw [hd, fval_eq hp, flist_eq hl]
      exact k
    · cases hE
  · cases hE
/-- A store. -/
theorem PWops.store {id : Nat} {p : PV} {cs : List PV} (hg : pguard ops σ o = some true) (hd : o.dst = none) (hE : feffB (presE T (headB ops o.dst) (base + i) (σ.only (ok i)) o.op) = some (p, id, cs)) (hb : σ.b (base + i) = none) (k : PWops P T ops base ok rest K (σ.setb id cs)) : PWops P T ops base ok ((i, o) :: rest) K σ := by
  unfold feffB at hE
  split at hE
  · rename_i v id' cs' h
    split at hE
    · rename_i p' l hp hl
      cases hE
      refine PWops.step hg h hb ?_
      rw [hd, flist_eq hl]
      exact k
    · cases hE
  · cases hE

def feffBO : Option Eff → Option (Nat × List PV × Nat)
  | some ⟨_, some (id, cs), some s⟩ => match flist cs with
    | some l => some (id, l, s)
    | none => none
  | _ => none
/-- A store of what is one's own. -/
theorem PWops.storeO {id s : Nat} {q : PV} {cs : List PV} (hg : pguard ops σ o = some true) (hd : o.dst = none) (hE : feffBO (presE T (headB ops o.dst) (base + i) (σ.only (ok i)) o.op) = some (id, cs, s)) (hb : σ.b (base + i) = none) (hq : fval (σ.t s).bare = some q) (k : PWops P T ops base ok rest K ((σ.put s q).setb id cs)) : PWops P T ops base ok ((i, o) :: rest) K σ := by
  unfold feffBO at hE
  split at hE
  · rename_i v id' cs' s' h
    split at hE
    · rename_i l hl
      cases hE
      refine PWops.step hg h hb ?_
      rw [hd, flist_eq hl]
      simp only [PS.app]
      rw [fval_eq hq]
      exact k
    · cases hE
  · cases hE

/-- An operation that is passed over. -/
theorem PWops.pass {d : Nat} (hg : pguard ops σ o = some false) (hd : o.dst = some d) (k : PWops P T ops base ok rest K (σ.put d (.tup []))) : PWops P T ops base ok ((i, o) :: rest) K σ := by
  refine ⟨_, .inl ⟨hg, rfl⟩, ?_⟩
  rw [hd]
  exact k

theorem PWops.call {d : Nat} {f : FuncId} {args : List PV} {r : PV} (hg : pguard ops σ o = some true) (hd : o.dst = some d) (hc : pcall σ o.op = some (f, args)) (hp : PCalls P f args (· = r)) (k : PWops P T ops base ok rest K (σ.put d r)) : PWops P T ops base ok ((i, o) :: rest) K σ := by
  refine ⟨_, .inr ⟨hg, .inr ⟨f, args, r, d, hd, hc, hp, rfl⟩⟩, ?_⟩
  rw [hd]
  exact k

theorem PWops.done (k : K σ) : PWops P T ops base ok [] K σ := k

theorem thenP {y : Code} (h : PW P M y Q σ) : ThenP P M y Q .normal σ := h
theorem thenP_exit {y : Code} {j : Nat} (h : Q (.exit j) σ) : ThenP P M y Q (.exit j) σ := h
theorem thenP_ret {y : Code} (h : Q .ret σ) : ThenP P M y Q .ret σ := h
theorem blockP {id : Nat} (h : Q .normal σ) : BlockP id Q .normal σ := h
theorem blockP_exit {id : Nat} (h : Q .normal σ) : BlockP id Q (.exit id) σ := by simpa [BlockP] using h
theorem blockP_other {id j : Nat} (hj : j ≠ id) (h : Q (.exit j) σ) : BlockP id Q (.exit j) σ := by simpa [BlockP, hj] using h
theorem blockP_ret {id : Nat} (h : Q .ret σ) : BlockP id Q .ret σ := h
theorem loopP {α : Type} {st : α → PS} {I : α → Prop} {m : α → Nat} {x : α} (y : α) (hi : I y) (hm : m y < m x) (hs : Sub M σ (st y)) : LoopP M st I m x Q .normal σ := ⟨y, hi, hm, hs⟩
theorem loopP_exit {α : Type} {st : α → PS} {I : α → Prop} {m : α → Nat} {x : α} {j : Nat} (h : Q (.exit j) σ) : LoopP M st I m x Q (.exit j) σ := h
theorem loopP_ret {α : Type} {st : α → PS} {I : α → Prop} {m : α → Nat} {x : α} (h : Q .ret σ) : LoopP M st I m x Q .ret σ := h
def fres : Option PV → Option PV
  | some p => fval p
  | none => none
theorem retP {rs : List ResultVar} {post : PV → Prop} {r : PV} (h1 : fres (presult T σ rs) = some r) (h2 : Low r) (h3 : post r) : RetP T rs post .ret σ := by
  cases h : presult T σ rs with
  | none => rw [h] at h1; cases h1
  | some p => rw [h] at h1; have := fval_eq h1; subst this; exact ⟨p, h, h2, h3⟩

/-- Nothing is known. -/
def bot : PS := { t := fun _ => .undef, b := fun _ => none }

/-- Forgetting: only slots, no variables in memory. -/
theorem Sub.nobox {σ' : PS} (hb : ∀ id, σ.b id = none) (hb' : ∀ id, σ'.b id = none) (ht : ∀ t, σ'.t t = .undef ∨ σ'.t t = σ.t t ∨ σ'.t t = (σ.t t).bare ∨ (∃ k E, σ'.t t = .sl 0 k [] (some E) ∧ σ.t t = .nilsl)) : Sub M σ σ' := by
  rintro Φ0 W a w ⟨Φ, μ, ω, h⟩
  have h1 := h.forget σ'.t ht
  refine ⟨Φ, μ, ω, h1.below, h1.defers, h1.size, h1.imm, h1.old, h1.tmps, h1.own, fun id bs e => ?_, fun id _ => h.gone id (hb id), h1.lt⟩
  rw [hb' id] at e; cases e

/-- Forgetting slots alone. -/
theorem Sub.keep {σ' : PS} (hb : σ'.b = σ.b) (ht : ∀ t, σ'.t t = .undef ∨ σ'.t t = σ.t t ∨ σ'.t t = (σ.t t).bare ∨ (∃ k E, σ'.t t = .sl 0 k [] (some E) ∧ σ.t t = .nilsl)) : Sub M σ σ' := by
  rintro Φ0 W a w ⟨Φ, μ, ω, h⟩
  have h1 := h.forget σ'.t ht
  refine ⟨Φ, μ, ω, h1.below, h1.defers, h1.size, h1.imm, h1.old, h1.tmps, h1.own, fun id bs e => h1.box id bs (by rw [hb] at e; exact e), fun id e => h1.gone id (by rw [hb] at e; exact e), h1.lt⟩

/-- Forgetting variables in memory too: what is kept does not name them. -/
theorem Sub.drop {σ' : PS} (hb : ∀ id, σ'.b id = none ∨ σ'.b id = σ.b id) (hc : ∀ id bs, σ'.b id = some bs → ∀ c ∈ bs, Low c) (hl : ∀ t, Low (σ'.t t) ∨ ∃ id off, σ'.t t = .ptr id off ∧ σ'.b id ≠ none)
    (ht : ∀ t, σ'.t t = .undef ∨ σ'.t t = σ.t t ∨ σ'.t t = (σ.t t).bare ∨ (∃ k E, σ'.t t = .sl 0 k [] (some E) ∧ σ.t t = .nilsl)) : Sub M σ σ' := by
  rintro Φ0 W a w ⟨Φ, μ, ω, h⟩
  have h1 := h.forget σ'.t ht
  refine ⟨Φ, fun id => if σ'.b id = none then none else μ id, ω, h1.below, h1.defers, h1.size, h1.imm, h1.old, fun t => ?_, h1.own, fun id bs e => ?_, fun id e => by simp [e], h1.lt⟩
  · rcases hl t with hl | ⟨id, off, e, hne⟩
    · exact (h1.tmps t).low hl
    · have := h1.tmps t
      simp only [e] at this ⊢
      obtain ⟨g, hg, hv⟩ := this.ptr_inv
      rw [hv]
      exact .ptr id off g (by simp [hne, hg])
  · have e' : σ.b id = some bs := by
      rcases hb id with hb | hb
      · rw [hb] at e; cases e
      · rw [← hb]; exact e
    obtain ⟨g, cur, T, k1, k2, k3, k4, k5, k6, k7⟩ := h1.box id bs e'
    refine ⟨g, cur, T, by simp [e, k1], k2, k3, k4, k5, k6, fun j c hcj => ?_⟩
    obtain ⟨u, r1, r2, r3, r4⟩ := k7 j c hcj
    exact ⟨u, r1, r2, r3.low (hc id bs e c (mem_of_get hcj)), r4⟩
theorem bot_b : ∀ id, bot.b id = none ∨ bot.b id = σ.b id := fun _ => .inl rfl
theorem setb_b {σ' : PS} {id : Nat} {cs : List PV} (h : ∀ i, σ'.b i = none ∨ σ'.b i = σ.b i) (e : σ.b id = some cs) : ∀ i, (σ'.setb id cs).b i = none ∨ (σ'.setb id cs).b i = σ.b i := by
  intro i
  by_cases hi : i = id
  · subst hi; right; simp [PS.setb, upd_if, e]
  · simp only [PS.setb, upd_if, if_neg hi]; exact h i
theorem put_b {σ' : PS} {d : Nat} {p : PV} (h : ∀ i, σ'.b i = none ∨ σ'.b i = σ.b i) : ∀ i, (σ'.put d p).b i = none ∨ (σ'.put d p).b i = σ.b i := h
theorem bot_c : ∀ id bs, bot.b id = some bs → ∀ c ∈ bs, Low c := fun id bs e => by cases e
theorem setb_c {σ' : PS} {id : Nat} {cs : List PV} (h : ∀ id bs, σ'.b id = some bs → ∀ c ∈ bs, Low c) (e : ∀ c ∈ cs, Low c) : ∀ i bs, (σ'.setb id cs).b i = some bs → ∀ c ∈ bs, Low c := by
  intro i bs
  by_cases hi : i = id
  · subst hi; intro e'; simp [PS.setb, upd_if] at e'; subst e'; exact e
  · simp only [PS.setb, upd_if, if_neg hi]; exact h i bs
theorem put_c {σ' : PS} {d : Nat} {p : PV} (h : ∀ id bs, σ'.b id = some bs → ∀ c ∈ bs, Low c) : ∀ i bs, (σ'.put d p).b i = some bs → ∀ c ∈ bs, Low c := h
theorem bot_l {b : Nat → Option (List PV)} : ∀ t, Low (bot.t t) ∨ ∃ id off, bot.t t = .ptr id off ∧ b id ≠ none := fun _ => .inl .undef
theorem setb_l {b : Nat → Option (List PV)} {σ' : PS} {id : Nat} {cs : List PV} (h : ∀ t, Low (σ'.t t) ∨ ∃ id off, σ'.t t = .ptr id off ∧ b id ≠ none) : ∀ t, Low ((σ'.setb id cs).t t) ∨ ∃ id' off, (σ'.setb id cs).t t = .ptr id' off ∧ b id' ≠ none := h
theorem put_l {b : Nat → Option (List PV)} {σ' : PS} {d : Nat} {p : PV} (h : ∀ t, Low (σ'.t t) ∨ ∃ id off, σ'.t t = .ptr id off ∧ b id ≠ none) (hp : Low p ∨ ∃ id off, p = .ptr id off ∧ b id ≠ none) : ∀ t, Low ((σ'.put d p).t t) ∨ ∃ id off, (σ'.put d p).t t = .ptr id off ∧ b id ≠ none := by
  intro t
  by_cases ht : t = d
  · subst ht; simp only [PS.put, upd_if, if_true]; exact hp
  · simp only [PS.put, upd_if, if_neg ht]; exact h t
theorem setb_t {σ' : PS} {id : Nat} {cs : List PV} (h : ∀ t, σ'.t t = .undef ∨ σ'.t t = σ.t t ∨ σ'.t t = (σ.t t).bare ∨ (∃ k E, σ'.t t = .sl 0 k [] (some E) ∧ σ.t t = .nilsl)) : ∀ t, (σ'.setb id cs).t t = .undef ∨ (σ'.setb id cs).t t = σ.t t ∨ (σ'.setb id cs).t t = (σ.t t).bare ∨ (∃ k E, (σ'.setb id cs).t t = .sl 0 k [] (some E) ∧ σ.t t = .nilsl) := h

/-- One slot more is known. -/
theorem sub_put {σ' : PS} {d : Nat} {p : PV} (h : ∀ t, σ'.t t = .undef ∨ σ'.t t = σ.t t ∨ σ'.t t = (σ.t t).bare ∨ (∃ k E, σ'.t t = .sl 0 k [] (some E) ∧ σ.t t = .nilsl)) (hp : p = σ.t d ∨ p = (σ.t d).bare ∨ (∃ k E, p = .sl 0 k [] (some E) ∧ σ.t d = .nilsl)) :
    ∀ t, (σ'.put d p).t t = .undef ∨ (σ'.put d p).t t = σ.t t ∨ (σ'.put d p).t t = (σ.t t).bare ∨ (∃ k E, (σ'.put d p).t t = .sl 0 k [] (some E) ∧ σ.t t = .nilsl) := by
  intro t
  by_cases ht : t = d
  · subst ht
    simp only [PS.put, upd_if, if_true]
    rcases hp with h | h | h
    · exact .inr (.inl h)
    · exact .inr (.inr (.inl h))
    · exact .inr (.inr (.inr h))
  · simp only [PS.put, upd_if, if_neg ht]
    exact h t
theorem sub_bot : ∀ t, bot.t t = .undef ∨ bot.t t = σ.t t ∨ bot.t t = (σ.t t).bare ∨ (∃ k E, bot.t t = .sl 0 k [] (some E) ∧ σ.t t = .nilsl) := fun _ => .inl rfl

/-- The names of what is encoded. -/
def pint (z : Int) : PV := .val (.int .i64 z)
def pstr (s : ByteArray) : PV := .val (.string s)
def pbool (b : Bool) : PV := .val (.bool b)
def pints (zs : List Int) : PV := .sl zs.length 1 (zs.map pint) none
def pstrs (l : List ByteArray) : PV := .sl l.length 1 (l.map pstr) none
end
end Go.Proofs.Ytnjopfjmepbpoaa
