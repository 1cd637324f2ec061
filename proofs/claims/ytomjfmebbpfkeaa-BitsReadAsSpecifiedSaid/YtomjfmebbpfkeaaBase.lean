import Derived.Test.YtomjfmebbpfkeaaRows
import Derived.WalkKit
import Derived.WalkSpells
import Derived.WalkLawsBesides
import Derived.Deep.QuietTactic
import Derived.BigQuiet
import Derived.RegionTactic

namespace Go.Proofs.Ytomjfmebbpfkeaa
set_option linter.unusedSimpArgs false
set_option linter.unusedVariables false
set_option linter.unnecessarySimpa false
open Go.RowKit

/-- The slice v reads in w as the one-cell elements cs. -/
def Rd (w : World) (v : Value) (cs : List Value) : Prop :=
  ∃ a cap b off, v = .slice a cs.length cap ∧ cs.length ≤ cap ∧ cap ≤ maxLen ∧ (0 < cs.length → a = some ⟨b, off, none⟩) ∧
    ∀ j u, cs[j]? = some u → w.cell? ⟨b, off + j, none⟩ = some u

def Ints (w : World) (v : Value) (zs : List Int) : Prop := Rd w v (zs.map (Value.int .i64))

theorem Rd.below {w w' : World} {v : Value} {cs : List Value} (h : Rd w v cs) (hb : Below w.heap.size w w') : Rd w' v cs := by
  obtain ⟨a, cap, b, off, h1, h2, h3, h4, h5⟩ := h
  refine ⟨a, cap, b, off, h1, h2, h3, h4, fun j u hu => ?_⟩
  have := h5 j u hu
  rw [← this]
  exact hb.cell (World.block_lt_of_cell? _ _ this)

theorem Ints.open {w : World} {v : Value} {zs : List Int} (h : Ints w v zs) : ∃ a cap b off, v = .slice a zs.length cap ∧ zs.length ≤ cap ∧ cap ≤ maxLen ∧
    (0 < zs.length → a = some ⟨b, off, none⟩) ∧ Hid (∀ j x, zs[j]? = some x → w.cell? ⟨b, off + j, none⟩ = some (.int .i64 x)) := by
  obtain ⟨a, cap, b, off, h1, h2, h3, h4, h5⟩ := h
  simp only [List.length_map] at h1 h2 h4
  exact ⟨a, cap, b, off, h1, h2, h3, h4, fun j x hx => h5 j _ (by simp [hx])⟩

theorem ints_get {α : Type} (zs : List α) (k : Nat) (h : k < zs.length) : ∃ x, zs[k]? = some x := ⟨zs[k], by simp [h]⟩

/-- The call's own slice of one-cell elements of type E. -/
def Own (B : Nat) (E : TypeId) (w : World) (v : Value) (cs : List Value) : Prop := w.ownsRow B E 1 v cs.length cs

theorem Own.nil (B E w) : Own B E w (.slice none 0 0) [] := World.ownsRow_nil w B E 1

theorem Own.rd {B E : Nat} {w : World} {v : Value} {cs : List Value} (h : Own B E w v cs) : Rd w v cs := by
  rcases h.2 with ⟨rfl, hn⟩ | ⟨g, cap, cur, rfl, hb, hgg, hc, hm, hs, ht⟩
  · exact ⟨none, 0, 0, 0, by rw [hn], by omega, by unfold maxLen; omega, fun hh => by omega, fun j u hu => by
      have : cs = [] := List.eq_nil_of_length_eq_zero hn
      subst this; simp at hu⟩
  · refine ⟨_, cap, g, 0, rfl, hc, hm, fun _ => rfl, fun j u hu => ?_⟩
    have := World.ownsRow.cells h (g := g) rfl j u hu
    rw [← this]; unfold Addr.add; split <;> simp_all

theorem Own.rdInts {B E : Nat} {w : World} {v : Value} {zs : List Int} (h : Own B E w v (zs.map (Value.int .i64))) : Ints w v zs := h.rd

theorem Own.kept {B E : Nat} {w w' : World} {v : Value} {cs : List Value} (h : Own B E w v cs) (hb : Below w.heap.size w w') : Own B E w' v cs := by
  refine ⟨h.1, ?_⟩
  rcases h.2 with hn | ⟨g, cap, cur, rfl, hb1, hgg, rest⟩
  · exact .inl hn
  · exact .inr ⟨g, cap, cur, rfl, hb1, by rw [hb.block g (Array.getElem?_eq_some_iff.1 hgg).1]; exact hgg, rest⟩

theorem Own.alloc {B E : Nat} {w : World} {v : Value} {cs : List Value} (h : Own B E w v cs) (o : Obj) : Own B E (w.alloc o) v cs := World.ownsRow.alloc h o
theorem Own.drewN {B E : Nat} {w : World} {v : Value} {cs : List Value} (h : Own B E w v cs) {n : Nat} : Own B E (w.drewN n) v cs := h
theorem Own.drew {B E : Nat} {w : World} {v : Value} {cs : List Value} (h : Own B E w v cs) : Own B E w.drew v cs := h

/-- What the type table says of a one-cell element type. -/
structure Elem1 (P : Program) (E : TypeId) (z : Value) (bytes : Nat) : Prop where
  info : (P.info? E).map (fun i => (i.zero, i.size, i.bytes)) = some (some z, 1, bytes)
  one : z.cells = #[z]

/-- append(v, x): the one new element has just been laid in a block of its own. -/
theorem wp_push {P : Program} {ops : Array Oper} {rest : List Oper} {o : Oper} {a : Act} {Q : Exit → Act → World → Prop} {w0 : World} (s x : Operand) (t T E bytes : TypeId) (z : Value) (he : Elem1 P E z bytes)
    (hgd : o.guard = none) (ho : o.op = .call { callee := .builtin .append, args := #[s, x], argTypes := #[t, t] })
    (ht : P.underlying t = some (.slice E)) (B : Nat) (v u : Value) (cs : List Value) (hs : a.eval s = v) (hown : Own B E w0 v cs)
    (hx : a.eval x = .slice (some ⟨w0.heap.size, 0, none⟩) 1 1) (h1 : u.oneCell' = true)
    (h63 : cs.length + 1 ≤ maxLen) (hbytes : (cs.length + 1) * bytes ≤ 140737488355328) (hB : B ≤ w0.heap.size)
    (h : ∀ v' w', Own B E w' v' (cs ++ [u]) → Below B w0 w' → wpList P ops Q rest (a.put o.dst v') w') : wpList P ops Q (o :: rest) a (w0.alloc (.cells #[u] T)) := by
  obtain ⟨i0, hi, hz0, hz1, hz2⟩ := info_parts he.info
  refine wpList_append_own _ hgd s x t ho B E i0 z 1 bytes ht hi hz0 hz1 hz2 (by rw [he.one]; rfl) (by decide) v cs.length cs hs (World.ownsRow.alloc hown _) ⟨w0.heap.size, 0, none⟩ 1 1 [u] hx rfl ?_ ?_ h63 hbytes (by simp; omega) ?_
  · intro j y hj
    match j, hj with
    | 0, hj => simp at hj; subst hj; simp [Addr.add]
  · intro y hy; simp at hy; subst hy; exact h1
  · intro v' w' hown' hg _
    refine h v' w' (by simpa [Own] using hown') ?_
    exact ((Below.refl _ _).alloc hB _).grown hg (by simp; omega) (fun k hk => (World.ownsRow.lt hown k hk).1)

theorem Own.lit (w : World) (cs : List Value) (E B : Nat) (hB : B ≤ w.heap.size) (hm : cs.length ≤ maxLen) :
    Own B E (w.alloc (.cells cs.toArray E)) (.slice (some ⟨w.heap.size, 0, none⟩) cs.length cs.length) cs :=
  ⟨by simp, .inr ⟨w.heap.size, cs.length, cs.toArray, rfl, hB, heap_alloc_new w _, Nat.le_refl _, hm, by simp, by simp⟩⟩

/-- The call returns a new slice of ints. -/
def MadeInts (E : TypeId) (w : World) (zs : List Int) (e : Ending) (w' : World) : Prop :=
  ∃ v, e = .returned v ∧ Own w.heap.size E w' v (zs.map (Value.int .i64)) ∧ Below w.heap.size w w'

/-- The call returns a new slice of one-cell elements. -/
def MadeRow (E : TypeId) (w : World) (cs : List Value) (e : Ending) (w' : World) : Prop :=
  ∃ v, e = .returned v ∧ Own w.heap.size E w' v cs ∧ Below w.heap.size w w'

theorem Own.form {B E : Nat} {w : World} {v : Value} {cs : List Value} (h : Own B E w v cs) : ∃ a cap, v = .slice a cs.length cap := by
  rcases h.2 with ⟨rfl, hn⟩ | ⟨g, cap, cur, rfl, _⟩
  · exact ⟨none, 0, by rw [hn]⟩
  · exact ⟨_, _, rfl⟩

theorem Own.formInts {B E : Nat} {w : World} {v : Value} {zs : List Int} (h : Own B E w v (zs.map (Value.int .i64))) : ∃ a cap, v = .slice a zs.length cap := by
  obtain ⟨a, cap, e⟩ := h.form
  exact ⟨a, cap, by simpa using e⟩

theorem below_cell {w w' : World} {p : Addr} {v : Value} (h : Below w.heap.size w w') (hc : w.cell? p = some v) : w'.cell? p = some v :=
  (h.cell (World.block_lt_of_cell? _ _ hc)).trans hc

/-- An own slice that is not empty: its block, its cells, a store into it. -/
theorem Own.block {B E : Nat} {w : World} {v : Value} {cs : List Value} (h : Own B E w v cs) (hne : 0 < cs.length) : ∃ g cap, v = .slice (some ⟨g, 0, none⟩) cs.length cap ∧ B ≤ g ∧ g < w.heap.size ∧
    Hid (∀ (j : Nat) (u : Value), cs[j]? = some u → w.cell? ⟨g, j, none⟩ = some u) ∧ Hid (∀ j : Nat, w.frozen? ⟨g, j, none⟩ = false) ∧
    Hid (∀ (j : Nat) (u : Value), Own B E (w.setCell ⟨g, j, none⟩ u) (.slice (some ⟨g, 0, none⟩) cs.length cap) (cs.set j u)) := by
  rcases h.2 with ⟨rfl, hn⟩ | ⟨g, cap, cur, rfl, hb, hgg, hc, hm, hs, ht⟩
  · omega
  · refine ⟨g, cap, rfl, hb, (Array.getElem?_eq_some_iff.1 hgg).1, ?_, ?_, ?_⟩
    · intro j u hu
      have := World.ownsRow.cells h (g := g) rfl j u hu
      rw [← this]; unfold Addr.add; split <;> simp_all
    · intro j; simp [World.frozen?, hgg]
    · intro j u
      refine ⟨by simp, .inr ⟨g, cap, cur.setIfInBounds j u, by simp, hb, ?_, by simpa using hc, hm, by simpa using hs, ?_⟩⟩
      · simp [World.setCell, Array.getElem?_modify, hgg]
      · simp only [List.length_set, Nat.mul_one] at ht ⊢
        rw [Array.toList_setIfInBounds, List.take_set, ht]

/-- make([]T, n), n ints. -/
theorem wp_make {P : Program} {ops : Array Oper} {rest : List Oper} {o : Oper} {a : Act} {Q : Exit → Act → World → Prop} {w : World} (l c : Operand) (t E bytes : TypeId) (z : Value) (he : Elem1 P E z bytes)
    (hgd : o.guard = none) (ho : o.op = Op.makeSlice t l c) (ht : P.underlying t = some (.slice E)) (B : Nat) (hB : B ≤ w.heap.size) (kl kc : IntKind) (n : Nat) (L C : Int) (hl : a.eval l = .int kl L) (hc : a.eval c = .int kc C)
    (hL : L = (n : Int)) (hC : C = (n : Int)) (b2 : bytes * n ≤ 281474976710656) (b3 : n ≤ maxLen)
    (h : ∀ v' w', Own B E w' v' (List.replicate n z) → Below w.heap.size w w' → wpList P ops Q rest (a.put o.dst v') w') : wpList P ops Q (o :: rest) a w := by
  obtain ⟨i0, hi, hz0, hz1, hz2⟩ := info_parts he.info
  refine wpList_make_full w hgd l c t ho B E i0 z 1 ht hi hz0 hz1 kl kc L C n hl hc hL hC (by rw [hz2]; exact b2) b3 hB ?_
  intro w' hown hg
  refine h _ w' ?_ ((Below.refl _ _).grown hg (Nat.le_refl _) (by intro k hk; cases hk))
  have e : (madeCells z.cells (n * 1)).toList = List.replicate n z := by
    rw [he.one]
    apply List.ext_getElem
    · simp [madeCells]
    · intro k h1 h2
      simp [madeCells, Nat.mod_one]
  rw [e] at hown
  simpa [Own] using hown

theorem Hid.mk {p : Prop} (h : p) : Hid p := h
theorem ret_bool {a b : Bool} (h : a = b) : Ending.returned (.bool a) = .returned (.bool b) := by rw [h]
theorem ret_int {k : IntKind} {a b : Int} (h : a = b) : Ending.returned (.int k a) = .returned (.int k b) := by rw [h]

/-- The world is as it was, but for draws. -/
def Still (w w' : World) : Prop := ∃ n, w' = w.drewN n
theorem Still.refl (w : World) : Still w w := ⟨0, rfl⟩
theorem Still.one (w : World) (n : Nat) : Still w (w.drewN n) := ⟨n, rfl⟩
theorem Still.two (w : World) (n m : Nat) : Still w ((w.drewN n).drewN m) := ⟨_, World.drewN_drewN _ _ _⟩
theorem Still.below {w w' : World} (h : Still w w') (B : Nat) : Below B w w' := by
  obtain ⟨n, rfl⟩ := h
  exact ⟨rfl, rfl, rfl, Nat.le_refl _, fun _ _ => rfl⟩

theorem Below.upto {B : Nat} {w w' : World} (h : Below w.heap.size w w') (hB : B ≤ w.heap.size) : Below B w w' := h.mono hB
end Go.Proofs.Ytomjfmebbpfkeaa
