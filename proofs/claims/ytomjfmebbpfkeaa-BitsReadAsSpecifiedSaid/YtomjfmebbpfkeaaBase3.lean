/- append of a slice that is not empty. -/
import Derived.Test.YtomjfmebbpfkeaaBase2
namespace Go.Proofs.Ytomjfmebbpfkeaa
set_option linter.unusedSimpArgs false
set_option linter.unusedVariables false
set_option linter.unnecessarySimpa false
open Go.RowKit

theorem wp_append {P : Program} {ops : Array Oper} {rest : List Oper} {o : Oper} {a : Act} {Q : Exit → Act → World → Prop} {w : World} (s x : Operand) (t E : TypeId) (bytes : Nat) (z : Value) (he : Elem1 P E z bytes)
    (hgd : o.guard = none) (ho : o.op = .call { callee := .builtin .append, args := #[s, x], argTypes := #[t, t] })
    (ht : P.underlying t = some (.slice E)) (B : Nat) (v u : Value) (cs cs2 : List Value) (hs : a.eval s = v) (hown : Own B E w v cs)
    (hx : a.eval x = u) (hr : Rd w u cs2) (hne : 0 < cs2.length) (h1 : ∀ c ∈ cs2, c.oneCell' = true)
    (h63 : cs.length + cs2.length ≤ maxLen) (hbytes : (cs.length + cs2.length) * bytes ≤ 140737488355328) (hB : B ≤ w.heap.size)
    (h : ∀ v' w', Own B E w' v' (cs ++ cs2) → Below B w w' → wpList P ops Q rest (a.put o.dst v') w') : wpList P ops Q (o :: rest) a w := by
  obtain ⟨i0, hi, hz0, hz1, hz2⟩ := info_parts he.info
  obtain ⟨aa, cap, b, off, rfl, r2, r3, r4, r5⟩ := hr
  have r4' := r4 hne
  subst r4'
  refine wpList_append_own _ hgd s x t ho B E i0 z 1 bytes ht hi hz0 hz1 hz2 (by rw [he.one]; rfl) (by decide) v cs.length cs hs hown ⟨b, off, none⟩ cs2.length cap cs2 hx (by simp) ?_ h1 h63 hbytes hB ?_
  · intro j y hj
    rw [Addr.add_lit]; exact r5 j y hj
  · intro v' w' hown' hg _
    refine h v' w' (by simpa [Own] using hown') ?_
    exact (Below.refl _ _).grown hg hB (fun k hk => (World.ownsRow.lt hown k hk).1)

end Go.Proofs.Ytomjfmebbpfkeaa
