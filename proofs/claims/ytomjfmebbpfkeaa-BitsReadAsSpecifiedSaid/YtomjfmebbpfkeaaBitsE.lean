/- The walk of antiquaryref11.Of. -/
import Derived.Test.YtomjfmebbpfkeaaBitsC
import Derived.Test.YtomjfmebbpfkeaaPlainB
namespace Go.Proofs.Ytomjfmebbpfkeaa
set_option linter.unusedSimpArgs false
set_option linter.unusedVariables false
set_option linter.unnecessarySimpa false
open Go.RowKit

/-- The call returns a set, or an error. -/
def MadeSet (w : World) (zs : List Int) (er : Int) (e : Ending) (w' : World) : Prop :=
  ∃ v, e = .returned (.agg #[v, .int .i64 er]) ∧ Own w.heap.size 3 w' v (zs.map (Value.int .i64)) ∧ Below w.heap.size w w'

theorem two_cells {w : World} {g E : Nat} {x y : Value} (h : w.heap[g]? = some (.cells #[x, y] E (0, 0))) :
    w.cell? ⟨g, 0, none⟩ = some x ∧ w.cell? ⟨g, 1, none⟩ = some y ∧ w.frozen? ⟨g, 0, none⟩ = false ∧ w.frozen? ⟨g, 1, none⟩ = false := by
  simp [World.cell?, World.frozen?, h]

set_option maxRecDepth 100000 in
set_option maxHeartbeats 1000000 in
theorem refOf (v : Value) (zs : List Int) (w : World) (hv : Ints w v zs) (hl : zs.length ≤ 100000) :
    Calls Try.prog 12 #[v] w (MadeSet w (ofB zs) (ofE zs)) := by
  obtain ⟨a, cap, b, off, rfl, hcap, hm, ha, hc⟩ := hv.open
  go_enter Try.func12, Try.ntmps12
  go_wp2_with (at_make; refine wp_make (.const (.int .i64 4096)) (.const (.int .i64 4096)) 53 4 1 _ elemBool rfl rfl Try.underlying53 (w.heap.size + 1) (by simp) .i64 .i64 4096 _ _ rfl rfl rfl rfl (by decide) (by decide) ?_; intro v' w1 hown0 hb0)
  have hown1 : Own (w.heap.size + 1) 4 w1 v' ((tab (fun _ => false)).map Value.bool) := by
    rw [← tab_false, List.map_replicate]; exact hown0
  have hblk : w1.heap[w.heap.size]? = some (.cells #[.slice none 0 0, .int .i64 0] 29 (0, 0)) := by
    rw [hb0.block w.heap.size (by simp)]; exact heap_alloc_new w _
  have hb1 : Below w.heap.size w w1 := ((Below.refl _ _).alloc (Nat.le_refl _) _).trans (hb0.mono (by simp))
  clear hown0 hb0
  obtain ⟨g1, cp1, hvv, -⟩ := hown1.block (by simp [tab_length])
  rw [List.length_map, tab_length] at hvv
  subst hvv
  go_loopw [4] (fun i wr => ∃ k : Nat, k ≤ zs.length ∧ i = .int .i64 k ∧ Own (w.heap.size + 1) 4 wr (.slice (some ⟨g1, 0, none⟩) 4096 cp1) ((tab (fun j => (zs.take k).contains j)).map Value.bool) ∧ Below w.heap.size w wr ∧ Hid (wr.heap[w.heap.size]? = some (.cells #[.slice none 0 0, .int .i64 0] 29 (0, 0))) ∧ Hid ((zs.take k).all inR = true)) (fun i _ => zs.length - (intOf i).toNat)
  case atStart => exact ⟨0, by omega, rfl, hown1, hb1, hblk, by simp [Hid]⟩
  case round =>
    obtain ⟨k, hk, rfl, hown, hb, hbk, hall⟩ := hrel
    have HBr := Hid.mk hb
    clear hb
    by_cases hlt : k < zs.length
    · obtain ⟨y, hy⟩ := ints_get zs k (by omega)
      have c1 := below_cell HBr.out (hc.out k y hy)
      obtain rfl := ha (by omega)
      clear ha
      by_cases gy : inR y = true
      · have g0 := gy
        simp only [inR, Bool.and_eq_true, decide_eq_true_eq] at g0
        obtain ⟨g2, g3⟩ := g0
        have g2' : decide (y < 0) = false := by simp; omega
        have g3' : decide (4096 ≤ y) = false := by simp; omega
        obtain ⟨x, rfl⟩ : ∃ x : Nat, y = x := ⟨y.toNat, by omega⟩
        obtain ⟨g, cp, hvv, hBg, hgs, hcell, hfr, hset⟩ := hown.block (by simp [tab_length])
        rw [List.length_map, tab_length] at hvv
        simp only [Value.slice.injEq, Option.some.injEq, Addr.mk.injEq, and_true, true_and] at hvv
        obtain ⟨rfl, rfl⟩ := hvv
        have cc := hcell.out x _ (by rw [List.getElem?_map, tab_get _ x (by omega)]; rfl)
        have ff := hfr.out x
        have N : Hid (Own (w.heap.size + 1) 4 (wr.setCell ⟨g1, x, none⟩ (.bool true)) (.slice (some ⟨g1, 0, none⟩) 4096 cp1) ((tab (fun j => (zs.take (k+1)).contains j)).map Value.bool)) := by
          have h1 := hset.out x (.bool true)
          rw [List.length_map, tab_length, ← List.map_set, tab_set] at h1
          rw [tab_congr (g := fun j => if j = (x : Int) then true else (zs.take k).contains j)]
          · exact h1
          · intro j _ _
            rw [contains_take zs k x j hy]
            by_cases e : j = x <;> simp [e]
        have N2 : Hid ((wr.setCell ⟨g1, x, none⟩ (.bool true)).heap[w.heap.size]? = some (.cells #[.slice none 0 0, .int .i64 0] 29 (0, 0))) := by
          rw [Hid, Below.heap_setCell _ _ _ _ (by simp; omega)]; exact hbk
        have N3 : Hid ((zs.take (k+1)).all inR = true) := by rw [Hid, all_take zs k x hy, hall.out, gy]; rfl
        clear hy gy
        go_wp2
        go_roundw
        case rel => exact ⟨k + 1, by omega, by go_num, N.out, HBr.out.setCell (by simp; omega) _, N2, N3⟩
        case measure => simp [intOf]; omega
      · have gf : inR y = false := by simpa using gy
        have hno : zs.all inR = false := not_all zs k y hy gf
        have N1 : Hid (ofB zs = [] ∧ ofE zs = 1) := by simp [Hid, ofB, ofE, hno]
        have gg : y < 0 ∨ 4096 ≤ y := by
          simp only [inR, Bool.and_eq_false_iff, decide_eq_false_iff_not] at gf; omega
        obtain ⟨d1, d2, d3, d4⟩ := two_cells hbk.out
        clear hy gy gf hno
        rcases gg with gg | gg
        · go_wp2
          refine bodyPost_ret (v := .agg #[.slice none 0 0, .int .i64 1]) (by simp [results, Try.results12, go_sem, d1, d2]) rfl ⟨_, by rw [N1.out.2], by rw [N1.out.1]; exact Own.nil _ _ _, ?_⟩
          exact (HBr.out.setCell (by simp) _).setCell (by simp) _
        · go_wp2
          refine bodyPost_ret (v := .agg #[.slice none 0 0, .int .i64 1]) (by simp [results, Try.results12, go_sem, d1, d2]) rfl ⟨_, by rw [N1.out.2], by rw [N1.out.1]; exact Own.nil _ _ _, ?_⟩
          exact (HBr.out.setCell (by simp) _).setCell (by simp) _
    · have e : zs.take k = zs := List.take_of_length_le (by omega)
      have HO := Hid.mk hown
      rw [e] at HO hall
      have N1 : Hid (ofB zs = bitsL (tab (fun j => zs.contains j)) ∧ ofE zs = 0) := by simp [Hid, ofB, ofE, hall.out]
      clear hown e
      go_wp2_with (go_at_call 42; refine (refBits _ _ _ HO.out.rd (by rw [tab_length]; omega)).mono ?_; rintro e w3 ⟨v3, rfl, ho3, hb3⟩; generalize bitsL (tab fun j => zs.contains j) = bl at ho3 N1; obtain ⟨ao, co, rfl⟩ := ho3.formInts; obtain ⟨d1, d2, d3, d4⟩ := two_cells ((hb3.block w.heap.size (by have := HO.out.block (by simp [tab_length]); obtain ⟨_, _, _, h1, h2, _⟩ := this; omega)).trans hbk.out))
      have hw3 : wr.heap.size ≤ w3.heap.size := hb3.size
      refine bodyPost_ret (v := .agg #[.slice ao bl.length co, .int .i64 0]) (by simp [results, Try.results12, go_sem, d1, d2]) rfl ⟨_, by rw [N1.out.2], ?_, ?_⟩
      · rw [N1.out.1]
        have hlt2 : w.heap.size < wr.heap.size := by
          obtain ⟨_, _, _, h1, h2, _⟩ := HO.out.block (by simp [tab_length]); omega
        exact Own.lower (ownsRow_setCell_below (ownsRow_setCell_below ho3 (by simpa using hlt2) _) (by simpa using hlt2) _) (by omega)
      · exact ((HBr.out.trans (hb3.mono HBr.out.size)).setCell (by simp) _).setCell (by simp) _
end Go.Proofs.Ytomjfmebbpfkeaa
