/- The walks of antiquaryref11: Bools, Bits, And, Or, Minus, Run. -/
import Derived.Test.YtomjfmebbpfkeaaBitsB
import Derived.Test.YtomjfmebbpfkeaaBase2
namespace Go.Proofs.Ytomjfmebbpfkeaa
set_option linter.unusedSimpArgs false
set_option linter.unusedVariables false
set_option linter.unnecessarySimpa false
open Go.RowKit

theorem elemBool : Elem1 Try.prog 4 (.bool false) 1 := ⟨by kernel_rfl, rfl⟩

/-- The call returns a new slice of bools. -/
def MadeBools (w : World) (bs : List Bool) (e : Ending) (w' : World) : Prop :=
  ∃ v, e = .returned v ∧ Own w.heap.size 4 w' v (bs.map Value.bool) ∧ Below w.heap.size w w'

set_option maxRecDepth 100000 in
set_option maxHeartbeats 1000000 in
theorem refBools (v : Value) (zs : List Int) (w : World) (hv : Ints w v zs) (hg : Good zs) :
    Calls Try.prog 47 #[v] w (MadeBools w (tab (hasL zs))) := by
  obtain ⟨a, cap, b, off, rfl, hcap, hm, ha, hc⟩ := hv.open
  have hl := hg.len
  have G := Hid.mk hg.rng
  have hev := hg.even
  go_enter Try.func47, Try.ntmps47
  go_wp2_with (at_make; go_loud (refine wp_make (.const (.int .i64 4096)) (.const (.int .i64 4096)) 53 4 1 _ elemBool rfl rfl Try.underlying53 w.heap.size (Nat.le_refl _) .i64 .i64 4096 _ _ rfl rfl rfl rfl (by decide) (by decide) ?_); intro v' w1 hown0 hb0)
  have hown1 : Own w.heap.size 4 w1 v' ((tab (fun _ => false)).map Value.bool) := by
    rw [← tab_false, List.map_replicate]; exact hown0
  clear hown0
  go_loopw [4] (fun i wr => ∃ k : Nat, k ≤ zs.length ∧ k % 2 = 0 ∧ i = .int .i64 k ∧ Own w.heap.size 4 wr v' ((tab (hasL (zs.take k))).map Value.bool) ∧ Below w.heap.size w wr) (fun i _ => zs.length - (intOf i).toNat)
  case atStart => exact ⟨0, by omega, by omega, rfl, hown1, hb0⟩
  case round =>
    obtain ⟨k, hk, hk2, rfl, hown, hb⟩ := hrel
    have HB := Hid.mk hb
    clear hb
    by_cases hlt : k + 1 < zs.length
    · obtain ⟨y, hy⟩ := ints_get zs k (by omega)
      obtain ⟨z, hz⟩ := ints_get zs (k+1) (by omega)
      have c1 := below_cell HB.out (hc.out k y hy)
      obtain ⟨y1, y2⟩ := G.out k y hy
      obtain ⟨z1, z2⟩ := G.out (k+1) z hz
      have yz := hg.asc k y z hy hz
      obtain rfl := ha (by omega)
      clear ha
      have C2 := Hid.mk (hc.out (k+1) z hz)
      have HT : Hid (∀ j, hasL (zs.take (k+2)) j = (hasL (zs.take k) j || (decide (y ≤ j) && decide (j < z)))) := fun j => hasL_take zs k y z j hy hz hk2
      clear hy hz
      go_wp2
      go_loopw [5] (fun i wr => ∃ x : Nat, y ≤ x ∧ (x : Int) ≤ z ∧ i = .int .i64 x ∧ Own w.heap.size 4 wr v' ((tab (fun j => hasL (zs.take k) j || (decide (y ≤ j) && decide (j < x)))).map Value.bool) ∧ Below w.heap.size w wr) (fun i _ => z.toNat - (intOf i).toNat)
      case atStart =>
        refine ⟨y.toNat, by omega, by omega, by congr 1; omega, ?_, HB.out⟩
        rw [tab_congr (g := hasL (zs.take k))]
        · exact hown
        · intro j _ _
          rw [show (decide (y ≤ j) && decide (j < (y.toNat : Int))) = false by rw [Bool.and_eq_false_iff]; simp; omega]; simp
      case round =>
        obtain ⟨x, x1, x2, rfl, hown', hb'⟩ := hrel
        have HB' := Hid.mk hb'
        clear hb'
        have c2 := below_cell HB'.out C2.out
        obtain ⟨g, cp, hvv, hBg, hgs, hcell, hfr, hset⟩ := hown'.block (by simp [tab_length])
        rw [List.length_map, tab_length] at hvv
        subst hvv
        by_cases gg : (x : Int) < z
        · have cc := hcell.out x (.bool (hasL (zs.take k) x || (decide (y ≤ (x : Int)) && decide ((x : Int) < x)))) (by rw [List.getElem?_map, tab_get _ x (by omega)]; rfl)
          have ff := hfr.out x
          go_wp2
          go_roundw
          case rel =>
            refine ⟨x + 1, by omega, by omega, by go_num, ?_, HB'.out.setCell hBg _⟩
            have h1 := hset.out x (.bool true)
            rw [List.length_map, tab_length, ← List.map_set, tab_set] at h1
            rw [tab_congr (g := fun j => if j = (x : Int) then true else (hasL (zs.take k) j || (decide (y ≤ j) && decide (j < x))))]
            · exact h1
            · intro j _ _
              by_cases e : j = x
              · rw [if_pos e]; simp; right; omega
              · rw [if_neg e]; congr 2; simp; omega
          case measure => simp [intOf]; omega
        · go_wp2
          go_roundw
          case rel =>
            refine ⟨k + 2, by omega, by omega, by go_num, ?_, HB'.out⟩
            rw [tab_congr (g := fun j => hasL (zs.take k) j || (decide (y ≤ j) && decide (j < x)))]
            · exact hown'
            · intro j _ _
              rw [HT.out]; congr 2; simp; omega
          case measure => simp [intOf]; omega
    · go_wp2
      go_ret
      refine ⟨_, rfl, ?_, HB.out⟩
      rw [List.take_of_length_le (by omega)] at hown
      exact hown

set_option maxRecDepth 100000 in
set_option maxHeartbeats 1000000 in
theorem refBits (v : Value) (bs : List Bool) (w : World) (hv : Rd w v (bs.map Value.bool)) (hl : bs.length ≤ 100000) :
    Calls Try.prog 42 #[v] w (MadeInts 3 w (bitsL bs)) := by
  obtain ⟨a, cap, b, off, rfl, hcap, hm, ha, hc⟩ := hv
  have hlen : (bs.map Value.bool).length = bs.length := List.length_map ..
  rw [hlen] at hcap ha ⊢
  clear hlen
  have HC := Hid.mk hc
  clear hc
  go_enter Try.func42, Try.ntmps42
  go_wp2
  go_loopw [3, 4, 5] (fun o c i wr => ∃ (k : Nat) (was : Bool) (out : List Int), k ≤ bs.length ∧ out.length ≤ k ∧ i = .int .i64 k ∧ c = .bool was ∧ Own w.heap.size 3 wr o (out.map (Value.int .i64)) ∧ Below w.heap.size w wr ∧ Hid (bitsL bs = out ++ bitsGo (bs.drop k) k was)) (fun _ _ i _ => bs.length - (intOf i).toNat)
  case atStart => exact ⟨0, false, [], by omega, by simp, rfl, rfl, Own.nil _ _ _, Below.refl _ _, rfl⟩
  case round =>
    obtain ⟨k, was, out, hk, ho, rfl, rfl, hown, hb, hh⟩ := hrel
    have HB := Hid.mk hb
    clear hb
    by_cases hlt : k < bs.length
    · obtain ⟨y, hy⟩ := ints_get bs k (by omega)
      have HY := Hid.mk (HC.out k (.bool y) (by rw [List.getElem?_map, hy]; rfl))
      have c1 := below_cell HB.out HY.out
      obtain rfl := ha (by omega)
      have H : Hid (_ = _) := bitsGo_drop bs k y k was hy
      clear ha hy
      have hb2 : w.heap.size ≤ wr.heap.size := HB.out.size
      by_cases e : y = was
      · obtain rfl := e
        go_wp2
        go_roundw
        case rel => exact ⟨k + 1, y, out, by omega, by omega, by go_num, rfl, hown, HB.out, by rw [Hid, hh.out, H.out, if_pos rfl]; simp⟩
        case measure => simp [intOf]; omega
      · have e' : (!(y == was)) = true := by cases y <;> cases was <;> simp_all
        go_wp2_with (at_builtin; refine wp_push (.tmp 18) (.tmp 20) 23 _ 3 8 _ elemInt rfl rfl Try.underlying23 w.heap.size _ (.int .i64 k) _ rfl hown rfl rfl (by simp [maxLen]; omega) (by simp; omega) hb2 ?_; intro v' w' hown' hb'; have c2 := below_cell (HB.out.trans hb') HY.out)
        go_roundw
        case rel => exact ⟨k + 1, y, out ++ [(k : Int)], by omega, by simp; omega, by go_num, rfl, by simpa using hown', HB.out.trans hb', by rw [Hid, hh.out, H.out, if_neg e]; simp⟩
        case measure => simp [intOf]; omega
    · have hkk : k = bs.length := by omega
      have hb2 : w.heap.size ≤ wr.heap.size := HB.out.size
      have H : Hid (bitsL bs = out ++ if was then [(k : Int)] else []) := by
        rw [Hid, hh.out, List.drop_eq_nil_of_le (by omega), bitsGo]
      have HK := Hid.mk hkk
      clear hkk hh
      cases was
      · go_wp2
        go_ret
        exact ⟨_, rfl, by rw [H.out]; simpa using hown, HB.out⟩
      · go_wp2_with (at_builtin; refine wp_push (.tmp 27) (.tmp 30) 23 _ 3 8 _ elemInt rfl rfl Try.underlying23 w.heap.size _ (.int .i64 bs.length) _ rfl hown rfl rfl (by simp [maxLen]; omega) (by simp; omega) hb2 ?_; intro v' w' hown' hb')
        go_ret
        exact ⟨_, rfl, by rw [H.out, HK.out]; simpa using hown', HB.out.trans hb'⟩

set_option maxRecDepth 100000 in
set_option maxHeartbeats 1000000 in
theorem refAnd (u v : Value) (xs ys : List Int) (w : World) (hu : Ints w u xs) (hv : Ints w v ys) (gx : Good xs) (gy : Good ys) :
    Calls Try.prog 31 #[u, v] w (MadeInts 3 w (bitsL (tab (fun j => (fun x y => x && y) (hasL xs j) (hasL ys j))))) := by
  go_enter Try.func31, Try.ntmps31
  go_wp2_with fail
  refine (refBools _ xs _ hu gx).mono ?_
  rintro e w1 ⟨v1, rfl, ho1, hb1⟩
  have hv1 := Hid.mk (Rd.below hv hb1)
  go_wp2_with fail
  refine (refBools _ ys _ hv1.out gy).mono ?_
  rintro e w2 ⟨v2, rfl, ho2, hb2⟩
  have HB : Hid (Below w.heap.size w w2) := hb1.trans (hb2.mono hb1.size)
  have ho1' := Hid.mk (ho1.kept hb2)
  have HO2 := Hid.mk ho2
  have hsz : w.heap.size ≤ w1.heap.size := hb1.size
  have hlt1 := ho1.block (by simp [tab_length])
  clear hb1 hb2 ho1 ho2 hu hv hv1
  obtain ⟨g2, cp2, hvv, hBg2, hgs2, hcell2, hfr2, hset2⟩ := HO2.out.block (by simp [tab_length])
  rw [List.length_map, tab_length] at hvv
  subst hvv
  obtain ⟨g1, cp1, hvv, hBg1, hgs1, -, -, -⟩ := hlt1
  rw [List.length_map, tab_length] at hvv
  subst hvv
  go_wp2
  go_loopw [7] (fun i wr => ∃ k : Nat, k ≤ 4096 ∧ i = .int .i64 k ∧ Own w.heap.size 4 wr (.slice (some ⟨g1, 0, none⟩) 4096 cp1) ((tab (fun j => if j < k then (fun x y => x && y) (hasL xs j) (hasL ys j) else hasL xs j)).map Value.bool) ∧ Below w.heap.size w wr ∧ Hid (∀ (j : Nat) u, ((tab (hasL ys)).map Value.bool)[j]? = some u → wr.cell? ⟨g2, j, none⟩ = some u)) (fun i _ => 4096 - (intOf i).toNat)
  case atStart =>
    refine ⟨0, by omega, rfl, ?_, HB.out, hcell2⟩
    rw [tab_congr (g := hasL xs)]
    · exact ho1'.out
    · intro j _ _; rw [if_neg (by omega)]
  case round =>
    obtain ⟨k, hk, rfl, hown, hb, hcl⟩ := hrel
    by_cases hlt : k < 4096
    · obtain ⟨g, cp, hvv, hBg, hgs, hcell, hfr, hset⟩ := hown.block (by simp [tab_length])
      rw [List.length_map, tab_length] at hvv
      simp only [Value.slice.injEq, Option.some.injEq, Addr.mk.injEq, and_true, true_and] at hvv
      obtain ⟨rfl, rfl⟩ := hvv
      obtain ⟨p, hp⟩ : ∃ p, hasL xs k = p := ⟨_, rfl⟩
      obtain ⟨q, hq⟩ : ∃ q, hasL ys k = q := ⟨_, rfl⟩
      have cc := hcell.out k (.bool p) (by rw [List.getElem?_map, tab_get _ k hlt, if_neg (by omega), hp]; rfl)
      have cd := hcl.out k (.bool q) (by rw [List.getElem?_map, tab_get _ k hlt, hq]; rfl)
      have ff := hfr.out k
      have HS : Hid (∀ b, (fun x y => x && y) p q = b → Own w.heap.size 4 (wr.setCell ⟨g1, k, none⟩ (.bool b)) (.slice (some ⟨g1, 0, none⟩) 4096 cp1) ((tab (fun j => if j < ((k + 1 : Nat) : Int) then (fun x y => x && y) (hasL xs j) (hasL ys j) else hasL xs j)).map Value.bool)) := by
        intro b hb
        have h1 := hset.out k (.bool b)
        rw [List.length_map, tab_length, ← List.map_set, tab_set] at h1
        rw [tab_congr (g := fun j => if j = (k : Int) then b else (if j < (k : Int) then (fun x y => x && y) (hasL xs j) (hasL ys j) else hasL xs j))]
        · exact h1
        · intro j _ _
          by_cases e : j = k
          · subst e; rw [if_pos (by omega), if_pos rfl, ← hb, hp, hq]
          · rw [if_neg e]; by_cases e2 : j < k
            · rw [if_pos (by omega), if_pos e2]
            · rw [if_neg (by omega), if_neg e2]
      have HP := Hid.mk hp
      have HQ := Hid.mk hq
      have HBr := Hid.mk hb
      have hne : g2 ≠ g1 := by omega
      have HCL : Hid (∀ b, ∀ (j : Nat) u, ((tab (hasL ys)).map Value.bool)[j]? = some u → (wr.setCell ⟨g1, k, none⟩ (.bool b)).cell? ⟨g2, j, none⟩ = some u) := by
        intro b j u hu
        rw [World.cell?_setCell_other _ _ _ _ (by simp)]
        exact hcl.out j u hu
      clear hp hq hb
      cases p <;> cases q
      all_goals
        go_wp2
        go_roundw
        case rel => exact ⟨k + 1, by omega, by go_num, HS.out _ rfl, HBr.out.setCell hBg _, HCL.out _⟩
        case measure => simp [intOf]; omega
    · have hkk : k = 4096 := by omega
      obtain rfl := hkk
      have hown2 : Own w.heap.size 4 wr (.slice (some ⟨g1, 0, none⟩) 4096 cp1) ((tab (fun j => (fun x y => x && y) (hasL xs j) (hasL ys j))).map Value.bool) := by
        rw [tab_congr (g := fun j => if j < ((4096 : Nat) : Int) then (fun x y => x && y) (hasL xs j) (hasL ys j) else hasL xs j)]
        · exact hown
        · intro j _ _; rw [if_pos (by omega)]
      have HO := Hid.mk hown2
      have HBr := Hid.mk hb
      clear hown hown2 hb
      go_wp2_with (go_at_call 42; refine (refBits _ _ _ HO.out.rd (by rw [tab_length]; omega)).mono ?_; rintro e w3 ⟨v3, rfl, ho3, hb3⟩)
      go_ret
      exact ⟨_, rfl, Own.lower ho3 HBr.out.size, HBr.out.trans (hb3.mono HBr.out.size)⟩

set_option maxRecDepth 100000 in
set_option maxHeartbeats 1000000 in
theorem refOr (u v : Value) (xs ys : List Int) (w : World) (hu : Ints w u xs) (hv : Ints w v ys) (gx : Good xs) (gy : Good ys) :
    Calls Try.prog 33 #[u, v] w (MadeInts 3 w (bitsL (tab (fun j => (fun x y => x || y) (hasL xs j) (hasL ys j))))) := by
  go_enter Try.func33, Try.ntmps33
  go_wp2_with fail
  refine (refBools _ xs _ hu gx).mono ?_
  rintro e w1 ⟨v1, rfl, ho1, hb1⟩
  have hv1 := Hid.mk (Rd.below hv hb1)
  go_wp2_with fail
  refine (refBools _ ys _ hv1.out gy).mono ?_
  rintro e w2 ⟨v2, rfl, ho2, hb2⟩
  have HB : Hid (Below w.heap.size w w2) := hb1.trans (hb2.mono hb1.size)
  have ho1' := Hid.mk (ho1.kept hb2)
  have HO2 := Hid.mk ho2
  have hsz : w.heap.size ≤ w1.heap.size := hb1.size
  have hlt1 := ho1.block (by simp [tab_length])
  clear hb1 hb2 ho1 ho2 hu hv hv1
  obtain ⟨g2, cp2, hvv, hBg2, hgs2, hcell2, hfr2, hset2⟩ := HO2.out.block (by simp [tab_length])
  rw [List.length_map, tab_length] at hvv
  subst hvv
  obtain ⟨g1, cp1, hvv, hBg1, hgs1, -, -, -⟩ := hlt1
  rw [List.length_map, tab_length] at hvv
  subst hvv
  go_wp2
  go_loopw [7] (fun i wr => ∃ k : Nat, k ≤ 4096 ∧ i = .int .i64 k ∧ Own w.heap.size 4 wr (.slice (some ⟨g1, 0, none⟩) 4096 cp1) ((tab (fun j => if j < k then (fun x y => x || y) (hasL xs j) (hasL ys j) else hasL xs j)).map Value.bool) ∧ Below w.heap.size w wr ∧ Hid (∀ (j : Nat) u, ((tab (hasL ys)).map Value.bool)[j]? = some u → wr.cell? ⟨g2, j, none⟩ = some u)) (fun i _ => 4096 - (intOf i).toNat)
  case atStart =>
    refine ⟨0, by omega, rfl, ?_, HB.out, hcell2⟩
    rw [tab_congr (g := hasL xs)]
    · exact ho1'.out
    · intro j _ _; rw [if_neg (by omega)]
  case round =>
    obtain ⟨k, hk, rfl, hown, hb, hcl⟩ := hrel
    by_cases hlt : k < 4096
    · obtain ⟨g, cp, hvv, hBg, hgs, hcell, hfr, hset⟩ := hown.block (by simp [tab_length])
      rw [List.length_map, tab_length] at hvv
      simp only [Value.slice.injEq, Option.some.injEq, Addr.mk.injEq, and_true, true_and] at hvv
      obtain ⟨rfl, rfl⟩ := hvv
      obtain ⟨p, hp⟩ : ∃ p, hasL xs k = p := ⟨_, rfl⟩
      obtain ⟨q, hq⟩ : ∃ q, hasL ys k = q := ⟨_, rfl⟩
      have cc := hcell.out k (.bool p) (by rw [List.getElem?_map, tab_get _ k hlt, if_neg (by omega), hp]; rfl)
      have cd := hcl.out k (.bool q) (by rw [List.getElem?_map, tab_get _ k hlt, hq]; rfl)
      have ff := hfr.out k
      have HS : Hid (∀ b, (fun x y => x || y) p q = b → Own w.heap.size 4 (wr.setCell ⟨g1, k, none⟩ (.bool b)) (.slice (some ⟨g1, 0, none⟩) 4096 cp1) ((tab (fun j => if j < ((k + 1 : Nat) : Int) then (fun x y => x || y) (hasL xs j) (hasL ys j) else hasL xs j)).map Value.bool)) := by
        intro b hb
        have h1 := hset.out k (.bool b)
        rw [List.length_map, tab_length, ← List.map_set, tab_set] at h1
        rw [tab_congr (g := fun j => if j = (k : Int) then b else (if j < (k : Int) then (fun x y => x || y) (hasL xs j) (hasL ys j) else hasL xs j))]
        · exact h1
        · intro j _ _
          by_cases e : j = k
          · subst e; rw [if_pos (by omega), if_pos rfl, ← hb, hp, hq]
          · rw [if_neg e]; by_cases e2 : j < k
            · rw [if_pos (by omega), if_pos e2]
            · rw [if_neg (by omega), if_neg e2]
      have HP := Hid.mk hp
      have HQ := Hid.mk hq
      have HBr := Hid.mk hb
      have hne : g2 ≠ g1 := by omega
      have HCL : Hid (∀ b, ∀ (j : Nat) u, ((tab (hasL ys)).map Value.bool)[j]? = some u → (wr.setCell ⟨g1, k, none⟩ (.bool b)).cell? ⟨g2, j, none⟩ = some u) := by
        intro b j u hu
        rw [World.cell?_setCell_other _ _ _ _ (by simp)]
        exact hcl.out j u hu
      clear hp hq hb
      cases p <;> cases q
      all_goals
        go_wp2
        go_roundw
        case rel => exact ⟨k + 1, by omega, by go_num, HS.out _ rfl, HBr.out.setCell hBg _, HCL.out _⟩
        case measure => simp [intOf]; omega
    · have hkk : k = 4096 := by omega
      obtain rfl := hkk
      have hown2 : Own w.heap.size 4 wr (.slice (some ⟨g1, 0, none⟩) 4096 cp1) ((tab (fun j => (fun x y => x || y) (hasL xs j) (hasL ys j))).map Value.bool) := by
        rw [tab_congr (g := fun j => if j < ((4096 : Nat) : Int) then (fun x y => x || y) (hasL xs j) (hasL ys j) else hasL xs j)]
        · exact hown
        · intro j _ _; rw [if_pos (by omega)]
      have HO := Hid.mk hown2
      have HBr := Hid.mk hb
      clear hown hown2 hb
      go_wp2_with (go_at_call 42; refine (refBits _ _ _ HO.out.rd (by rw [tab_length]; omega)).mono ?_; rintro e w3 ⟨v3, rfl, ho3, hb3⟩)
      go_ret
      exact ⟨_, rfl, Own.lower ho3 HBr.out.size, HBr.out.trans (hb3.mono HBr.out.size)⟩

set_option maxRecDepth 100000 in
set_option maxHeartbeats 1000000 in
theorem refMinus (u v : Value) (xs ys : List Int) (w : World) (hu : Ints w u xs) (hv : Ints w v ys) (gx : Good xs) (gy : Good ys) :
    Calls Try.prog 35 #[u, v] w (MadeInts 3 w (bitsL (tab (fun j => (fun x y => x && !y) (hasL xs j) (hasL ys j))))) := by
  go_enter Try.func35, Try.ntmps35
  go_wp2_with fail
  refine (refBools _ xs _ hu gx).mono ?_
  rintro e w1 ⟨v1, rfl, ho1, hb1⟩
  have hv1 := Hid.mk (Rd.below hv hb1)
  go_wp2_with fail
  refine (refBools _ ys _ hv1.out gy).mono ?_
  rintro e w2 ⟨v2, rfl, ho2, hb2⟩
  have HB : Hid (Below w.heap.size w w2) := hb1.trans (hb2.mono hb1.size)
  have ho1' := Hid.mk (ho1.kept hb2)
  have HO2 := Hid.mk ho2
  have hsz : w.heap.size ≤ w1.heap.size := hb1.size
  have hlt1 := ho1.block (by simp [tab_length])
  clear hb1 hb2 ho1 ho2 hu hv hv1
  obtain ⟨g2, cp2, hvv, hBg2, hgs2, hcell2, hfr2, hset2⟩ := HO2.out.block (by simp [tab_length])
  rw [List.length_map, tab_length] at hvv
  subst hvv
  obtain ⟨g1, cp1, hvv, hBg1, hgs1, -, -, -⟩ := hlt1
  rw [List.length_map, tab_length] at hvv
  subst hvv
  go_wp2
  go_loopw [7] (fun i wr => ∃ k : Nat, k ≤ 4096 ∧ i = .int .i64 k ∧ Own w.heap.size 4 wr (.slice (some ⟨g1, 0, none⟩) 4096 cp1) ((tab (fun j => if j < k then (fun x y => x && !y) (hasL xs j) (hasL ys j) else hasL xs j)).map Value.bool) ∧ Below w.heap.size w wr ∧ Hid (∀ (j : Nat) u, ((tab (hasL ys)).map Value.bool)[j]? = some u → wr.cell? ⟨g2, j, none⟩ = some u)) (fun i _ => 4096 - (intOf i).toNat)
  case atStart =>
    refine ⟨0, by omega, rfl, ?_, HB.out, hcell2⟩
    rw [tab_congr (g := hasL xs)]
    · exact ho1'.out
    · intro j _ _; rw [if_neg (by omega)]
  case round =>
    obtain ⟨k, hk, rfl, hown, hb, hcl⟩ := hrel
    by_cases hlt : k < 4096
    · obtain ⟨g, cp, hvv, hBg, hgs, hcell, hfr, hset⟩ := hown.block (by simp [tab_length])
      rw [List.length_map, tab_length] at hvv
      simp only [Value.slice.injEq, Option.some.injEq, Addr.mk.injEq, and_true, true_and] at hvv
      obtain ⟨rfl, rfl⟩ := hvv
      obtain ⟨p, hp⟩ : ∃ p, hasL xs k = p := ⟨_, rfl⟩
      obtain ⟨q, hq⟩ : ∃ q, hasL ys k = q := ⟨_, rfl⟩
      have cc := hcell.out k (.bool p) (by rw [List.getElem?_map, tab_get _ k hlt, if_neg (by omega), hp]; rfl)
      have cd := hcl.out k (.bool q) (by rw [List.getElem?_map, tab_get _ k hlt, hq]; rfl)
      have ff := hfr.out k
      have HS : Hid (∀ b, (fun x y => x && !y) p q = b → Own w.heap.size 4 (wr.setCell ⟨g1, k, none⟩ (.bool b)) (.slice (some ⟨g1, 0, none⟩) 4096 cp1) ((tab (fun j => if j < ((k + 1 : Nat) : Int) then (fun x y => x && !y) (hasL xs j) (hasL ys j) else hasL xs j)).map Value.bool)) := by
        intro b hb
        have h1 := hset.out k (.bool b)
        rw [List.length_map, tab_length, ← List.map_set, tab_set] at h1
        rw [tab_congr (g := fun j => if j = (k : Int) then b else (if j < (k : Int) then (fun x y => x && !y) (hasL xs j) (hasL ys j) else hasL xs j))]
        · exact h1
        · intro j _ _
          by_cases e : j = k
          · subst e; rw [if_pos (by omega), if_pos rfl, ← hb, hp, hq]
          · rw [if_neg e]; by_cases e2 : j < k
            · rw [if_pos (by omega), if_pos e2]
            · rw [if_neg (by omega), if_neg e2]
      have HP := Hid.mk hp
      have HQ := Hid.mk hq
      have HBr := Hid.mk hb
      have hne : g2 ≠ g1 := by omega
      have HCL : Hid (∀ b, ∀ (j : Nat) u, ((tab (hasL ys)).map Value.bool)[j]? = some u → (wr.setCell ⟨g1, k, none⟩ (.bool b)).cell? ⟨g2, j, none⟩ = some u) := by
        intro b j u hu
        rw [World.cell?_setCell_other _ _ _ _ (by simp)]
        exact hcl.out j u hu
      clear hp hq hb
      cases p <;> cases q
      all_goals
        go_wp2
        go_roundw
        case rel => exact ⟨k + 1, by omega, by go_num, HS.out _ rfl, HBr.out.setCell hBg _, HCL.out _⟩
        case measure => simp [intOf]; omega
    · have hkk : k = 4096 := by omega
      obtain rfl := hkk
      have hown2 : Own w.heap.size 4 wr (.slice (some ⟨g1, 0, none⟩) 4096 cp1) ((tab (fun j => (fun x y => x && !y) (hasL xs j) (hasL ys j))).map Value.bool) := by
        rw [tab_congr (g := fun j => if j < ((4096 : Nat) : Int) then (fun x y => x && !y) (hasL xs j) (hasL ys j) else hasL xs j)]
        · exact hown
        · intro j _ _; rw [if_pos (by omega)]
      have HO := Hid.mk hown2
      have HBr := Hid.mk hb
      clear hown hown2 hb
      go_wp2_with (go_at_call 42; refine (refBits _ _ _ HO.out.rd (by rw [tab_length]; omega)).mono ?_; rintro e w3 ⟨v3, rfl, ho3, hb3⟩)
      go_ret
      exact ⟨_, rfl, Own.lower ho3 HBr.out.size, HBr.out.trans (hb3.mono HBr.out.size)⟩
end Go.Proofs.Ytomjfmebbpfkeaa
