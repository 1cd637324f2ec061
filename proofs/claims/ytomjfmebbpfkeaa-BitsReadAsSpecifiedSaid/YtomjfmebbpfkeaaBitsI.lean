/- The walk of antiquaryref11.Decode. -/
import Derived.Test.YtomjfmebbpfkeaaBitsH
namespace Go.Proofs.Ytomjfmebbpfkeaa
set_option linter.unusedSimpArgs false
set_option linter.unusedVariables false
set_option linter.unnecessarySimpa false
open Go.RowKit

theorem MadeSet.mk {w w' : World} {zs l : List Int} {er x : Int} {v : Value} (h : (zs, er) = (l, x)) (ho : Own w.heap.size 3 w' v (l.map (Value.int .i64))) (hb : Below w.heap.size w w') :
    MadeSet w zs er (.returned (.agg #[v, .int .i64 x])) w' := by
  cases h; exact ⟨v, rfl, ho, hb⟩

set_option maxRecDepth 100000 in
set_option maxHeartbeats 1000000 in
theorem refDecode (v : Value) (bs : List Int) (w : World) (hv : Bytes w v bs) (hby : Byte bs) (hl : bs.length ≤ 1000000000) : Calls Try.prog 38 #[v] w (MadeSet w (decL bs).1 (decL bs).2) := by
  obtain ⟨a, cap, b, off, hvv, hcap, hm, -⟩ := hv.open
  have hlen := getInts_len bs hby.all
  obtain ⟨ds, n, er, hr⟩ : ∃ ds n er, getInts bs = (ds, n, er) := ⟨_, _, _, rfl⟩
  have L : Hid (decL bs = if er ≠ 0 ∨ n ≠ bs.length then ([], 11) else if decOk ds then (sumL ds 0, 0) else ([], 11)) := by
    rw [Hid, decL, hr]
  have HR := Hid.mk hr
  rw [hr] at hlen
  simp only at hlen
  have HV : Hid (Bytes (w.alloc (.cells #[.slice none 0 0, .int .i64 0] 29)) v bs) := Rd.below hv ((Below.refl _ _).alloc (Nat.le_refl _) _)
  clear hr
  subst hvv
  by_cases g : er ≠ 0 ∨ n ≠ bs.length
  · have L2 : Hid (((decL bs).1, (decL bs).2) = ([], 11)) := by rw [Hid, L.out, if_pos g]
    by_cases g1 : er = 0
    · have g2 : (n == (bs.length : Int)) = false := by
        rcases g with g | g
        · exact absurd g1 g
        · simpa using g
      obtain rfl := g1
      go_enter Try.func38, Try.ntmps38
      go_wp2_with (go_at_call 53; refine (refGetInts _ bs _ HV.out hby hl).mono ?_; rintro e w1 ⟨v1, rfl, ho1, hb1⟩; rw [HR.out]; obtain ⟨d1, d2, d3, d4⟩ := two_cells ((hb1.block w.heap.size (by simp)).trans (heap_alloc_new w _)))
      refine bodyPost_ret (v := .agg #[.slice none 0 0, .int .i64 11]) (by simp [results, Try.results38, go_sem, d1, d2]) rfl (MadeSet.mk L2.out (Own.nil _ _ _) ?_)
      exact ((((Below.refl _ _).alloc (Nat.le_refl _) _).trans (hb1.mono (by simp))).setCell (by simp) _).setCell (by simp) _
    · have g2 : (er == 0) = false := by simpa using g1
      go_enter Try.func38, Try.ntmps38
      go_wp2_with (go_at_call 53; refine (refGetInts _ bs _ HV.out hby hl).mono ?_; rintro e w1 ⟨v1, rfl, ho1, hb1⟩; rw [HR.out]; obtain ⟨d1, d2, d3, d4⟩ := two_cells ((hb1.block w.heap.size (by simp)).trans (heap_alloc_new w _)))
      refine bodyPost_ret (v := .agg #[.slice none 0 0, .int .i64 11]) (by simp [results, Try.results38, go_sem, d1, d2]) rfl (MadeSet.mk L2.out (Own.nil _ _ _) ?_)
      exact ((((Below.refl _ _).alloc (Nat.le_refl _) _).trans (hb1.mono (by simp))).setCell (by simp) _).setCell (by simp) _
  · have g1 : er = 0 := by omega
    have g2 : n = bs.length := by omega
    obtain rfl := g1
    obtain rfl := g2
    have L2 : Hid (decL bs = if decOk ds then (sumL ds 0, 0) else ([], 11)) := by rw [Hid, L.out, if_neg (by simp)]
    clear L g
    go_enter Try.func38, Try.ntmps38
    go_wp2_with (go_at_call 53; refine (refGetInts _ bs _ HV.out hby hl).mono ?_; rw [HR.out]; rintro e w1 ⟨v1, rfl, ho1, hb1⟩)
    obtain ⟨ai, capi, bi, offi, rfl, hcapi, hmi, hai, hci⟩ := ho1.rdInts.open
    have hblk : w1.heap[w.heap.size]? = some (.cells #[.slice none 0 0, .int .i64 0] 29 (0, 0)) := (hb1.block w.heap.size (by simp)).trans (heap_alloc_new w _)
    have hbw : Below w.heap.size w w1 := ((Below.refl _ _).alloc (Nat.le_refl _) _).trans (hb1.mono (by simp))
    have hsz1 : w.heap.size + 1 ≤ w1.heap.size := by have := hb1.size; simp at this; omega
    have HB1 := Hid.mk hbw
    have HBK := Hid.mk hblk
    clear hb1 hblk hbw ho1
    go_loopw [6, 7, 8] (fun o q i wr => ∃ (k : Nat), k ≤ ds.length ∧ i = .int .i64 k ∧ q = .int .i64 (lastSum ds k) ∧ Own w1.heap.size 3 wr o (((sumL ds 0).take k).map (Value.int .i64)) ∧ Below w1.heap.size w1 wr ∧ Hid ((ds.take k).all stepB = true)) (fun _ _ i _ => ds.length - (intOf i).toNat)
    case atStart => exact ⟨0, by omega, rfl, rfl, Own.nil _ _ _, Below.refl _ _, by simp [Hid]⟩
    case round =>
      obtain ⟨k, hk, rfl, rfl, hown, hb, hall⟩ := hrel
      have HB := Hid.mk hb
      clear hb
      have hb2 := HB.out.size
      obtain ⟨d1, d2, d3, d4⟩ := two_cells ((HB.out.block w.heap.size (by omega)).trans HBK.out)
      have HBW : Hid (Below w.heap.size w wr) := HB1.out.trans (HB.out.mono (by omega))
      by_cases hlt : k < ds.length
      · obtain ⟨y, hy⟩ := ints_get ds k hlt
        have HY := Hid.mk (hci.out k y hy)
        have c1 := below_cell HB.out HY.out
        obtain rfl := hai (by omega)
        clear hai
        cases gs : stepB y
        · have NO : Hid (((decL bs).1, (decL bs).2) = ([], 11)) := by
            rw [Hid, L2.out, decOk, not_step ds k y hy gs]; rfl
          have gg : y < 0 ∨ 4096 < y := by
            simp only [stepB, Bool.and_eq_false_iff, decide_eq_false_iff_not] at gs; omega
          clear hy gs
          rcases gg with gg | gg
          all_goals
            go_wp2
            refine bodyPost_ret (v := .agg #[.slice none 0 0, .int .i64 11]) (by simp [results, Try.results38, go_sem, d1, d2]) rfl (MadeSet.mk NO.out (Own.nil _ _ _) ?_)
            exact (HBW.out.setCell (by simp) _).setCell (by simp) _
        · have N3 : Hid ((ds.take (k+1)).all stepB = true) := by rw [Hid, stepB_take ds k y hy, hall.out, gs]; rfl
          have bd := lastSum_bd ds k hk hall.out
          obtain ⟨N1, N2⟩ := sum_step ds k y hy
          have N1 := Hid.mk N1
          have N2 := Hid.mk N2
          have hlt2 : ((sumL ds 0).take k).length ≤ ds.length := by rw [List.length_take, sumL_length]; omega
          simp only [stepB, Bool.and_eq_true, decide_eq_true_eq] at gs
          obtain ⟨s1, s2⟩ := gs
          have s1' : decide (y < 0) = false := by simp; omega
          have s2' : decide (4096 < y) = false := by simp; omega
          clear hy
          rename_i N1' N2'
          clear N1' N2'
          generalize lastSum ds k = q at *
          go_wp2_with (at_builtin; refine wp_push (.tmp 50) (.tmp 52) 23 _ 3 8 _ elemInt rfl rfl Try.underlying23 w1.heap.size _ (.int .i64 (q + y)) _ rfl hown rfl rfl (by simp only [List.length_map, maxLen]; omega) (by simp only [List.length_map]; omega) hb2 ?_; intro v' w' hown' hb')
          go_roundw
          case rel => exact ⟨k + 1, by omega, by go_num, by rw [N2.out], by rw [N1.out]; simpa using hown', HB.out.trans hb', N3⟩
          case measure => simp [intOf]; omega
      · rw [List.take_of_length_le (by rw [sumL_length]; omega)] at hown
        rw [List.take_of_length_le (by omega)] at hall
        have HO := Hid.mk hown
        obtain ⟨ao, co, rfl⟩ := hown.formInts
        have L3 : Hid (decL bs = if validB (sumL ds 0) then (sumL ds 0, 0) else ([], 11)) := by rw [Hid, L2.out, decOk, hall.out]; rfl
        clear hown L2
        have hsl : Hid ((sumL ds 0).length ≤ 17592186044416) := by rw [Hid, sumL_length]; omega
        cases gv : validB (sumL ds 0)
        · rw [gv] at L3
          have GV := Hid.mk gv
          clear gv
          have NO : Hid (((decL bs).1, (decL bs).2) = ([], 11)) := by rw [Hid, L3.out]; rfl
          go_wp2_with (go_at_call 15; refine (refValid _ (sumL ds 0) _ HO.out.rdInts hsl.out).mono ?_; rw [GV.out]; rintro e w3 ⟨rfl, q, rfl⟩)
          refine bodyPost_ret (v := .agg #[.slice none 0 0, .int .i64 11]) (by simp [results, Try.results38, go_sem, d1, d2]) rfl (MadeSet.mk NO.out (Own.nil _ _ _) ?_)
          exact ((HBW.out.trans ((Still.one _ _).below _)).setCell (by simp) _).setCell (by simp) _
        · rw [gv] at L3
          have GV := Hid.mk gv
          clear gv
          have NO : Hid (((decL bs).1, (decL bs).2) = (sumL ds 0, 0)) := by rw [Hid, L3.out]; rfl
          go_wp2_with (go_at_call 15; refine (refValid _ (sumL ds 0) _ HO.out.rdInts hsl.out).mono ?_; rw [GV.out]; rintro e w3 ⟨rfl, q, rfl⟩)
          refine bodyPost_ret (v := .agg #[.slice ao (sumL ds 0).length co, .int .i64 0]) (by simp [results, Try.results38, go_sem, d1, d2]) rfl (MadeSet.mk NO.out ?_ ?_)
          · exact Own.lower (ownsRow_setCell_below (ownsRow_setCell_below HO.out.drewN (by show w.heap.size < w1.heap.size; omega) _) (by show w.heap.size < w1.heap.size; omega) _) (by omega)
          · exact ((HBW.out.trans ((Still.one _ _).below _)).setCell (by simp) _).setCell (by simp) _

end Go.Proofs.Ytomjfmebbpfkeaa
