/- The walks of Decode of bits and antiquaryref11. -/
import Derived.Test.YtomjfmebbpfkeaaBitsF
import Derived.Test.YtomjfmebbpfkeaaPlainD
namespace Go.Proofs.Ytomjfmebbpfkeaa
set_option linter.unusedSimpArgs false
set_option linter.unusedVariables false
set_option linter.unnecessarySimpa false
open Go.RowKit

/-- The call returns a new list, and a number. -/
def MadeInts2 (w : World) (r : List Int × Int) (e : Ending) (w' : World) : Prop :=
  ∃ v, e = .returned (.tuple #[v, .int .i64 r.2]) ∧ Own w.heap.size 3 w' v (r.1.map (Value.int .i64)) ∧ Below w.heap.size w w'
theorem MadeInts2.mk {w w' : World} {r : List Int × Int} {l : List Int} {x : Int} {v : Value} (h : r = (l, x)) (ho : Own w.heap.size 3 w' v (l.map (Value.int .i64))) (hb : Below w.heap.size w w') :
    MadeInts2 w r (.returned (.tuple #[v, .int .i64 x])) w' := by
  subst h; exact ⟨v, rfl, ho, hb⟩

set_option maxRecDepth 100000 in
set_option maxHeartbeats 1000000 in
theorem bitsDecode (v : Value) (bs : List Int) (w : World) (hv : Bytes w v bs) (hby : Byte bs) (hl : bs.length ≤ 1000000000) : Calls Try.prog 37 #[v] w (MadeInts2 w (decL bs)) := by
  obtain ⟨a, cap, b, off, hvv, hcap, hm, -⟩ := hv.open
  have hlen := getInts_len bs hby.all
  obtain ⟨ds, n, er, hr⟩ : ∃ ds n er, getInts bs = (ds, n, er) := ⟨_, _, _, rfl⟩
  have L : Hid (decL bs = if er ≠ 0 ∨ n ≠ bs.length then ([], 11) else if decOk ds then (sumL ds 0, 0) else ([], 11)) := by
    rw [Hid, decL, hr]
  have HR := Hid.mk hr
  rw [hr] at hlen
  simp only at hlen
  clear hr
  subst hvv
  by_cases g : er ≠ 0 ∨ n ≠ bs.length
  · have L2 : Hid (decL bs = ([], 11)) := by rw [Hid, L.out, if_pos g]
    by_cases g1 : er = 0
    · have g2 : (n == (bs.length : Int)) = false := by
        rcases g with g | g
        · exact absurd g1 g
        · simpa using g
      obtain rfl := g1
      go_enter Try.func37, Try.ntmps37
      go_wp2_with (go_at_call 52; refine (wireGetInts _ bs _ hv hby hl).mono ?_; rintro e w1 ⟨v1, rfl, ho1, hb1⟩; rw [HR.out])
      go_ret2
      exact MadeInts2.mk L2.out (Own.nil _ _ _) hb1
    · have g2 : (er == 0) = false := by simpa using g1
      go_enter Try.func37, Try.ntmps37
      go_wp2_with (go_at_call 52; refine (wireGetInts _ bs _ hv hby hl).mono ?_; rintro e w1 ⟨v1, rfl, ho1, hb1⟩; rw [HR.out])
      go_ret2
      exact MadeInts2.mk L2.out (Own.nil _ _ _) hb1
  · have g1 : er = 0 := by omega
    have g2 : n = bs.length := by omega
    obtain rfl := g1
    obtain rfl := g2
    have L2 : Hid (decL bs = if decOk ds then (sumL ds 0, 0) else ([], 11)) := by rw [Hid, L.out, if_neg (by simp)]
    clear L g
    go_enter Try.func37, Try.ntmps37
    go_wp2_with (go_at_call 52; refine (wireGetInts _ bs _ hv hby hl).mono ?_; rw [HR.out]; rintro e w1 ⟨v1, rfl, ho1, hb1⟩; obtain ⟨ao, co, rfl⟩ := ho1.formInts)
    go_loopw [25] (fun i wr => ∃ (k : Nat), k ≤ ds.length ∧ i = .int .i64 k ∧ Own w.heap.size 3 wr (.slice ao ds.length co) ((decAt ds k).map (Value.int .i64)) ∧ Below w.heap.size w wr ∧ Hid ((ds.take k).all stepB = true)) (fun i _ => ds.length - (intOf i).toNat)
    case atStart => exact ⟨0, by omega, rfl, by rw [decAt_zero]; exact ho1, hb1, by simp [Hid]⟩
    case round =>
      obtain ⟨k, hk, rfl, hown, hb, hall⟩ := hrel
      have HB := Hid.mk hb
      clear hb
      have hb2 := HB.out.size
      by_cases hlt : k < ds.length
      · obtain ⟨y, hy⟩ := ints_get ds k hlt
        obtain ⟨g, cp, hvv, hBg, hgs, hcell, hfr, hset⟩ := hown.block (by rw [List.length_map, decAt_length]; omega)
        rw [List.length_map, decAt_length] at hvv hset
        simp only [Value.slice.injEq, true_and] at hvv
        obtain ⟨rfl, rfl⟩ := hvv
        have c1 := hcell.out k (.int .i64 y) (by rw [List.getElem?_map, decAt_get ds k y hy]; rfl)
        cases gs : stepB y
        · have NO : Hid (decL bs = ([], 11)) := by
            rw [Hid, L2.out, decOk, not_step ds k y hy gs]; rfl
          have gg : y < 0 ∨ 4096 < y := by
            simp only [stepB, Bool.and_eq_false_iff, decide_eq_false_iff_not] at gs; omega
          clear hy gs
          rcases gg with gg | gg
          · go_wp2
            go_ret2
            exact MadeInts2.mk NO.out (Own.nil _ _ _) HB.out
          · go_wp2
            go_ret2
            exact MadeInts2.mk NO.out (Own.nil _ _ _) HB.out
        · have N3 : Hid ((ds.take (k+1)).all stepB = true) := by rw [Hid, stepB_take ds k y hy, hall.out, gs]; rfl
          simp only [stepB, Bool.and_eq_true, decide_eq_true_eq] at gs
          obtain ⟨s1, s2⟩ := gs
          have s1' : decide (y < 0) = false := by simp; omega
          have s2' : decide (4096 < y) = false := by simp; omega
          by_cases g0 : 0 < k
          · have c2 := hcell.out (k-1) (.int .i64 (lastSum ds k)) (by rw [List.getElem?_map, decAt_prev ds k g0 hk]; rfl)
            have ff := hfr.out k
            have bd := lastSum_bd ds k hk hall.out
            have N := hset.out k (.int .i64 (y + lastSum ds k))
            rw [← List.map_set, Int.add_comm, decAt_set ds k y hy] at N
            have NN := Hid.mk N
            clear N hy
            generalize lastSum ds k = q at *
            go_wp2
            go_region
            all_goals (try go_wp2)
            go_roundw
            case rel => exact ⟨k + 1, by omega, by go_num, by rw [Int.add_comm] at NN; exact NN.out, (HB.out.setCell hBg _).drew, N3⟩
            case measure => simp [intOf]; omega
          · obtain rfl : k = 0 := by omega
            have N := Hid.mk (decAt_first ds y hy)
            clear hy
            go_wp2
            go_roundw
            case rel => exact ⟨1, by omega, by go_num, by rw [N.out]; exact hown, HB.out, N3⟩
            case measure => simp [intOf]; omega
      · rw [decAt_all ds k (by omega)] at hown
        rw [List.take_of_length_le (by omega)] at hall
        have HO := Hid.mk hown
        have L3 : Hid (decL bs = if validB (sumL ds 0) then (sumL ds 0, 0) else ([], 11)) := by rw [Hid, L2.out, decOk, hall.out]; rfl
        clear hown L2
        have hsl : Hid ((sumL ds 0).length ≤ 17592186044416) := by rw [Hid, sumL_length]; omega
        cases gv : validB (sumL ds 0)
        · rw [gv] at L3
          have GV := Hid.mk gv
          clear gv
          go_wp2_with (go_at_call 14; refine (bitsValid _ (sumL ds 0) _ HO.out.rdInts hsl.out).mono ?_; rw [GV.out]; rintro e w3 ⟨rfl, q, rfl⟩)
          go_ret2
          exact MadeInts2.mk L3.out (Own.nil _ _ _) (HB.out.trans ((Still.one _ _).below _))
        · rw [gv] at L3
          have GV := Hid.mk gv
          clear gv
          go_wp2_with (go_at_call 14; refine (bitsValid _ (sumL ds 0) _ HO.out.rdInts hsl.out).mono ?_; rw [GV.out]; rintro e w3 ⟨rfl, q, rfl⟩)
          go_ret2
          exact MadeInts2.mk L3.out HO.out (HB.out.trans ((Still.one _ _).below _))

end Go.Proofs.Ytomjfmebbpfkeaa
