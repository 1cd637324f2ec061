/- The walks of slices.Values, Collect, Sorted and bits.Of. -/
import Derived.Sort.OwnSortedInts
import Derived.Test.YtomjfmebbpfkeaaRange
import Derived.Test.YtomjfmebbpfkeaaPlainE
import Derived.Test.YtomjfmebbpfkeaaBitsH
namespace Go.Proofs.Ytomjfmebbpfkeaa
set_option linter.unusedSimpArgs false
set_option linter.unusedVariables false
set_option linter.unnecessarySimpa false
open Go.RowKit

theorem sliceValues (a : Option Addr) (l c : Nat) (w : World) :
    Calls Try.prog 41 #[.slice a l c] w fun e w' => e = .returned (.func (.func 57) #[] #[.pointer (some ⟨w.heap.size, 0, none⟩)]) ∧ w' = w.alloc (.cells #[.slice a l c] 22) := by
  have hmf : ∀ (fn : Fn) (first cap : Array Value) (w : World), (Instr.makeFunc fn first cap).run Try.prog w = .ok (.func fn first cap) w := fun _ _ _ _ => rfl
  go_enter Try.func41, Try.ntmps41
  go_wp2
  go_ret
  exact ⟨rfl, rfl⟩

theorem sortOwn (v : Value) (zs : List Int) (B : Nat) (w : World) (ho : Own B 3 w v (zs.map (Value.int .i64))) (hl : zs.length ≤ 1000000000) (hB : B ≤ w.heap.size) :
    Calls Try.prog 56 #[v] w fun e w' => e = .returned (.tuple #[]) ∧ Own B 3 w' v ((sortI zs).map (Value.int .i64)) ∧ Below B w w' := by
  rcases ho.2 with ⟨rfl, hn⟩ | ⟨g, cap, cur, rfl, hb1, hgg, hc, hm, hs, ht⟩
  · have hz : zs = [] := by simpa using hn
    subst hz
    refine (Try.slices_Sort_int_none none 0 w).mono ?_
    rintro e w' ⟨rfl, rfl⟩
    exact ⟨rfl, by simpa [sortI] using ho, Below.refl _ _⟩
  · simp only [List.length_map, Nat.mul_one] at hc ht hs ⊢
    have hlt := (Array.getElem?_eq_some_iff.1 hgg).1
    refine (Try.slices_Sort_int g 0 cap zs w (holds_of_blockI hgg ht) hlt (by omega)).mono ?_
    rintro e w' ⟨rfl, n, os, rfl⟩
    refine ⟨rfl, ?_, ?_⟩
    · have := ownsRow_sortedI (w := w) (n := n) (os := os) (e := 3) (ss := zs) (ts := sortI zs) (sortI_length zs) hb1 hgg hc hm (by simpa using hs)
      unfold Own
      rw [List.length_map, sortI_length]
      exact this
    · exact (Below.refl _ _).grown (grownBy_sortedI _) hB (fun k hk => by cases hk; exact hb1)

set_option maxRecDepth 100000 in
theorem sortedValues (Bn : Nat) (a : Option Addr) (cap b off : Nat) (zs : List Int) (hl : zs.length ≤ 1000000000) (w : World) (hBn : Boxed w Bn 22 (.slice a zs.length cap))
    (ha : 0 < zs.length → a = some ⟨b, off, none⟩) (hb : 0 < zs.length → b < w.heap.size) (hc : Hid (∀ (j : Nat) (x : Int), zs[j]? = some x → w.cell? ⟨b, off + j, none⟩ = some (.int .i64 x))) :
    Calls Try.prog 40 #[.func (.func 57) #[] #[.pointer (some ⟨Bn, 0, none⟩)]] w (MadeInts 3 w (sortI zs)) := by
  have col : Calls Try.prog 55 #[.func (.func 57) #[] #[.pointer (some ⟨Bn, 0, none⟩)]] w (MadeInts 3 w zs) := by
    have app := (callsIn_wide (n := 3)).1 (appendSeq_in Fence.wide 3 trivial trivial rfl (by omega) Bn a cap b off zs hl w hBn ha hb hc)
    go_enter Try.func55, Try.ntmps55
    go_wp2_with (go_at_call 68; refine app.mono ?_; clear app; rintro e w1 ⟨v1, rfl, ho1, hb1⟩)
    go_ret
    exact ⟨_, rfl, ho1, hb1⟩
  go_enter Try.func40, Try.ntmps40
  go_wp2_with (first | (go_at_call 55; refine col.mono ?_; clear col; rintro e w1 ⟨v1, rfl, ho1, hb1⟩) | (go_at_call 56; refine (sortOwn _ zs w.heap.size _ ho1 hl hb1.size).mono ?_; rintro e w2 ⟨rfl, ho2, hb2⟩))
  go_ret
  exact ⟨_, rfl, ho2, hb1.trans hb2⟩

set_option maxRecDepth 100000 in
set_option maxHeartbeats 2000000 in
theorem bitsOf (v : Value) (zs : List Int) (w : World) (hv : Ints w v zs) (hl : zs.length ≤ 1000000) : Calls Try.prog 11 #[v] w (MadeInts2 w (ofL zs)) := by
  obtain ⟨a, cap, b, off, rfl, hcap, hm, ha, hc⟩ := hv.open
  have hbl : 0 < zs.length → b < w.heap.size := fun h => by
    obtain ⟨x, hx⟩ := ints_get zs 0 h
    exact World.block_lt_of_cell? _ _ (hc.out 0 x hx)
  have hB0 : Below w.heap.size w (w.alloc (.cells #[.slice a zs.length cap] 22)) := (Below.refl _ _).alloc (Nat.le_refl _) _
  have srt := sortedValues w.heap.size a cap b off zs (by omega) (w.alloc (.cells #[.slice a zs.length cap] 22)) (Boxed.new w _ _) ha (fun h => by have := hbl h; simp; omega) (fun j x hx => below_cell hB0 (hc.out j x hx))
  have HSRT := Hid.mk srt
  have HB0 := Hid.mk hB0
  have hsl := sortI_length zs
  have HSL := Hid.mk hsl
  have L : Hid (ofL zs = if (sortI zs).all inR then (ofS (sortI zs), 0) else ([], 1)) := by rw [Hid, ofL, sortI_all]
  clear srt hB0 hsl hbl ha hc
  go_enter Try.func11, Try.ntmps11
  go_wp2_with (first | (go_at_call 41; refine (sliceValues _ _ _ _).mono ?_; rintro e w' ⟨rfl, rfl⟩) | (go_at_call 40; refine HSRT.out.mono ?_; rintro e w1 ⟨v1, rfl, ho1, hb1⟩; obtain ⟨ai, capi, bi, offi, rfl, hcapi, hmi, hai, hci⟩ := ho1.rdInts.open))
  have ll : (sortI zs).length ≤ 1000000 := by rw [HSL.out]; exact hl
  have hw1 : w.heap.size ≤ w1.heap.size := by have := hb1.size; simp at this; omega
  have HB1 : Hid (Below w.heap.size w w1) := HB0.out.trans (hb1.mono (by simp))
  clear hb1 ho1
  generalize sortI zs = ss at *
  go_loopw [5, 14] (fun o i wr => ∃ (k : Nat), k ≤ ss.length ∧ i = .int .i64 k ∧ Own w1.heap.size 3 wr o ((ofS (ss.take k)).map (Value.int .i64)) ∧ Below w1.heap.size w1 wr ∧ Hid ((ss.take k).all inR = true)) (fun _ i _ => ss.length - (intOf i).toNat)
  case atStart => exact ⟨0, by omega, rfl, Own.nil _ _ _, Below.refl _ _, by simp [Hid]⟩
  case round =>
    obtain ⟨k, hk, rfl, hown, hb, hall⟩ := hrel
    have HB := Hid.mk hb
    have hb2 := hb.size
    clear hb
    have lo := ofS_length ss k
    obtain ⟨ao, co, rfl⟩ := hown.formInts
    by_cases hlt : k < ss.length
    · obtain ⟨y, hy⟩ := ints_get ss k hlt
      have c1 := below_cell HB.out (hci.out k y hy)
      obtain rfl := hai (by omega)
      have ST := Hid.mk (ofS_take ss k y hy)
      clear hai
      cases gs : inR y
      · have NO : Hid (ofL zs = ([], 1)) := by rw [Hid, L.out, not_all ss k y hy gs]; rfl
        have gg : y < 0 ∨ 4096 ≤ y := by
          simp only [inR, Bool.and_eq_false_iff, decide_eq_false_iff_not] at gs; omega
        clear hy gs
        rcases gg with gg | gg
        all_goals
          go_wp2
          go_ret2
          exact MadeInts2.mk NO.out (Own.nil _ _ _) (HB1.out.trans (HB.out.mono hw1))
      · have N3 : Hid ((ss.take (k+1)).all inR = true) := by rw [Hid, all_take ss k y hy, hall.out, gs]; rfl
        simp only [inR, Bool.and_eq_true, decide_eq_true_eq] at gs
        obtain ⟨s1, s2⟩ := gs
        have s1' : decide (y < 0) = false := by simp; omega
        have s2' : decide (4096 ≤ y) = false := by simp; omega
        generalize ofS (ss.take k) = out at *
        clear hy hall
        by_cases g0 : out.length = 0
        · have hz : out = [] := List.eq_nil_of_length_eq_zero g0
          subst hz
          have E : Hid (ofS (ss.take (k+1)) = [] ++ [y, y + 1]) := by rw [Hid, ST.out]; rfl
          clear ST
          go_wp2_with (at_builtin; refine wp_append (.tmp 57) (.tmp 61) 23 3 8 _ elemInt rfl rfl Try.underlying23 w1.heap.size _ _ _ [.int .i64 y, .int .i64 (y + 1)] rfl (hown.alloc _) rfl (Own.lit wr [.int .i64 y, .int .i64 (y + 1)] 3 0 (Nat.zero_le _) (by simp [maxLen])).rd (by simp) (by simp [Value.oneCell']) (by simp [maxLen] <;> omega) (by simp <;> omega) (by simp <;> omega) ?_; intro v' w' hown' hb')
          go_roundw
          case rel => exact ⟨k + 1, by omega, by go_num, by rw [E.out]; simpa using hown', (HB.out.alloc hb2 _).trans hb', N3⟩
          case measure => simp [intOf]; omega
        · obtain ⟨q, hq⟩ := ints_get out (out.length - 1) (by omega)
          have E : Hid (ofS (ss.take (k+1)) = if q = y then out.set (out.length - 1) (y + 1) else if q ≤ y then out ++ [y, y + 1] else out) := by
            rw [Hid, ST.out, stepO, if_neg g0, List.getD_eq_getElem?_getD, hq]; rfl
          obtain ⟨g, cp, hvv, hBg, hgs, hcell, hfr, hset⟩ := hown.block (by rw [List.length_map]; omega)
          rw [List.length_map] at hvv hset
          simp only [Value.slice.injEq, true_and] at hvv
          obtain ⟨rfl, rfl⟩ := hvv
          have c2 := hcell.out (out.length - 1) (.int .i64 q) (by rw [List.getElem?_map, hq]; rfl)
          have ff := hfr.out (out.length - 1)
          have g0' : ((out.length : Int) == 0) = false := by simpa using g0
          have N := hset.out (out.length - 1) (.int .i64 (y + 1))
          rw [← List.map_set] at N
          have NN := Hid.mk N
          have gp : 0 < out.length := by omega
          clear ST hq N
          by_cases gq : q = y
          · obtain rfl := gq
            rw [if_pos rfl] at E
            go_wp2
            go_roundw
            case rel => exact ⟨k + 1, by omega, by go_num, by rw [E.out]; exact NN.out, HB.out.setCell hBg _, N3⟩
            case measure => simp [intOf]; omega
          · rw [if_neg gq] at E
            have gq' : (q == y) = false := by simpa using gq
            by_cases gl : q ≤ y
            · rw [if_pos gl] at E
              go_wp2_with (at_builtin; refine wp_append (.tmp 57) (.tmp 61) 23 3 8 _ elemInt rfl rfl Try.underlying23 w1.heap.size _ _ _ [.int .i64 y, .int .i64 (y + 1)] rfl (hown.alloc _) rfl (Own.lit wr [.int .i64 y, .int .i64 (y + 1)] 3 0 (Nat.zero_le _) (by simp [maxLen])).rd (by simp) (by simp [Value.oneCell']) (by simp [maxLen] <;> omega) (by simp <;> omega) (by simp <;> omega) ?_; intro v' w' hown' hb')
              go_roundw
              case rel => exact ⟨k + 1, by omega, by go_num, by rw [E.out]; simpa using hown', (HB.out.alloc hb2 _).trans hb', N3⟩
              case measure => simp [intOf]; omega
            · rw [if_neg gl] at E
              have gl' : decide (q ≤ y) = false := by simpa using gl
              go_wp2
              go_roundw
              case rel => exact ⟨k + 1, by omega, by go_num, by rw [E.out]; exact hown, HB.out, N3⟩
              case measure => simp [intOf]; omega
    · have e : ss.take k = ss := List.take_of_length_le (by omega)
      rw [e] at hown hall lo ⊢
      have NO : Hid (ofL zs = (ofS ss, 0)) := by rw [Hid, L.out, hall.out]; rfl
      clear e
      go_wp2
      go_ret2
      exact MadeInts2.mk NO.out (hown.lower hw1) (HB1.out.trans (HB.out.mono hw1))

end Go.Proofs.Ytomjfmebbpfkeaa
