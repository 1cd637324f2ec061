/- The walks of antiquaryref11: Run, Of, Slots, Count, Rank, Select. -/
import Derived.Test.YtomjfmebbpfkeaaBitsC
import Derived.Test.YtomjfmebbpfkeaaPlainB
namespace Go.Proofs.Ytomjfmebbpfkeaa
set_option linter.unusedSimpArgs false
set_option linter.unusedVariables false
set_option linter.unnecessarySimpa false
open Go.RowKit

set_option maxRecDepth 100000 in
set_option maxHeartbeats 1000000 in
theorem refRun (p q : Int) (w : World) : Calls Try.prog 17 #[.int .i64 p, .int .i64 q] w (MadeInts 3 w (bitsL (tab (fun j => decide (p ≤ j) && decide (j < q))))) := by
  go_enter Try.func17, Try.ntmps17
  go_wp2_with (at_make; refine wp_make (.const (.int .i64 4096)) (.const (.int .i64 4096)) 53 4 1 _ elemBool rfl rfl Try.underlying53 w.heap.size (Nat.le_refl _) .i64 .i64 4096 _ _ rfl rfl rfl rfl (by decide) (by decide) ?_; intro v' w1 hown0 hb0)
  have hown1 : Own w.heap.size 4 w1 v' ((tab (fun _ => false)).map Value.bool) := by
    rw [← tab_false, List.map_replicate]; exact hown0
  clear hown0
  obtain ⟨g1, cp1, hvv, -⟩ := hown1.block (by simp [tab_length])
  rw [List.length_map, tab_length] at hvv
  subst hvv
  go_loopw [6] (fun i wr => ∃ k : Nat, k ≤ 4096 ∧ i = .int .i64 k ∧ Own w.heap.size 4 wr (.slice (some ⟨g1, 0, none⟩) 4096 cp1) ((tab (fun j => decide (j < k) && (decide (p ≤ j) && decide (j < q)))).map Value.bool) ∧ Below w.heap.size w wr) (fun i _ => 4096 - (intOf i).toNat)
  case atStart =>
    refine ⟨0, by omega, rfl, ?_, hb0⟩
    rw [tab_congr (g := fun _ => false)]
    · exact hown1
    · intro j h _; rw [show decide (j < ((0 : Nat) : Int)) = false by simp; omega]; rfl
  case round =>
    obtain ⟨k, hk, rfl, hown, hb⟩ := hrel
    have HBr := Hid.mk hb
    clear hb
    by_cases hlt : k < 4096
    · obtain ⟨g, cp, hvv, hBg, hgs, hcell, hfr, hset⟩ := hown.block (by simp [tab_length])
      rw [List.length_map, tab_length] at hvv
      simp only [Value.slice.injEq, Option.some.injEq, Addr.mk.injEq, and_true, true_and] at hvv
      obtain ⟨rfl, rfl⟩ := hvv
      have cc := hcell.out k _ (by rw [List.getElem?_map, tab_get _ k hlt]; rfl)
      have ff := hfr.out k
      have HS : Hid (∀ b, (decide (p ≤ k) && decide ((k : Int) < q)) = b → Own w.heap.size 4 (wr.setCell ⟨g1, k, none⟩ (.bool b)) (.slice (some ⟨g1, 0, none⟩) 4096 cp1) ((tab (fun j => decide (j < ((k + 1 : Nat) : Int)) && (decide (p ≤ j) && decide (j < q)))).map Value.bool)) := by
        intro b hb
        have h1 := hset.out k (.bool b)
        rw [List.length_map, tab_length, ← List.map_set, tab_set] at h1
        rw [tab_congr (g := fun j => if j = (k : Int) then b else (decide (j < k) && (decide (p ≤ j) && decide (j < q))))]
        · exact h1
        · intro j _ _
          by_cases e : j = k
          · subst e; rw [if_pos rfl, ← hb, show decide ((k : Int) < ((k + 1 : Nat) : Int)) = true by simp; omega]; rfl
          · rw [if_neg e]; congr 1; simp; omega
      by_cases h1 : p ≤ k
      · by_cases h2 : (k : Int) < q
        · have N := Hid.mk (HS.out true (by simp [h1, h2]))
          go_wp2
          go_roundw
          case rel => exact ⟨k + 1, by omega, by go_num, N.out, HBr.out.setCell hBg _⟩
          case measure => simp [intOf]; omega
        · have N := Hid.mk (HS.out false (by simp; omega))
          have h2' : decide ((k : Int) < q) = false := by simpa using h2
          go_wp2
          go_roundw
          case rel => exact ⟨k + 1, by omega, by go_num, N.out, HBr.out.setCell hBg _⟩
          case measure => simp [intOf]; omega
      · have N := Hid.mk (HS.out false (by simp; omega))
        have h1' : decide (p ≤ (k : Int)) = false := by simpa using h1
        go_wp2
        go_roundw
        case rel => exact ⟨k + 1, by omega, by go_num, N.out, HBr.out.setCell hBg _⟩
        case measure => simp [intOf]; omega
    · have hkk : k = 4096 := by omega
      obtain rfl := hkk
      have hown2 : Own w.heap.size 4 wr (.slice (some ⟨g1, 0, none⟩) 4096 cp1) ((tab (fun j => decide (p ≤ j) && decide (j < q))).map Value.bool) := by
        rw [tab_congr (g := fun j => decide (j < ((4096 : Nat) : Int)) && (decide (p ≤ j) && decide (j < q)))]
        · exact hown
        · intro j _ h; rw [show decide (j < ((4096 : Nat) : Int)) = true by simp; omega]; rfl
      have HO := Hid.mk hown2
      clear hown hown2
      go_wp2_with (go_at_call 42; refine (refBits _ _ _ HO.out.rd (by rw [tab_length]; omega)).mono ?_; rintro e w3 ⟨v3, rfl, ho3, hb3⟩)
      go_ret
      exact ⟨_, rfl, Own.lower ho3 HBr.out.size, HBr.out.trans (hb3.mono HBr.out.size)⟩

set_option maxRecDepth 100000 in
set_option maxHeartbeats 1000000 in
theorem refSlots (v : Value) (zs : List Int) (w : World) (hv : Ints w v zs) (hg : Good zs) :
    Calls Try.prog 24 #[v] w (MadeInts 3 w (slotsL zs)) := by
  obtain ⟨a, cap, b, off, rfl, hcap, hm, ha, hc⟩ := hv.open
  have hl := hg.len
  have G := Hid.mk hg.rng
  have hev := hg.even
  go_enter Try.func24, Try.ntmps24
  go_wp2
  go_loopw [3, 4] (fun o i wr => ∃ k : Nat, k ≤ zs.length ∧ k % 2 = 0 ∧ i = .int .i64 k ∧ Own w.heap.size 3 wr o ((slotsL (zs.take k)).map (Value.int .i64)) ∧ Below w.heap.size w wr) (fun _ i _ => zs.length - (intOf i).toNat)
  case atStart => exact ⟨0, by omega, by omega, rfl, Own.nil _ _ _, Below.refl _ _⟩
  case round =>
    obtain ⟨k, hk, hk2, rfl, hown, hb⟩ := hrel
    have HB := Hid.mk hb
    clear hb
    by_cases hlt : k + 1 < zs.length
    · obtain ⟨y, hy⟩ := ints_get zs k (by omega)
      obtain ⟨z, hz⟩ := ints_get zs (k+1) (by omega)
      have c1 := below_cell HB.out (hc.out k y hy)
      obtain ⟨y1, y2⟩ := G.out k y hy
      obtain ⟨z1, z2⟩ := G.out (k+1) z hz
      have yz := hg.asc k y z hy hz
      have hln := slotsL_le zs hg k hk hk2
      obtain rfl := ha (by omega)
      clear ha
      have C2 := Hid.mk (hc.out (k+1) z hz)
      have HT : Hid (slotsL (zs.take (k+2)) = slotsL (zs.take k) ++ upto y (z - y).toNat) := slotsL_take zs k y z hy hz hk2
      clear hy hz
      generalize slotsL (zs.take k) = ss at *
      have hd : decide ((k : Int) + 1 < (zs.length : Int)) = true := by simp; omega
      go_wp2
      go_loopw [3, 5] (fun o i wr => ∃ n : Nat, n ≤ (z - y).toNat ∧ i = .int .i64 (y + n) ∧ Own w.heap.size 3 wr o ((ss ++ upto y n).map (Value.int .i64)) ∧ Below w.heap.size w wr) (fun _ i _ => z.toNat - (intOf i).toNat)
      case atStart => exact ⟨0, by omega, by simp, by simpa [upto] using hown, HB.out⟩
      case round =>
        obtain ⟨n, hn, rfl, hown', hb'⟩ := hrel
        have HB' := Hid.mk hb'
        clear hb'
        have c2 := below_cell HB'.out C2.out
        have hb2 := HB'.out.size
        have HU := Hid.mk (upto_snoc y n)
        by_cases gg : n < (z - y).toNat
        · go_wp2_with (at_builtin; refine wp_push (.tmp 26) (.tmp 28) 22 _ 3 8 _ elemInt rfl rfl Try.underlying22 w.heap.size _ (.int .i64 (y + n)) _ rfl hown' rfl rfl (by simp [maxLen, upto_length]; omega) (by simp [upto_length]; omega) hb2 ?_; intro v' w' hown'' hb')
          go_roundw
          case rel =>
            refine ⟨n + 1, by omega, by go_num, ?_, HB'.out.trans hb'⟩
            rw [HU.out]; simpa using hown''
          case measure => simp [intOf]; omega
        · have e : n = (z - y).toNat := by omega
          have HE := Hid.mk e
          clear e
          go_wp2
          go_roundw
          case rel =>
            refine ⟨k + 2, by omega, by omega, by go_num, ?_, HB'.out⟩
            rw [HT.out, ← HE.out]; exact hown'
          case measure => simp [intOf]; omega
    · go_wp2
      go_ret
      refine ⟨_, rfl, ?_, HB.out⟩
      rw [List.take_of_length_le (by omega)] at hown
      exact hown

set_option maxRecDepth 100000 in
theorem refCount (v : Value) (zs : List Int) (w : World) (hv : Ints w v zs) (hg : Good zs) :
    Calls Try.prog 21 #[v] w fun e w' => e = .returned (.int .i64 (slotsL zs).length) ∧ Below w.heap.size w w' := by
  go_enter Try.func21, Try.ntmps21
  go_wp2_with (go_at_call 24; refine (refSlots _ zs _ hv hg).mono ?_; rintro e w' ⟨v, rfl, ho, hb⟩; obtain ⟨ao, co, rfl⟩ := ho.formInts)
  go_ret
  exact ⟨rfl, hb⟩

set_option maxRecDepth 100000 in
set_option maxHeartbeats 1000000 in
theorem refRank (v : Value) (zs : List Int) (s : Int) (w : World) (hv : Ints w v zs) (hg : Good zs) :
    Calls Try.prog 26 #[v, .int .i64 s] w fun e w' => e = .returned (.int .i64 (countLess (slotsL zs) s)) ∧ Below w.heap.size w w' := by
  have hln := slotsL_le zs hg zs.length (Nat.le_refl _) hg.even
  rw [List.take_of_length_le (Nat.le_refl _)] at hln
  obtain ⟨ss, hss⟩ : ∃ ss, ss = slotsL zs := ⟨_, rfl⟩
  rw [← hss] at hln ⊢
  have HSS := Hid.mk hss
  clear hss
  go_enter Try.func26, Try.ntmps26
  go_wp2_with fail
  refine (refSlots _ zs _ hv hg).mono ?_
  rintro e w1 ⟨v, rfl, ho, hb⟩
  rw [← HSS.out] at ho
  obtain ⟨a, cap, b, off, rfl, hcap, hm, ha, hc⟩ := ho.rdInts.open
  have HB := Hid.mk hb
  clear hb ho hv
  go_wp2
  go_loop [6, 7] (fun t i => ∃ k : Nat, k ≤ ss.length ∧ i = .int .i64 k ∧ t = .int .i64 (countLess (ss.take k) s)) (fun _ i => ss.length - (intOf i).toNat)
  case atStart => exact ⟨0, by omega, rfl, rfl⟩
  case round =>
    obtain ⟨k, hk, rfl, rfl⟩ := hrel
    have hcl := countLess_le (ss.take k) s
    have hcl2 : (ss.take k).length ≤ 4097 := by simp; omega
    by_cases hlt : k < ss.length
    · obtain ⟨y, hy⟩ := ints_get ss k (by omega)
      have c1 := hc.out k y hy
      obtain rfl := ha (by omega)
      have H := Hid.mk (countLess_take ss k y s hy)
      clear ha hy
      go_wp2
      all_goals
        go_round
        case rel => exact ⟨k + 1, by omega, by go_num, by rw [H.out]; first | rw [if_pos (by assumption)] | (rw [if_neg (by omega)]; go_num)⟩
        case measure => simp [intOf]; omega
    · have e : ss.take k = ss := List.take_of_length_le (by omega)
      rw [e] at hcl hcl2 ⊢
      go_wp2
      go_ret
      exact ⟨ret_int rfl, HB.out⟩

set_option maxRecDepth 100000 in
set_option maxHeartbeats 1000000 in
theorem refSelect (v : Value) (zs : List Int) (s : Int) (w : World) (hv : Ints w v zs) (hg : Good zs) :
    Calls Try.prog 28 #[v, .int .i64 s] w fun e w' => e = .returned (.int .i64 (selR (slotsL zs) s)) ∧ Below w.heap.size w w' := by
  have hln := slotsL_le zs hg zs.length (Nat.le_refl _) hg.even
  rw [List.take_of_length_le (Nat.le_refl _)] at hln
  obtain ⟨ss, hss⟩ : ∃ ss, ss = slotsL zs := ⟨_, rfl⟩
  rw [← hss] at hln ⊢
  have HSS := Hid.mk hss
  clear hss
  go_enter Try.func28, Try.ntmps28
  go_wp2_with fail
  refine (refSlots _ zs _ hv hg).mono ?_
  rintro e w1 ⟨v, rfl, ho, hb⟩
  rw [← HSS.out] at ho
  obtain ⟨a, cap, b, off, rfl, hcap, hm, ha, hc⟩ := ho.rdInts.open
  have HB := Hid.mk hb
  clear hb ho hv
  by_cases h1 : s < 0
  · go_wp2
    go_ret
    exact ⟨ret_int (by rw [selR, if_pos (.inl h1)]), HB.out⟩
  · have h1' : decide (s < 0) = false := by simpa using h1
    by_cases h2 : (ss.length : Int) ≤ s
    · go_wp2
      go_ret
      exact ⟨ret_int (by rw [selR, if_pos (.inr h2)]), HB.out⟩
    · have h2' : decide ((ss.length : Int) ≤ s) = false := by simpa using h2
      obtain ⟨k, rfl⟩ : ∃ k : Nat, s = k := ⟨s.toNat, by omega⟩
      obtain ⟨y, hy⟩ := ints_get ss k (by omega)
      have c1 := hc.out k y hy
      obtain rfl := ha (by omega)
      have H : Hid (selR ss k = y) := by rw [Hid, selR, if_neg (by omega)]; simp [hy]
      clear ha hy
      go_wp2
      go_ret
      exact ⟨ret_int H.out.symm, HB.out⟩

end Go.Proofs.Ytomjfmebbpfkeaa
