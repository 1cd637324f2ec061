/- The walks of Encode and Decode of bits and antiquaryref11. -/
import Derived.Test.YtomjfmebbpfkeaaWire5
import Derived.Test.YtomjfmebbpfkeaaBitsE
import Derived.Test.YtomjfmebbpfkeaaPlainC
import Derived.Test.YtomjfmebbpfkeaaShelf
namespace Go.Proofs.Ytomjfmebbpfkeaa
set_option linter.unusedSimpArgs false
set_option linter.unusedVariables false
set_option linter.unnecessarySimpa false
open Go.RowKit

set_option maxRecDepth 100000 in
theorem cloneInts (v : Value) (zs : List Int) (w : World) (hv : Ints w v zs) (hl : zs.length ≤ 1000000000) : Calls Try.prog 50 #[v] w (MadeInts 3 w zs) := by
  obtain ⟨a, cap, b, off, rfl, hcap, hm, ha, hc⟩ := hv.open
  match a, zs, ha, hc with
  | none, [], _, _ =>
    refine (Try.slices_Clone_int_nil 0 cap w).mono ?_
    rintro e w' ⟨rfl, rfl⟩
    exact ⟨_, rfl, Own.nil _ _ _, Below.refl _ _⟩
  | none, z :: r, ha, _ => exact absurd (ha (by simp)) (by simp)
  | some a, [], _, _ =>
    refine (Try.slices_Clone_int_zero a cap w).mono ?_
    rintro e w' ⟨v', rfl, h1, _, h2⟩
    exact ⟨_, rfl, h1, h2⟩
  | some a, z :: r, ha, hc =>
    obtain rfl := Option.some.inj (ha (by simp))
    refine (Try.slices_Clone_int b off (z :: r).length cap (z :: r) w (Nat.le_refl _) (by omega) ?_).mono ?_
    · intro j hj
      exact hc.out j _ (by rw [List.getElem?_eq_getElem hj, List.getD_eq_getElem?_getD, List.getElem?_eq_getElem hj]; rfl)
    · rintro e w' ⟨v', rfl, h1, _, h2⟩
      rw [List.take_length] at h1
      exact ⟨_, rfl, by simpa [Own] using h1, h2⟩

theorem good_mem {zs : List Int} (hg : Good zs) : ∀ z ∈ zs, 0 ≤ z ∧ z ≤ 4096 := by
  intro z hz
  obtain ⟨k, hk⟩ := List.getElem?_of_mem hz
  exact hg.rng k z hk
theorem diff_fit {zs : List Int} (hg : Good zs) : Fit (diffL zs 0) := fun d hd => by
  have := diffL_fit zs 0 (good_mem hg) (by omega) (by omega) d hd
  omega

set_option maxRecDepth 100000 in
set_option maxHeartbeats 1000000 in
theorem bitsEncode (v : Value) (zs : List Int) (w : World) (hv : Ints w v zs) (hg : Good zs) : Calls Try.prog 36 #[v] w (MadeBytes w (intsB (diffL zs 0))) := by
  have hl := hg.len
  have G := Hid.mk hg.rng
  go_enter Try.func36, Try.ntmps36
  go_wp2_with (go_at_call 50; refine (cloneInts _ zs _ hv (by omega)).mono ?_; rintro e w1 ⟨v1, rfl, ho1, hb1⟩; obtain ⟨ao, co, rfl⟩ := ho1.formInts)
  go_loopw [4] (fun i wr => ∃ m : Nat, m ≤ zs.length ∧ (m = 0 → zs.length = 0) ∧ i = .int .i64 ((m : Int) - 1) ∧ Own w.heap.size 3 wr (.slice ao zs.length co) ((encAt zs m).map (Value.int .i64)) ∧ Below w.heap.size w wr) (fun i _ => (intOf i).toNat)
  case atStart => exact ⟨zs.length, by omega, fun h => h, rfl, by rw [encAt_all]; exact ho1, hb1⟩
  case round =>
    obtain ⟨m, hm, hm0, rfl, hown, hb⟩ := hrel
    have HB := Hid.mk hb
    clear hb
    have hb2 := HB.out.size
    by_cases g : 1 < m
    · obtain ⟨n, rfl⟩ : ∃ n, m = n + 2 := ⟨m - 2, by omega⟩
      obtain ⟨y, hy⟩ := ints_get zs n (by omega)
      obtain ⟨z, hz⟩ := ints_get zs (n+1) (by omega)
      obtain ⟨y1, y2⟩ := G.out n y hy
      obtain ⟨z1, z2⟩ := G.out (n+1) z hz
      obtain ⟨g, cp, hvv, hBg, hgs, hcell, hfr, hset⟩ := hown.block (by rw [List.length_map, encAt_length _ _ hm]; omega)
      rw [List.length_map, encAt_length _ _ hm] at hvv hset
      simp only [Value.slice.injEq, true_and] at hvv
      obtain ⟨rfl, rfl⟩ := hvv
      have c1 := hcell.out n (.int .i64 y) (by rw [List.getElem?_map, encAt_get zs (n+2) n y (by omega) hy]; rfl)
      have c2 := hcell.out (n+1) (.int .i64 z) (by rw [List.getElem?_map, encAt_get zs (n+2) (n+1) z (by omega) hz]; rfl)
      have ff := hfr.out (n+1)
      have N := hset.out (n+1) (.int .i64 (z - y))
      rw [← List.map_set, encAt_set zs n y z hy hz] at N
      have NN := Hid.mk N
      clear N hy hz hm0
      have e1 : ((n : Int) + 2 - 1) = ((n + 1 : Nat) : Int) := by omega
      rw [show ((n + 2 : Nat) : Int) - 1 = ((n + 1 : Nat) : Int) by omega]
      clear e1
      go_wp2
      go_region
      all_goals (try go_wp2)
      go_roundw
      case rel => exact ⟨n + 1, by omega, by omega, by go_num, NN.out, (HB.out.setCell hBg _).drew⟩
      case measure => simp [intOf]
    · have E : Hid (encAt zs m = diffL zs 0) := encAt_one zs m (by omega)
      rw [E.out] at hown
      have HO := Hid.mk hown
      have hdl := diffL_length zs 0
      have HL : Hid ((diffL zs 0).length ≤ 1000000000) := by rw [Hid, hdl]; omega
      clear hdl hown
      go_wp2_with (go_at_call 51; refine (wireInts _ (diffL zs 0) _ HO.out.rdInts (diff_fit hg) HL.out).mono ?_; rintro e w3 ⟨v3, rfl, ho3, hb3⟩)
      go_ret
      exact ⟨_, rfl, ho3.lower hb2, HB.out.trans (hb3.mono hb2)⟩

set_option maxRecDepth 100000 in
set_option maxHeartbeats 1000000 in
theorem refEncode (v : Value) (zs : List Int) (w : World) (hv : Ints w v zs) (hg : Good zs) : Calls Try.prog 39 #[v] w (MadeBytes w (intsB (diffL zs 0))) := by
  obtain ⟨a, cap, b, off, rfl, hcap, hm, ha, hc⟩ := hv.open
  have hl := hg.len
  have G := Hid.mk hg.rng
  go_enter Try.func39, Try.ntmps39
  go_wp2
  go_loopw [3, 4, 5] (fun o l i wr => ∃ (k : Nat) (q : Int) (out : List Int), k ≤ zs.length ∧ out.length = k ∧ 0 ≤ q ∧ q ≤ 4096 ∧ l = .int .i64 q ∧ i = .int .i64 k ∧ Own w.heap.size 3 wr o (out.map (Value.int .i64)) ∧ Below w.heap.size w wr ∧ Hid (diffL zs 0 = out ++ diffL (zs.drop k) q)) (fun _ _ i _ => zs.length - (intOf i).toNat)
  case atStart => exact ⟨0, 0, [], by omega, rfl, by omega, by omega, rfl, rfl, Own.nil _ _ _, Below.refl _ _, rfl⟩
  case round =>
    obtain ⟨k, q, out, hk, ho, q0, q1, rfl, rfl, hown, hb, hh⟩ := hrel
    have HB := Hid.mk hb
    have HO := Hid.mk ho
    have hb2 := hb.size
    clear hb ho
    by_cases hlt : k < zs.length
    · obtain ⟨y, hy⟩ := ints_get zs k hlt
      have HY := Hid.mk (hc.out k y hy)
      have c1 := below_cell HB.out HY.out
      obtain ⟨y1, y2⟩ := G.out k y hy
      obtain rfl := ha (by omega)
      have ST : Hid (diffL zs 0 = (out ++ [y - q]) ++ diffL (zs.drop (k+1)) y) := by
        rw [Hid, hh.out, drop_one zs k y hy, diffL]; simp
      have LO : out.length ≤ 5000 := by rw [HO.out]; omega
      clear ha hy hh
      go_wp2_with (at_builtin; refine wp_push (.tmp 12) (.tmp 19) 22 _ 3 8 _ elemInt rfl rfl Try.underlying22 w.heap.size _ (.int .i64 (y - q)) _ rfl hown rfl rfl (by simp [maxLen]; omega) (by simp; omega) hb2 ?_; intro v' w' hown' hb'; have c2 := below_cell (HB.out.trans hb') HY.out)
      go_roundw
      case rel => exact ⟨k + 1, y, out ++ [y - q], by omega, by simp [HO.out], y1, y2, rfl, by go_num, by simpa using hown', HB.out.trans hb', ST⟩
      case measure => simp [intOf]; omega
    · have E : Hid (diffL zs 0 = out) := by
        rw [Hid, hh.out, List.drop_eq_nil_of_le (by omega), diffL]; simp
      have HOO := Hid.mk hown
      have LO : Hid (out.length ≤ 1000000000) := by rw [Hid, HO.out]; omega
      clear hown
      go_wp2_with (go_at_call 54; refine (refInts _ out _ HOO.out.rdInts (by rw [← E.out]; exact diff_fit hg) LO.out).mono ?_; rintro e w3 ⟨v3, rfl, ho3, hb3⟩)
      go_ret
      exact ⟨_, rfl, by rw [E.out]; exact ho3.lower hb2, HB.out.trans (hb3.mono hb2)⟩

end Go.Proofs.Ytomjfmebbpfkeaa
