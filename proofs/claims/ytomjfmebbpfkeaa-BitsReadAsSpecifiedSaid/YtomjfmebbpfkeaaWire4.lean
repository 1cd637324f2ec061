/- The walks of wire and antiquaryref01: length, Ints. -/
import Derived.Test.YtomjfmebbpfkeaaWire3
import Derived.Test.YtomjfmebbpfkeaaPlainY
import Derived.Test.YtomjfmebbpfkeaaBase3
namespace Go.Proofs.Ytomjfmebbpfkeaa
set_option linter.unusedSimpArgs false
set_option linter.unusedVariables false
set_option linter.unnecessarySimpa false
open Go.RowKit

theorem Byte.all {bs : List Int} (h : Byte bs) : ∀ c ∈ bs, 0 ≤ c ∧ c < 256 := by
  intro c hc
  obtain ⟨k, hk⟩ := List.getElem?_of_mem hc
  exact h k c hk
theorem Byte.of {bs : List Int} (h : ∀ c ∈ bs, 0 ≤ c ∧ c < 256) : Byte bs := fun _ c hk => h c (List.mem_of_getElem? hk)

set_option maxRecDepth 100000 in
set_option maxHeartbeats 1000000 in
theorem wireLength (v : Value) (bs : List Int) (least : Int) (w : World) (hv : Bytes w v bs) (hby : Byte bs) (hl : 1 ≤ least) (hl2 : least ≤ 1000) : Calls Try.prog 71 #[v, .int .i64 least] w (Ret3 w (lenL bs least)) := by
  obtain ⟨a, cap, b, off, hvv, hcap, hm, -⟩ := hv.open
  unfold maxLen at hm
  have ok := Hid.mk (getI_ok bs hby.all)
  obtain ⟨n, u, er, hr⟩ : ∃ n u er, getI bs = (n, u, er) := ⟨_, _, _, rfl⟩
  have L : Hid (lenL bs least = if er ≠ 0 then (0, 0, er) else if n < 0 then (0, 0, 11) else if (bs.length - u) / least < n then (0, 0, 10) else (n, u, 0)) := by
    rw [Hid, lenL, hr]
  have HR := Hid.mk hr
  rw [hr] at ok
  clear hr
  subst hvv
  by_cases g : er = 0
  · obtain rfl := g
    obtain ⟨o1, o2, o3, o4⟩ := ok.out rfl
    simp only at o1 o2 o3 o4
    by_cases g1 : n < 0
    · have L2 : Hid (lenL bs least = (0, 0, 11)) := by rw [Hid, L.out, if_neg (by simp), if_pos g1]
      go_enter Try.func71, Try.ntmps71
      go_wp2_with (go_at_call 64; refine (wireGetInt _ bs _ hv hby).mono ?_; rintro e w' ⟨rfl, k, rfl⟩; rw [HR.out])
      go_ret3
      exact Ret3.mk L2.out (Still.one _ _)
    · by_cases g2 : (bs.length - u) / least < n
      · have L2 : Hid (lenL bs least = (0, 0, 10)) := by rw [Hid, L.out, if_neg (by simp), if_neg g1, if_pos g2]
        go_enter Try.func71, Try.ntmps71
        go_wp2_with (go_at_call 64; refine (wireGetInt _ bs _ hv hby).mono ?_; rintro e w' ⟨rfl, k, rfl⟩; rw [HR.out])
        go_ret3
        exact Ret3.mk L2.out (Still.one _ _)
      · have L2 : Hid (lenL bs least = (n, u, 0)) := by rw [Hid, L.out, if_neg (by simp), if_neg g1, if_neg g2]
        go_enter Try.func71, Try.ntmps71
        go_wp2_with (go_at_call 64; refine (wireGetInt _ bs _ hv hby).mono ?_; rintro e w' ⟨rfl, k, rfl⟩; rw [HR.out])
        go_ret3
        exact Ret3.mk L2.out (Still.one _ _)
  · have g' : (er == 0) = false := by simpa using g
    have L2 : Hid (lenL bs least = (0, 0, er)) := by rw [Hid, L.out, if_pos g]
    go_enter Try.func71, Try.ntmps71
    go_wp2_with (go_at_call 64; refine (wireGetInt _ bs _ hv hby).mono ?_; rintro e w' ⟨rfl, k, rfl⟩; rw [HR.out])
    go_ret3
    exact Ret3.mk L2.out (Still.one _ _)

set_option maxRecDepth 100000 in
set_option maxHeartbeats 1000000 in
theorem refLength (v : Value) (bs : List Int) (least : Int) (w : World) (hv : Bytes w v bs) (hby : Byte bs) (hl : 1 ≤ least) (hl2 : least ≤ 1000) : Calls Try.prog 65 #[v, .int .i64 least] w (Ret3 w (lenL bs least)) := by
  obtain ⟨a, cap, b, off, hvv, hcap, hm, -⟩ := hv.open
  unfold maxLen at hm
  have ok := Hid.mk (getI_ok bs hby.all)
  obtain ⟨n, u, er, hr⟩ : ∃ n u er, getI bs = (n, u, er) := ⟨_, _, _, rfl⟩
  have L : Hid (lenL bs least = if er ≠ 0 then (0, 0, er) else if n < 0 then (0, 0, 11) else if (bs.length - u) / least < n then (0, 0, 10) else (n, u, 0)) := by
    rw [Hid, lenL, hr]
  have HR := Hid.mk hr
  rw [hr] at ok
  clear hr
  subst hvv
  by_cases g : er = 0
  · obtain rfl := g
    obtain ⟨o1, o2, o3, o4⟩ := ok.out rfl
    simp only at o1 o2 o3 o4
    by_cases g1 : n < 0
    · have L2 : Hid (lenL bs least = (0, 0, 11)) := by rw [Hid, L.out, if_neg (by simp), if_pos g1]
      go_enter Try.func65, Try.ntmps65
      go_wp2_with (go_at_call 66; refine (refGetInt _ bs _ hv hby).mono ?_; rintro e w' ⟨rfl, k, rfl⟩; rw [HR.out])
      go_ret3
      exact Ret3.mk L2.out (Still.one _ _)
    · by_cases g2 : (bs.length - u) / least < n
      · have L2 : Hid (lenL bs least = (0, 0, 10)) := by rw [Hid, L.out, if_neg (by simp), if_neg g1, if_pos g2]
        go_enter Try.func65, Try.ntmps65
        go_wp2_with (go_at_call 66; refine (refGetInt _ bs _ hv hby).mono ?_; rintro e w' ⟨rfl, k, rfl⟩; rw [HR.out])
        go_ret3
        exact Ret3.mk L2.out (Still.one _ _)
      · have L2 : Hid (lenL bs least = (n, u, 0)) := by rw [Hid, L.out, if_neg (by simp), if_neg g1, if_neg g2]
        go_enter Try.func65, Try.ntmps65
        go_wp2_with (go_at_call 66; refine (refGetInt _ bs _ hv hby).mono ?_; rintro e w' ⟨rfl, k, rfl⟩; rw [HR.out])
        go_ret3
        exact Ret3.mk L2.out (Still.one _ _)
  · have g' : (er == 0) = false := by simpa using g
    have L2 : Hid (lenL bs least = (0, 0, er)) := by rw [Hid, L.out, if_pos g]
    go_enter Try.func65, Try.ntmps65
    go_wp2_with (go_at_call 66; refine (refGetInt _ bs _ hv hby).mono ?_; rintro e w' ⟨rfl, k, rfl⟩; rw [HR.out])
    go_ret3
    exact Ret3.mk L2.out (Still.one _ _)

/-- All numbers fit into 64 bits. -/
def Fit (l : List Int) : Prop := ∀ z ∈ l, -9223372036854775808 ≤ z ∧ z ≤ 9223372036854775807

theorem oneCells (k : IntKind) (l : List Int) : ∀ c ∈ l.map (Value.int k), c.oneCell' = true := by
  intro c hc
  obtain ⟨_, _, rfl⟩ := List.mem_map.1 hc
  rfl

theorem callInt (args : Array Value) (w : World) : (callFunc 62 args).run Try.prog w = .ok (.enter 62 args) w := by kernel_rfl

set_option maxRecDepth 100000 in
set_option maxHeartbeats 1000000 in
theorem wireList (v : Value) (zs : List Int) (w : World) (hv : Ints w v zs) (hf : Fit zs) (hl : zs.length ≤ 1000000000) : Calls Try.prog 61 #[v, .func (.func 62) #[] #[]] w (MadeBytes w (intsB zs)) := by
  obtain ⟨a, cap, b, off, rfl, hcap, hm, ha, hc⟩ := hv.open
  have HF := Hid.mk hf
  have hl0 := intB_len zs.length (by omega) (by omega)
  go_enter Try.func61, Try.ntmps61
  go_wp2_with (go_at_call 62; refine (wireInt _ _ (by omega) (by omega)).mono ?_; rintro e w1 ⟨v1, rfl, ho1, hb1⟩)
  go_loopw [5, 13] (fun o i wr => ∃ k : Nat, k ≤ zs.length ∧ i = .int .i64 k ∧ Own w.heap.size 5 wr o ((intB zs.length ++ ((zs.take k).map intB).flatten).map (Value.int .u8)) ∧ Below w.heap.size w wr) (fun _ i _ => zs.length - (intOf i).toNat)
  case atStart => exact ⟨0, by omega, rfl, by simpa using ho1, hb1⟩
  case round =>
    obtain ⟨k, hk, rfl, hown, hb⟩ := hrel
    have HB := Hid.mk hb
    clear hb
    have hb2 := HB.out.size
    by_cases hlt : k < zs.length
    · obtain ⟨y, hy⟩ := ints_get zs k hlt
      have c1 := below_cell HB.out (hc.out k y hy)
      obtain ⟨y1, y2⟩ := HF.out y (List.mem_of_getElem? hy)
      have hl1 := intB_len y y1 y2
      have hl2 := flat_len (zs.take k) (fun z hz => HF.out z (List.mem_of_mem_take hz))
      have hl3 : (zs.take k).length ≤ zs.length := by rw [List.length_take]; omega
      obtain rfl := ha (by omega)
      have T := Hid.mk (flat_take zs k y hy)
      clear ha hy
      go_wp2_with (first | (at_builtin; refine wp_append (.tmp 17) (.tmp 20) 42 5 1 _ elemByte rfl rfl Try.underlying42 w.heap.size _ _ _ _ rfl (hown.kept hb3) rfl ho3.rd (by simp only [List.length_map]; omega) (oneCells _ _) (by simp only [List.length_map, List.length_append, maxLen]; omega) (by simp only [List.length_map, List.length_append]; omega) (by have := hb3.size; omega) ?_; intro v' w' hown' hb') | (go_at_call 62; refine (wireInt _ _ y1 y2).mono ?_; rintro e w3 ⟨v3, rfl, ho3, hb3⟩))
      go_roundw
      case rel => exact ⟨k + 1, by omega, by go_num, by rw [T.out, ← List.append_assoc, List.map_append]; exact hown', (HB.out.trans (hb3.mono hb2)).trans hb'⟩
      case measure => simp [intOf]; omega
    · have e : zs.take k = zs := List.take_of_length_le (by omega)
      rw [e] at hown
      go_wp2
      go_ret
      exact ⟨_, rfl, hown, HB.out⟩

theorem wireInts (v : Value) (zs : List Int) (w : World) (hv : Ints w v zs) (hf : Fit zs) (hl : zs.length ≤ 1000000000) : Calls Try.prog 51 #[v] w (MadeBytes w (intsB zs)) := by
  go_enter Try.func51, Try.ntmps51
  go_wp2_with (go_at_call 61; refine (wireList _ zs _ hv hf hl).mono ?_; rintro e w1 ⟨v1, rfl, ho1, hb1⟩)
  go_ret
  exact ⟨_, rfl, ho1, hb1⟩

set_option maxRecDepth 100000 in
set_option maxHeartbeats 1000000 in
theorem refInts (v : Value) (zs : List Int) (w : World) (hv : Ints w v zs) (hf : Fit zs) (hl : zs.length ≤ 1000000000) : Calls Try.prog 54 #[v] w (MadeBytes w (intsB zs)) := by
  obtain ⟨a, cap, b, off, rfl, hcap, hm, ha, hc⟩ := hv.open
  have HF := Hid.mk hf
  have hl0 := intB_len zs.length (by omega) (by omega)
  go_enter Try.func54, Try.ntmps54
  go_wp2_with (go_at_call 67; refine (refInt _ _ (by omega) (by omega)).mono ?_; rintro e w1 ⟨v1, rfl, ho1, hb1⟩)
  go_loopw [3, 4] (fun o i wr => ∃ k : Nat, k ≤ zs.length ∧ i = .int .i64 k ∧ Own w.heap.size 5 wr o ((intB zs.length ++ ((zs.take k).map intB).flatten).map (Value.int .u8)) ∧ Below w.heap.size w wr) (fun _ i _ => zs.length - (intOf i).toNat)
  case atStart => exact ⟨0, by omega, rfl, by simpa using ho1, hb1⟩
  case round =>
    obtain ⟨k, hk, rfl, hown, hb⟩ := hrel
    have HB := Hid.mk hb
    clear hb
    have hb2 := HB.out.size
    by_cases hlt : k < zs.length
    · obtain ⟨y, hy⟩ := ints_get zs k hlt
      have c1 := below_cell HB.out (hc.out k y hy)
      obtain ⟨y1, y2⟩ := HF.out y (List.mem_of_getElem? hy)
      have hl1 := intB_len y y1 y2
      have hl2 := flat_len (zs.take k) (fun z hz => HF.out z (List.mem_of_mem_take hz))
      have hl3 : (zs.take k).length ≤ zs.length := by rw [List.length_take]; omega
      obtain rfl := ha (by omega)
      have T := Hid.mk (flat_take zs k y hy)
      clear ha hy
      go_wp2_with (first | (at_builtin; refine wp_append (.tmp 14) (.tmp 19) 42 5 1 _ elemByte rfl rfl Try.underlying42 w.heap.size _ _ _ _ rfl (hown.kept hb3) rfl ho3.rd (by simp only [List.length_map]; omega) (oneCells _ _) (by simp only [List.length_map, List.length_append, maxLen]; omega) (by simp only [List.length_map, List.length_append]; omega) (by have := hb3.size; omega) ?_; intro v' w' hown' hb') | (go_at_call 67; refine (refInt _ _ y1 y2).mono ?_; rintro e w3 ⟨v3, rfl, ho3, hb3⟩))
      go_roundw
      case rel => exact ⟨k + 1, by omega, by go_num, by rw [T.out, ← List.append_assoc, List.map_append]; exact hown', (HB.out.trans (hb3.mono hb2)).trans hb'⟩
      case measure => simp [intOf]; omega
    · have e : zs.take k = zs := List.take_of_length_le (by omega)
      rw [e] at hown
      go_wp2
      go_ret
      exact ⟨_, rfl, hown, HB.out⟩

end Go.Proofs.Ytomjfmebbpfkeaa
