/- The walks of wire and antiquaryref01: Int and GetInt. -/
import Derived.Test.YtomjfmebbpfkeaaBase2
import Derived.Test.YtomjfmebbpfkeaaBitOps
import Derived.Test.YtomjfmebbpfkeaaPlainW
namespace Go.Proofs.Ytomjfmebbpfkeaa
set_option linter.unusedSimpArgs false
set_option linter.unusedVariables false
set_option linter.unnecessarySimpa false
open Go.RowKit
theorem elemByte : Elem1 Try.prog 5 (.int .u8 0) 1 := ⟨by kernel_rfl, rfl⟩

/-- The call returns a new slice of bytes. -/
def MadeBytes (w : World) (bs : List Int) (e : Ending) (w' : World) : Prop :=
  ∃ v, e = .returned v ∧ Own w.heap.size 5 w' v (bs.map (Value.int .u8)) ∧ Below w.heap.size w w'

/-- A slice of bytes. -/
def Bytes (w : World) (v : Value) (bs : List Int) : Prop := Rd w v (bs.map (Value.int .u8))

theorem Bytes.open {w : World} {v : Value} {zs : List Int} (h : Bytes w v zs) : ∃ a cap b off, v = .slice a zs.length cap ∧ zs.length ≤ cap ∧ cap ≤ maxLen ∧
    (0 < zs.length → a = some ⟨b, off, none⟩) ∧ Hid (∀ (j : Nat) (x : Int), zs[j]? = some x → w.cell? ⟨b, off + j, none⟩ = some (.int .u8 x)) := by
  obtain ⟨a, cap, b, off, h1, h2, h3, h4, h5⟩ := h
  simp only [List.length_map] at h1 h2 h4
  exact ⟨a, cap, b, off, h1, h2, h3, h4, fun j x hx => h5 j _ (by simp [hx])⟩

def Byte (bs : List Int) : Prop := ∀ (k : Nat) (c : Int), bs[k]? = some c → 0 ≤ c ∧ c < 256

theorem zig_walk (n : Int) (h1 : -9223372036854775808 ≤ n) (h2 : n ≤ 9223372036854775807) :
    bits BinOp.xor IntKind.u64 (IntKind.u64.wrap (IntKind.u64.wrap n * 2)) (IntKind.u64.wrap (n / 9223372036854775808)) = zig n := by
  simp only [IntKind.wrap_u64]
  by_cases h : 0 ≤ n
  · have e : n / 9223372036854775808 % 18446744073709551616 = 0 := by omega
    rw [e, xor_u64_0 _ (by omega) (by omega)]; unfold zig; rw [if_pos h]; omega
  · have e : n / 9223372036854775808 % 18446744073709551616 = 18446744073709551615 := by omega
    rw [e, xor_u64_ones _ (by omega) (by omega)]; unfold zig; rw [if_neg h]; omega

set_option maxRecDepth 100000 in
set_option maxHeartbeats 400000 in
theorem wireInt (n : Int) (w : World) (h1 : -9223372036854775808 ≤ n) (h2 : n ≤ 9223372036854775807) : Calls Try.prog 62 #[.int .i64 n] w (MadeBytes w (intB n)) := by
  have hz := zig_lt n h1 h2
  have hlen := leb64 _ hz
  go_enter Try.func62, Try.ntmps62
  go_wp2
  go_loopw [3, 4] (fun z o wr => ∃ (q : Nat) (out : List Int), q < 18446744073709551616 ∧ z = .int .u64 q ∧ out.length ≤ 9 ∧ Own w.heap.size 5 wr o (out.map (Value.int .u8)) ∧ Below w.heap.size w wr ∧ Hid (intB n = out ++ leb q)) (fun z _ _ => (intOf z).toNat)
  case atStart => exact ⟨zig n, [], hz, by rw [zig_walk n h1 h2], by simp, Own.nil _ _ _, Below.refl _ _, rfl⟩
  case round =>
    obtain ⟨q, out, hq, rfl, ho, hown, hb, hh⟩ := hrel
    have HB := Hid.mk hb
    clear hb
    have hb2 := HB.out.size
    by_cases g : 127 < q
    · have H := Hid.mk (leb_big q (by omega))
      have hl : out.length + 1 ≤ 9 := by
        have e := congrArg List.length hh.out
        rw [H.out] at e
        have := leb_pos (q / 128)
        simp at e
        unfold intB at e
        omega
      have eor := u8_or128' q (by omega)
      go_wp2_with (at_builtin; refine wp_push (.tmp 16) (.tmp 20) 42 _ 5 1 _ elemByte rfl rfl Try.underlying42 w.heap.size _ _ _ rfl hown rfl rfl (by simp [maxLen]; omega) (by simp; omega) hb2 ?_; intro v' w' hown' hb')
      go_roundw
      case rel => exact ⟨q / 128, out ++ [((q % 128 + 128 : Nat) : Int)], by omega, by go_num, by simpa using hl, by simpa using hown', HB.out.trans hb', by rw [Hid, hh.out, H.out]; simp⟩
      case measure => simp [intOf]; omega
    · have H := Hid.mk (leb_small q (by omega))
      go_wp2_with (at_builtin; refine wp_push (.tmp 22) (.tmp 25) 42 _ 5 1 _ elemByte rfl rfl Try.underlying42 w.heap.size _ _ _ rfl hown rfl rfl (by simp [maxLen]; omega) (by simp; omega) hb2 ?_; intro v' w' hown' hb')
      go_ret
      exact ⟨_, rfl, by rw [hh.out, H.out]; simpa using hown', HB.out.trans hb'⟩

set_option maxRecDepth 100000 in
set_option maxHeartbeats 400000 in
theorem refInt (n : Int) (w : World) (h1 : -9223372036854775808 ≤ n) (h2 : n ≤ 9223372036854775807) : Calls Try.prog 67 #[.int .i64 n] w (MadeBytes w (intB n)) := by
  have hz := zig_lt n h1 h2
  have hlen := leb64 _ hz
  by_cases hn : n < 0
  all_goals
    go_enter Try.func67, Try.ntmps67
    go_wp2
    go_loopw [3, 4] (fun z o wr => ∃ (q : Nat) (out : List Int), q < 18446744073709551616 ∧ z = .int .u64 q ∧ out.length ≤ 9 ∧ Own w.heap.size 5 wr o (out.map (Value.int .u8)) ∧ Below w.heap.size w wr ∧ Hid (intB n = out ++ leb q)) (fun z _ _ => (intOf z).toNat)
    case atStart => exact ⟨zig n, [], hz, by congr 1; simp only [IntKind.wrap_u64, IntKind.wrap_i64, zig]; split <;> omega, by simp, Own.nil _ _ _, Below.refl _ _, rfl⟩
    case round =>
      obtain ⟨q, out, hq, rfl, ho, hown, hb, hh⟩ := hrel
      have HB := Hid.mk hb
      clear hb
      have hb2 := HB.out.size
      by_cases g : 127 < q
      · have H := Hid.mk (leb_big q (by omega))
        have hl : out.length + 1 ≤ 9 := by
          have e := congrArg List.length hh.out
          rw [H.out] at e
          have := leb_pos (q / 128)
          simp at e
          unfold intB at e
          omega
        go_wp2_with (at_builtin; refine wp_push (.tmp 17) (.tmp 22) 42 _ 5 1 _ elemByte rfl rfl Try.underlying42 w.heap.size _ _ _ rfl hown rfl rfl (by simp [maxLen]; omega) (by simp; omega) hb2 ?_; intro v' w' hown' hb')
        go_roundw
        case rel => exact ⟨q / 128, out ++ [((q % 128 + 128 : Nat) : Int)], by omega, by go_num, by simpa using hl, by simpa using hown', HB.out.trans hb', by rw [Hid, hh.out, H.out]; simp⟩
        case measure => simp [intOf]; omega
      · have H := Hid.mk (leb_small q (by omega))
        go_wp2_with (at_builtin; refine wp_push (.tmp 26) (.tmp 29) 42 _ 5 1 _ elemByte rfl rfl Try.underlying42 w.heap.size _ _ _ rfl hown rfl rfl (by simp [maxLen]; omega) (by simp; omega) hb2 ?_; intro v' w' hown' hb')
        go_ret
        exact ⟨_, rfl, by rw [hh.out, H.out]; simpa using hown', HB.out.trans hb'⟩

end Go.Proofs.Ytomjfmebbpfkeaa
