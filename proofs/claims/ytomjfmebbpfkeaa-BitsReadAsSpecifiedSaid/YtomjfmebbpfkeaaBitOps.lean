/- What the operators on bits give, where wire uses them. -/
import Derived.WalkKit
namespace Go.Proofs.Ytomjfmebbpfkeaa
set_option linter.unusedSimpArgs false
set_option linter.unusedVariables false
set_option linter.unnecessarySimpa false

theorem wraps_u64 (n : Int) (h₀ : 0 ≤ n) (h₁ : n < 2 ^ 64) : IntKind.u64.wrap n = n := by rw [IntKind.wrap_u64]; omega

theorem xor_u64_0 (x : Int) (h0 : 0 ≤ x) (h1 : x < 18446744073709551616) : bits .xor .u64 x 0 = x := by
  obtain ⟨a, rfl⟩ : ∃ a : Nat, x = a := ⟨x.toNat, by omega⟩
  have := bits_xor_u64_nat a 0 (by omega) (by omega)
  simpa using this

theorem xor_u64_ones (x : Int) (h0 : 0 ≤ x) (h1 : x < 18446744073709551616) : bits .xor .u64 x 18446744073709551615 = 18446744073709551615 - x := by
  obtain ⟨a, rfl⟩ : ∃ a : Nat, x = a := ⟨x.toNat, by omega⟩
  have e : (BitVec.ofInt IntKind.u64.bits 18446744073709551615 : BitVec IntKind.u64.bits) = BitVec.allOnes 64 := rfl
  have e2 : ((BitVec.ofInt IntKind.u64.bits (a : Int) : BitVec IntKind.u64.bits) ^^^ BitVec.ofInt IntKind.u64.bits 18446744073709551615).toNat = 18446744073709551615 - a := by
    rw [e]
    show ((BitVec.ofInt 64 (a : Int)) ^^^ BitVec.allOnes 64).toNat = _
    rw [BitVec.xor_allOnes, BitVec.toNat_not, BitVec.toNat_ofInt]
    omega
  show IntKind.u64.wrap _ = _
  simp only []
  rw [e2, IntKind.wrap_u64]
  omega

theorem xor_i64_0 (x : Int) (h0 : -9223372036854775808 ≤ x) (h1 : x < 9223372036854775808) : bits .xor .i64 x 0 = x := by
  have e2 : ((BitVec.ofInt IntKind.i64.bits x : BitVec IntKind.i64.bits) ^^^ BitVec.ofInt IntKind.i64.bits 0).toNat = (x % 18446744073709551616).toNat := by
    show ((BitVec.ofInt 64 x) ^^^ BitVec.ofInt 64 0).toNat = _
    rw [show BitVec.ofInt 64 0 = 0#64 from rfl, BitVec.xor_zero, BitVec.toNat_ofInt]
    rfl
  show IntKind.i64.wrap _ = _
  simp only []
  rw [e2, IntKind.wrap_i64]
  omega

theorem xor_i64_ones (x : Int) (h0 : -9223372036854775808 ≤ x) (h1 : x < 9223372036854775808) : bits .xor .i64 x (-1) = -1 - x := by
  have e2 : ((BitVec.ofInt IntKind.i64.bits x : BitVec IntKind.i64.bits) ^^^ BitVec.ofInt IntKind.i64.bits (-1)).toNat = 18446744073709551615 - (x % 18446744073709551616).toNat := by
    show ((BitVec.ofInt 64 x) ^^^ BitVec.ofInt 64 (-1)).toNat = _
    rw [show BitVec.ofInt 64 (-1) = BitVec.allOnes 64 from rfl, BitVec.xor_allOnes, BitVec.toNat_not, BitVec.toNat_ofInt]
    rfl
  show IntKind.i64.wrap _ = _
  simp only []
  rw [e2, IntKind.wrap_i64]
  omega

theorem u8_and127 (x : Int) (h₀ : 0 ≤ x) (h₁ : x < 256) : bits .and .u8 x 127 = x % 128 := bits_mask .u8 8 (by decide) wraps_u8 7 (by decide) x h₀ h₁
theorem u64_and1 (x : Int) (h₀ : 0 ≤ x) (h₁ : x < 18446744073709551616) : bits .and .u64 x 1 = x % 2 := bits_mask .u64 64 (by decide) wraps_u64 1 (by decide) x h₀ h₁

theorem bits_or_comm (k : IntKind) (x y : Int) : bits .or k x y = bits .or k y x := by
  simp only [bits, BitVec.or_comm]

theorem u8_or128' (q : Int) (h0 : 0 ≤ q) : bits .or .u8 (q % 256) 128 = q % 128 + 128 := by
  obtain ⟨a, rfl⟩ : ∃ a : Nat, q = a := ⟨q.toNat, by omega⟩
  have h := (bits_nat .u8 8 (by decide) wraps_u8 (a % 256) 128 (by omega) (by omega)).2
  have e : (a % 256 ||| 128 : Nat) = a % 128 + 128 := by
    have key : ∀ x : Fin 256, (x.val ||| 128 : Nat) = x.val % 128 + 128 := by decide +kernel
    have := key ⟨a % 256, by omega⟩
    simp only at this
    rw [this]; omega
  rw [e] at h
  have c1 : ((a % 256 : Nat) : Int) = (a : Int) % 256 := by omega
  have c2 : ((128 : Nat) : Int) = 128 := rfl
  rw [c1, c2] at h
  rw [h]; omega

/-- z |= d << (7k), where z has only lower bits. -/
theorem u64_or_shift (z d : Int) (k : Nat) (hk : k ≤ 9) (hz0 : 0 ≤ z) (hz : z < 2 ^ (7 * k)) (hd0 : 0 ≤ d) (hd9 : d * 2 ^ (7 * k) < 18446744073709551616) :
    bits .or .u64 z (d * 2 ^ (7 * k)) = z + d * 2 ^ (7 * k) := by
  have hp : (0 : Int) < 2 ^ (7 * k) := Int.pow_pos (by decide)
  have hle : (2 : Int) ^ (7 * k) ≤ 9223372036854775808 := by
    have : (2 : Int) ^ (7 * k) ≤ 2 ^ 63 := by
      have h := Nat.pow_le_pow_right (n := 2) (by decide) (show 7 * k ≤ 63 by omega)
      exact_mod_cast h
    simpa using this
  rw [bits_or_comm, bits_join .u64 64 (by decide) wraps_u64 (7 * k) _ _ (Int.mul_nonneg hd0 (by omega)) (by simp) (by simpa using hd9) hz0 hz (by
    have : (2 : Int) ^ 64 = 18446744073709551616 := by decide
    omega)]
  omega

end Go.Proofs.Ytomjfmebbpfkeaa
