/- Plain: the encoding of integers, as wire and antiquaryref01 have it. -/
namespace Go.Proofs.Ytomjfmebbpfkeaa
set_option linter.unusedSimpArgs false
set_option linter.unusedVariables false
set_option linter.unnecessarySimpa false

def zig (n : Int) : Nat := if 0 ≤ n then (2 * n).toNat else (-2 * n - 1).toNat
def unzig (z : Int) : Int := if z % 2 = 0 then z / 2 else -1 - z / 2

theorem zig_lt (n : Int) (h1 : -9223372036854775808 ≤ n) (h2 : n ≤ 9223372036854775807) : zig n < 18446744073709551616 := by unfold zig; split <;> omega
theorem unzig_zig (n : Int) : unzig (zig n) = n := by unfold unzig zig; split <;> split <;> omega

def leb (z : Nat) : List Int := if z < 128 then [(z : Int)] else ((z % 128 + 128 : Nat) : Int) :: leb (z / 128)
decreasing_by omega

theorem leb_small (z : Nat) (h : z < 128) : leb z = [(z : Int)] := by rw [leb, if_pos h]
theorem leb_big (z : Nat) (h : 128 ≤ z) : leb z = ((z % 128 + 128 : Nat) : Int) :: leb (z / 128) := by rw [leb, if_neg (by omega)]

theorem leb_pos (z : Nat) : 1 ≤ (leb z).length := by rw [leb]; split <;> simp

theorem leb_len (k : Nat) : ∀ z, z < 128 ^ (k + 1) → (leb z).length ≤ k + 1 := by
  induction k with
  | zero => intro z h; rw [leb_small z (by simpa using h)]; simp
  | succ k ih =>
    intro z h
    by_cases g : z < 128
    · rw [leb_small z g]; simp
    · rw [leb_big z (by omega)]
      have := ih (z / 128) (by rw [Nat.pow_succ] at h; exact Nat.div_lt_of_lt_mul (by omega))
      simp; omega

def intB (n : Int) : List Int := leb (zig n)

theorem leb64 (z : Nat) (h : z < 18446744073709551616) : (leb z).length ≤ 10 := leb_len 9 z (by have : 128 ^ (9 + 1) = 1180591620717411303424 := rfl; omega)

/-- What GetInt does from the k-th byte on: the number, how many bytes it has, the error. -/
def getGo : List Int → Nat → Int → Int × Int × Int
  | [], _, _ => (0, 0, 10)
  | c :: r, k, z =>
    if (k = 9 ∧ 1 < c) ∨ (0 < k ∧ c = 0) then (0, 0, 11)
    else if c < 128 then (unzig (z + c % 128 * 2 ^ (7 * k)), (k : Int) + 1, 0)
    else getGo r (k + 1) (z + c % 128 * 2 ^ (7 * k))
def getI (bs : List Int) : Int × Int × Int := getGo bs 0 0

theorem getGo_drop (bs : List Int) (k : Nat) (c z : Int) (h : bs[k]? = some c) : getGo (bs.drop k) k z =
    if (k = 9 ∧ 1 < c) ∨ (0 < k ∧ c = 0) then (0, 0, 11) else if c < 128 then (unzig (z + c % 128 * 2 ^ (7 * k)), (k : Int) + 1, 0) else getGo (bs.drop (k+1)) (k + 1) (z + c % 128 * 2 ^ (7 * k)) := by
  obtain ⟨hk, rfl⟩ := List.getElem?_eq_some_iff.1 h
  rw [List.drop_eq_getElem_cons (by omega), getGo]

theorem getGo_end (bs : List Int) (k : Nat) (z : Int) (h : bs.length ≤ k) : getGo (bs.drop k) k z = (0, 0, 10) := by
  rw [List.drop_eq_nil_of_le h, getGo]

end Go.Proofs.Ytomjfmebbpfkeaa
