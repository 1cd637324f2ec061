/- Out of: PlainRt2. -/
import Derived.Lib.BitFns
import Derived.Test.YtoamkpgaaanafaaGreatG1
namespace Go.Proofs.YtoamkpgaaanafaaGreat
set_option linter.unusedSimpArgs false
set_option linter.unusedVariables false
set_option linter.unnecessarySimpa false
section
theorem rootN_uniq {n r:Nat} (h:n≤1152921504606846976) (h1:r * r≤n) (h2:n < (r+1) * (r+1)):rootN n=r:=by
 obtain ⟨h3,h4⟩:=rootN_spec h
 have a1:rootN n < r+1:=Nat.mul_self_lt_mul_self_iff.1 (Nat.lt_of_le_of_lt h3 h2)
 have a2:r < rootN n+1:=Nat.mul_self_lt_mul_self_iff.1 (Nat.lt_of_le_of_lt h1 h4)
 omega
theorem rootN_sq {a:Nat} (h:a≤1073741824):rootN (a * a)=a:=by
 refine rootN_uniq ?_ (Nat.le_refl _) (Nat.mul_self_lt_mul_self_iff.2 (by omega))
 exact Nat.mul_le_mul h h
theorem rootI_four {a:Int} (h0:0≤a) (h1:a≤134217728):rootI (4 * a * a)=2 * a:=by
 obtain ⟨k,rfl⟩:∃k:Nat,a=k:=⟨a.toNat,by omega⟩
 have e:(clampI (4 * (k:Int) * k) 0 1152921504606846976).toNat=(2 * k) * (2 * k):=by
  have h3:4 * (k:Int) * k=((2 * k) * (2 * k):Nat):=by rw [Int.natCast_mul,Int.natCast_mul];grind
  rw [h3]
  have h4:((2 * k) * (2 * k):Nat)=4 * (k * k):=by grind
  have hk:k≤134217728:=by omega
  have h5:(k * k:Nat)≤134217728 * 134217728:=Nat.mul_le_mul hk hk
  unfold clampI
  omega
 unfold rootI
 rw [e,rootN_sq (by omega)]
 omega
theorem lowM_same (m:Int) {a:Int} (h0:0≤a) (h1:a≤134217728):lowM m a a=0:=by
 unfold lowM
 split
 ·rw [rootI_four h0 h1];omega
 ·omega
end
end Go.Proofs.YtoamkpgaaanafaaGreat
