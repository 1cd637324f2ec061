/- Out of: Wire2. -/
import Derived.Test.YtmeekbjhpidcgaaDoorG1
namespace Go.Proofs.YtmeekbjhpidcgaaDoor
set_option linter.unusedSimpArgs false
set_option linter.unusedVariables false
set_option linter.unnecessarySimpa false
section
open Go.RowKit
theorem unzig_walk (z:Int) (h0:0≤z) (h1:z < 18446744073709551616):bits BinOp.xor IntKind.i64 (z / 2) (-(z % 2))=unzig z:=by
 unfold unzig
 by_cases h:z % 2=0
 ·rw [if_pos h,h];exact xor_i64_0 _ (by omega) (by omega)
 ·rw [if_neg h,show z % 2=1 by omega];exact xor_i64_ones _ (by omega) (by omega)
theorem or_walk (q c:Int) (k:Nat) (hk:k≤9) (q0:0≤q) (hq:q < 2 ^ (7 * k)) (c0:0≤c) (c1:c < 256) (c9:k=9→c≤1) :
  bits .or .u64 q (IntKind.u64.wrap (c % 128 * 2 ^ (7 * k)))=q+c % 128 * 2 ^ (7 * k)∧0≤q+c % 128 * 2 ^ (7 * k)∧q+c % 128 * 2 ^ (7 * k) < 18446744073709551616∧q+c % 128 * 2 ^ (7 * k) < 2 ^ (7 * (k+1)):=by
 have hp:(0:Int) < 2 ^ (7 * k):=Int.pow_pos (by decide)
 have e7:(2:Int) ^ (7 * (k+1))=128 * 2 ^ (7 * k):=by
  rw [show 7 * (k+1)=7 * k+7 by omega,Int.pow_add,Int.mul_comm];rfl
 have hd0:0≤c % 128:=by omega
 have hd1:c % 128 < 128:=by omega
 have hm:c % 128 * 2 ^ (7 * k)≤127 * 2 ^ (7 * k):=Int.mul_le_mul_of_nonneg_right (by omega) (by omega)
 have hn:0≤c % 128 * 2 ^ (7 * k):=Int.mul_nonneg hd0 (by omega)
 have hlt:q+c % 128 * 2 ^ (7 * k) < 18446744073709551616:=by
  by_cases g:k=9
  ·subst g
   have:c % 128≤1:=by have:=c9 rfl;omega
   have hm:c % 128 * 2 ^ (7 * 9)≤1 * 2 ^ (7 * 9):=Int.mul_le_mul_of_nonneg_right this (by omega)
   have e:(2:Int) ^ (7 * 9)=9223372036854775808:=by decide
   rw [e] at *
   omega
  ·have hle:(2:Int) ^ (7 * k)≤2 ^ 56:=by
    have h:=Nat.pow_le_pow_right (n:=2) (by decide) (show 7 * k≤56 by omega)
    exact_mod_cast h
   have e:(2:Int) ^ 56=72057594037927936:=by decide
   rw [e] at hle
   omega
 have hw:IntKind.u64.wrap (c % 128 * 2 ^ (7 * k))=c % 128 * 2 ^ (7 * k):=by rw [IntKind.wrap_u64];omega
 refine ⟨by rw [hw];exact u64_or_shift q _ k hk q0 hq hd0 (by omega),by omega,hlt,by rw [e7];omega⟩
def Ret3 (w:World) (r:Int×Int×Int) (e:Ending) (w' : World):Prop:=
 e = .returned (.tuple #[.int .i64 r.1, .int .i64 r.2.1, .int .i64 r.2.2])∧Still w w'
theorem Ret3.mk {w w' : World} {r:Int×Int×Int} {x y z:Int} (h:r=(x,y,z)) (hs:Still w w'):Ret3 w r (.returned (.tuple #[.int .i64 x, .int .i64 y, .int .i64 z])) w':=by
 subst h;exact ⟨rfl,hs⟩
set_option maxRecDepth 100000 in
set_option maxHeartbeats 1000000 in
theorem wireGetInt (v : Value) (bs : List Int) (w : World) (hv : Bytes w v bs) (hby : Byte bs) : Calls Tryd.prog 89 #[v] w (Ret3 w (getI bs)) := by
  obtain ⟨a, cap, b, off, rfl, hcap, hm, ha, hc⟩ := hv.open
  unfold maxLen at hm
  have HBY := Hid.mk hby
  clear hby
  go_enter Tryd.func89, Tryd.ntmps89
  go_wp2
  go_step3
  go_wp2
  go_step3
  go_wp2
  go_loop [5, 6, 11] (fun z u i => ∃ (k : Nat) (q : Int), k ≤ 9 ∧ k ≤ bs.length ∧ 0 ≤ q ∧ Hid (q < 2 ^ (7 * k)) ∧ z = .int .u64 q ∧ u = .int .i64 0 ∧ i = .int .i64 k ∧ Hid (getI bs = getGo (bs.drop k) k q)) (fun _ _ i => bs.length - (intOf i).toNat)
  case atStart => exact ⟨0, 0, by omega, by omega, by omega, by simp [Hid], rfl, rfl, rfl, rfl⟩
  case round =>
    obtain ⟨k, q, hk9, hk, hq0, hq, rfl, rfl, rfl, hh⟩ := hrel
    by_cases hlt : k < bs.length
    · obtain ⟨c, hcc⟩ := ints_get bs k hlt
      have c1 := hc.out k c hcc
      obtain ⟨y1, y2⟩ := HBY.out k c hcc
      obtain rfl := ha (by omega)
      have H := Hid.mk (getGo_drop bs k c q hcc)
      clear ha hcc
      have e127 := u8_and127 c y1 y2
      have bad : Hid ((k = 9 ∧ 1 < c) ∨ (0 < k ∧ c = 0) → getI bs = (0, 0, 11)) := fun h => by rw [hh.out, H.out, if_pos h]
      by_cases g1 : k = 9 ∧ 1 < c
      · obtain ⟨rfl, g1⟩ := g1
        have B := Hid.mk (bad.out (.inl ⟨rfl, g1⟩))
        go_wp2
        go_ret3
        exact Ret3.mk B.out (Still.refl _)
      · by_cases g2 : 0 < k ∧ c = 0
        · obtain ⟨g2, rfl⟩ := g2
          have B := Hid.mk (bad.out (.inr ⟨g2, rfl⟩))
          have g1' : decide ((1 : Int) < 0) = false := rfl
          by_cases g9 : ((k : Int) == 9) = true
          all_goals
            go_wp2
            go_ret3
            exact Ret3.mk B.out (Still.refl _)
        · obtain ⟨o1, o2, o3, o4⟩ := or_walk q c k hk9 hq0 hq.out y1 y2 (by omega)
          have H2 : Hid (getI bs = if c < 128 then (unzig (q + c % 128 * 2 ^ (7 * k)), (k : Int) + 1, 0) else getGo (bs.drop (k+1)) (k + 1) (q + c % 128 * 2 ^ (7 * k))) := by
            rw [Hid, hh.out, H.out, if_neg (by omega)]
          clear hh H bad
          generalize q + c % 128 * 2 ^ (7 * k) = z' at o1 o2 o3 o4 H2
          have O4 := Hid.mk o4
          clear o4
          have eand := u64_and1 z' o2 o3
          have eun := unzig_walk z' o2 o3
          have d1 : Hid (((k : Int) == 9) = true → decide (1 < c) = false) := fun h => by simp at h ⊢; omega
          have d2 : Hid (decide (0 < (k : Int)) = true → (c == 0) = false) := fun h => by simp at h ⊢; omega
          cases g9 : ((k : Int) == 9)
          all_goals cases gk : decide (0 < (k : Int))
          all_goals try have d1' := d1.out g9
          all_goals try have d2' := d2.out gk
          all_goals clear d1 d2
          all_goals by_cases g4 : c < 128
          all_goals go_wp2
          all_goals first
            | (go_ret3
               exact Ret3.mk (by rw [H2.out, if_pos (by omega)]) (Still.refl _))
            | (go_round
               case rel => exact ⟨k + 1, z', by omega, by omega, o2, O4.out, rfl, rfl, by go_num, by rw [Hid, H2.out, if_neg (by omega)]⟩
               case measure => simp [intOf]; omega)
    · have B : Hid (getI bs = (0, 0, 10)) := by rw [Hid, hh.out, getGo_end _ _ _ (by omega)]
      go_wp2
      go_ret3
      exact Ret3.mk B.out (Still.refl _)
end
end Go.Proofs.YtmeekbjhpidcgaaDoor
