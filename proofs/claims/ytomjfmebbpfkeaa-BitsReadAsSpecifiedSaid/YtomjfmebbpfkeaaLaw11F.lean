/- The walk of the law BitsReadAsSpecified. -/
import Derived.Test.YtomjfmebbpfkeaaBitsF
import Derived.Test.YtomjfmebbpfkeaaBitsI
import Derived.Test.YtomjfmebbpfkeaaPlainZ
import Derived.Test.YtomjfmebbpfkeaaSanity11
import Derived.Laws.BytesString
import Derived.Deep.RegionHeld3
namespace Go.Proofs.Ytomjfmebbpfkeaa
set_option linter.unusedSimpArgs false
set_option linter.unusedVariables false
set_option linter.unnecessarySimpa false
open Go.RowKit

/-- The string of a row of bytes. -/
def strOf (bs : List Int) : ByteArray := bs.foldl (fun r n => r.push (UInt8.ofNat n.toNat)) ByteArray.empty

theorem conv_bytes {w : World} {v : Value} {bs : List Int} (h : Bytes w v bs) :
    (convert 42 9 v).run Try.prog w = .ok (.string (strOf bs)) w := by
  obtain ⟨a, cap, b, off, rfl, hcap, hm, ha, hc⟩ := h
  rw [run_convert_bytes_string w _ _ _ _ _ _ Try.underlying42 Try.underlying5 Try.underlying9]
  simp only [List.length_map] at *
  cases a with
  | none =>
    have : bs = [] := by
      cases bs with
      | nil => rfl
      | cons x l => simp at ha
    subst this
    rfl
  | some a =>
    refine run_bytesToString w a _ _ bs ?_
    have := run_loadCells_list (P := Try.prog) (w := w) a (bs.map (Value.int .u8)) (fun j v hv => by
      have hj := (List.getElem?_eq_some_iff.1 hv).1
      have := ha (by simp at hj; omega)
      simp only [Option.some.injEq] at this
      subst this
      rw [show (⟨b, off, none⟩ : Addr).add j = ⟨b, off + j, none⟩ from by simp [Addr.add]]
      exact hc j v hv)
    simpa using this

theorem dec_err {bs ys : List Int} {er : Int} (h : decL bs = (ys, er)) (g : er ≠ 0) : ys = [] ∧ er = 11 := by
  rw [decL] at h
  split at h
  · cases h; exact ⟨rfl, rfl⟩
  · split at h
    · cases h; exact absurd rfl g
    · cases h; exact ⟨rfl, rfl⟩

set_option maxRecDepth 100000 in
set_option maxHeartbeats 4000000 in
theorem lawRead (u v : Value) (xs bs : List Int) (w : World) (hu : Ints w u xs) (hv : Bytes w v bs) (hby : Byte bs) (lu : xs.length ≤ 17592186044416) (lv : bs.length ≤ 140737488355328) :
    Calls Try.prog 6 #[u, v] w fun e w' => e = .returned (.bool true) ∧ Below w.heap.size w w' := by
  obtain ⟨a, cap, b, off, hvv, hcap, hm, -⟩ := hv.open
  cases h : validB xs
  · subst hvv
    go_enter Try.func6, Try.ntmps6
    have B0 := Hid.mk (Below.refl w.heap.size w)
    have u_0 := Hid.mk hu
    go_wp2_with fail
    go_at_call 15
    refine (refValid _ xs _ u_0.out lu).mono ?_
    rw [h]
    rintro e w1 ⟨rfl, hs1⟩
    have hb1 := stillB hs1
    have B1 := Hid.mk (belowT B0.out hb1)
    clear hb1 hs1
    go_wp2_with fail
    go_at_call 10
    refine (sanity _).mono ?_
    rintro e w2 ⟨rfl, hb2⟩
    have B2 := Hid.mk (belowT B1.out hb2)
    clear hb2
    go_wp2
    go_ret
    exact ⟨rfl, B2.out⟩
  · by_cases hbig : 20000 < bs.length
    · have hbig' : decide ((20000 : Int) < (bs.length : Int)) = true := by simp; omega
      subst hvv
      go_enter Try.func6, Try.ntmps6
      have B0 := Hid.mk (Below.refl w.heap.size w)
      have u_0 := Hid.mk hu
      go_wp2_with fail
      go_at_call 15
      refine (refValid _ xs _ u_0.out lu).mono ?_
      rw [h]
      rintro e w1 ⟨rfl, hs1⟩
      have hb1 := stillB hs1
      have B1 := Hid.mk (belowT B0.out hb1)
      clear hb1 hs1
      go_wp2_with fail
      go_at_call 10
      refine (sanity _).mono ?_
      rintro e w2 ⟨rfl, hb2⟩
      have B2 := Hid.mk (belowT B1.out hb2)
      clear hb2
      go_wp2
      go_ret
      exact ⟨rfl, B2.out⟩
    · have hbig' : decide ((20000 : Int) < (bs.length : Int)) = false := by simp; omega
      have hg := good_of_valid h
      have D1 := Hid.mk (dec_enc h)
      obtain ⟨ys, er, hde⟩ : ∃ ys er, decL bs = (ys, er) := ⟨_, _, rfl⟩
      have LY : ys.length ≤ 17592186044416 := by
        by_cases g : er = 0
        · subst g
          have := (good_of_valid (enc_dec hby.all hde).2).len
          omega
        · rw [(dec_err hde g).1]; simp
      have EY : Hid (er = 0 → intsB (diffL ys 0) = bs ∧ Good ys) := fun g => by
        subst g
        exact ⟨(enc_dec hby.all hde).1, good_of_valid (enc_dec hby.all hde).2⟩
      have D2 := Hid.mk hde
      have HVV := Hid.mk hvv
      have HU := Hid.mk hu
      have HV := Hid.mk hv
      clear hde hu hv
      subst hvv
      go_enter Try.func6, Try.ntmps6
      go_wp2_with fail
      go_at_call 15
      refine (refValid _ xs _ HU.out lu).mono ?_
      rw [h]
      rintro e w1 ⟨rfl, hs1⟩
      have B1 := Hid.mk (stillB hs1)
      clear hs1
      go_wp2_with fail
      go_at_call 36
      refine (bitsEncode _ xs _ (Rd.below HU.out B1.out) hg).mono ?_
      rintro e w2 ⟨v2, rfl, ho2, hb2⟩
      have B2 := Hid.mk (belowT B1.out hb2)
      have S2 : Hid (Bytes w2 v2 _) := ho2.rd
      clear hb2 ho2
      go_wp2_with fail
      go_at_call 37
      refine (bitsDecode _ _ _ S2.out (intsB_byte _) (intsB_len _ hg)).mono ?_
      rw [D1.out]
      rintro e w3 ⟨v3, rfl, ho3, hb3⟩
      have B3 := Hid.mk (belowT B2.out hb3)
      have S3 := Hid.mk (Rd.below S2.out hb3)
      have X3 : Hid (Ints w3 v3 xs) := ho3.rd
      clear hb3 ho3
      go_wp2_with fail
      go_at_call 37
      refine (bitsDecode _ _ _ (Rd.below HV.out B3.out) hby (by omega)).mono ?_
      rw [D2.out]
      rintro e w4 ⟨v4, rfl, ho4, hb4⟩
      have B4 := Hid.mk (belowT B3.out hb4)
      have S4 := Hid.mk (Rd.below S3.out hb4)
      have X4 := Hid.mk (Rd.below X3.out hb4)
      have Y4 : Hid (Ints w4 v4 ys) := ho4.rd
      clear hb4 ho4
      go_wp2_with fail
      go_at_call 38
      refine (refDecode _ _ _ (Rd.below HV.out B4.out) hby (by omega)).mono ?_
      rw [D2.out]
      rintro e w5 ⟨v5, rfl, ho5, hb5⟩
      obtain ⟨a5, c5, rfl⟩ := ho5.formInts
      have B5 := Hid.mk (belowT B4.out hb5)
      have S5 := Hid.mk (Rd.below S4.out hb5)
      have X5 := Hid.mk (Rd.below X4.out hb5)
      have Y5 := Hid.mk (Rd.below Y4.out hb5)
      have Z5 : Hid (Ints w5 (.slice a5 ys.length c5) ys) := ho5.rd
      clear hb5 ho5
      go_wp2_with fail
      generalize hw6 : w5.alloc (.cells #[.slice a5 ys.length c5, .int .i64 er] 29) = w6
      have hb6 : Below w5.heap.size w5 w6 := by
        rw [← hw6]
        exact (Below.refl _ _).alloc (Nat.le_refl _) _
      have hc6 : w6.cell? ⟨w5.heap.size, 0, none⟩ = some (.slice a5 ys.length c5) := by
        rw [← hw6]; simp [go_sem]
      have hd6 : w6.cell? ⟨w5.heap.size, 1, none⟩ = some (.int .i64 er) := by
        rw [← hw6]; simp [go_sem]
      have B6 := Hid.mk (belowT B5.out hb6)
      have S6 : Hid (Bytes w6 v2 (intsB (diffL xs 0))) := Rd.below S5.out hb6
      have X6 : Hid (Ints w6 v3 xs) := Rd.below X5.out hb6
      have Y6 : Hid (Ints w6 v4 ys) := Rd.below Y5.out hb6
      have Z6 : Hid (Ints w6 (.slice a5 ys.length c5) ys) := Rd.below Z5.out hb6
      have U6 : Hid (Ints w6 u xs) := Rd.below HU.out B6.out
      have V6 : Hid (Bytes w6 (.slice a bs.length cap) bs) := Rd.below HV.out B6.out
      have C6 := Hid.mk hc6
      have D6 := Hid.mk hd6
      clear hw6 hb6 hc6 hd6 B5 S5 X5 Y5 Z5
      have hX : Hid (∀ w', Hid (Below w6.heap.size w6 w') → Calls Try.prog 16 #[v3, u] w' fun e w'' => e = .returned (.bool true) ∧ Hid (Below w6.heap.size w6 w'')) := fun w' hb => by
        refine (refSame _ _ xs xs _ (Rd.below X6.out hb.out) (Rd.below U6.out hb.out) lu lu).mono ?_
        rw [beq_self_eq_true]; rintro e w8 ⟨rfl, hs8⟩
        exact ⟨rfl, belowT hb.out (stillB hs8)⟩
      have hY : Hid (∀ w', Hid (Below w6.heap.size w6 w') → Calls Try.prog 16 #[v4, .slice a5 ys.length c5] w' fun e w'' => e = .returned (.bool true) ∧ Hid (Below w6.heap.size w6 w'')) := fun w' hb => by
        refine (refSame _ _ ys ys _ (Rd.below Y6.out hb.out) (Rd.below Z6.out hb.out) LY LY).mono ?_
        rw [beq_self_eq_true]; rintro e w8 ⟨rfl, hs8⟩
        exact ⟨rfl, belowT hb.out (stillB hs8)⟩
      have hE : Hid (∀ w', Hid (Below w6.heap.size w6 w') → Calls Try.prog 39 #[u] w' fun e w'' => ∃ v7, e = .returned v7 ∧ (convert 42 9 v7).run Try.prog w'' = .ok (.string (strOf (intsB (diffL xs 0)))) w'' ∧ Hid (Below w6.heap.size w6 w'')) := fun w' hb => by
        refine (refEncode _ xs _ (Rd.below U6.out hb.out) hg).mono ?_
        rintro e w7 ⟨v7, rfl, ho7, hb7⟩
        exact ⟨v7, rfl, conv_bytes ho7.rd, belowT hb.out hb7⟩
      have hK0 : Hid (∀ w', Hid (Below w6.heap.size w6 w') → (convert 42 9 v2).run Try.prog w' = .ok (.string (strOf (intsB (diffL xs 0)))) w' ∧ w'.cell? ⟨w5.heap.size, 0, none⟩ = some (.slice a5 ys.length c5) ∧ w'.cell? ⟨w5.heap.size, 1, none⟩ = some (.int .i64 er) ∧ Hid (Below w6.heap.size w6 w')) :=
        fun w' hb => ⟨conv_bytes (Rd.below S6.out hb.out), below_cell hb.out C6.out, below_cell hb.out D6.out, hb⟩
      refine wp_region_noPanic ?_
      refine wp_region_held_drew (S := fun w' => (convert 42 9 v2).run Try.prog w' = .ok (.string (strOf (intsB (diffL xs 0)))) w' ∧ w'.cell? ⟨w5.heap.size, 0, none⟩ = some (.slice a5 ys.length c5) ∧ w'.cell? ⟨w5.heap.size, 1, none⟩ = some (.int .i64 er) ∧ Hid (Below w6.heap.size w6 w')) (by kernel_rfl) ?_ (fun hHeld => ?_)
      · exact hK0.out _ (Hid.mk (Below.refl _ _).drew)
      refine wpAnyH_take (i := 0) (oi := { dst := some 36, op := Op.move (Operand.tmp 6), type := 42, pos := "law.go:72", after := #[], guard := none }) (v := ?_) rfl (by kernel_rfl) (by kernel_rfl) (by kernel_rfl) (fun _ _ _ h => h) (Or.inl ⟨by rfl, ?_⟩) hHeld ?_
      rotate_left
      · intro w hSw
        try dsimp only at hSw
        go_simp
        all_goals with_reducible rfl
      try simp only [Act.put, List.setIfInBounds_toArray, List.set_cons_zero, List.set_cons_succ]
      refine wpAnyH_take (i := 1) (oi := { dst := some 37, op := Op.convert 42 9 (Operand.tmp 36), type := 9, pos := "law.go:72", after := #[{ on := 0, ground := Ground.data }], guard := none }) (v := ?_) rfl (by kernel_rfl) (by kernel_rfl) (by kernel_rfl) (fun _ _ _ h => h) (Or.inl ⟨by rfl, ?_⟩) hHeld ?_
      rotate_left
      · intro w hSw
        try dsimp only at hSw
        go_simp
        all_goals with_reducible rfl
      try simp only [Act.put, List.setIfInBounds_toArray, List.set_cons_zero, List.set_cons_succ]
      refine wpAnyH_take (i := 2) (oi := { dst := some 38, op := Op.move (Operand.tmp 0), type := 23, pos := "law.go:72", after := #[], guard := none }) (v := ?_) rfl (by kernel_rfl) (by kernel_rfl) (by kernel_rfl) (fun _ _ _ h => h) (Or.inl ⟨by rfl, ?_⟩) hHeld ?_
      rotate_left
      · intro w hSw
        try dsimp only at hSw
        go_simp
        all_goals with_reducible rfl
      try simp only [Act.put, List.setIfInBounds_toArray, List.set_cons_zero, List.set_cons_succ]
      refine wpAnyH_ready (rs := [3]) (by kernel_rfl) (by simp) ?_
      refine AllReadyH.cons (o := { dst := some 39, op := Op.call { callee := Callee.value (Operand.func 39), args := #[Operand.tmp 38], argTypes := #[23] }, type := 42, pos := "law.go:72", after := #[{ on := 2, ground := Ground.data }], guard := none }) rfl (fun K hK => ?_) AllReadyH.nil
      go_simp
      go_at_call 39
      with_reducible refine (hE.out _ hHeld.2.2.2).mono ?_
      rintro e w7 ⟨v7, rfl, c7, B7⟩
      try go_wp2_with fail
      clear hHeld
      refine hK.out _ _ ?_ (fun hHeld => ?_)
      · exact hK0.out _ B7
      clear hK K
      try simp only [Act.put, List.setIfInBounds_toArray, List.set_cons_zero, List.set_cons_succ]
      refine wpAnyH_ready (rs := [4]) (by kernel_rfl) (by simp) ?_
      refine AllReadyH.cons (o := { dst := some 40, op := Op.convert 42 9 (Operand.tmp 39), type := 9, pos := "law.go:72", after := #[{ on := 3, ground := Ground.data }], guard := none }) rfl (fun K hK => ?_) AllReadyH.nil
      go_simp
      clear hHeld
      refine hK.out _ _ ?_ (fun hHeld => ?_)
      · exact hK0.out _ B7
      clear hK K
      try simp only [Act.put, List.setIfInBounds_toArray, List.set_cons_zero, List.set_cons_succ]
      refine wpAnyH_take (i := 5) (oi := { dst := some 41, op := Op.binOp BinOp.neq 9 (Operand.tmp 37) (Operand.tmp 40) 9, type := 4, pos := "law.go:72", after := #[{ on := 1, ground := Ground.data }, { on := 4, ground := Ground.data }], guard := none }) (v := ?_) rfl (by kernel_rfl) (by kernel_rfl) (by kernel_rfl) (fun _ _ _ h => h) (Or.inl ⟨by rfl, ?_⟩) hHeld ?_
      rotate_left
      · intro w hSw
        try dsimp only at hSw
        go_simp
        all_goals with_reducible rfl
      try simp only [Act.put, List.setIfInBounds_toArray, List.set_cons_zero, List.set_cons_succ]
      refine wpAnyH_take (i := 6) (oi := { dst := some 42, op := Op.move (Operand.tmp 41), type := 4, pos := "law.go:72", after := #[{ on := 5, ground := Ground.data }, { on := 3, ground := Ground.chain }], guard := none }) (v := ?_) rfl (by kernel_rfl) (by kernel_rfl) (by kernel_rfl) (fun _ _ _ h => h) (Or.inl ⟨by rfl, ?_⟩) hHeld ?_
      rotate_left
      · intro w hSw
        try dsimp only at hSw
        go_simp
        all_goals with_reducible rfl
      try simp only [Act.put, List.setIfInBounds_toArray, List.set_cons_zero, List.set_cons_succ]
      refine wpAnyH_take (i := 7) (oi := { dst := some 43, op := Op.move (Operand.tmp 8), type := 25, pos := "law.go:72", after := #[{ on := 6, ground := Ground.guard }], guard := some (6, false) }) (v := ?_) rfl (by kernel_rfl) (by kernel_rfl) (by kernel_rfl) (fun _ _ _ h => h) (Or.inl ⟨by rfl, ?_⟩) hHeld ?_
      rotate_left
      · intro w hSw
        try dsimp only at hSw
        go_simp
        all_goals with_reducible rfl
      try simp only [Act.put, List.setIfInBounds_toArray, List.set_cons_zero, List.set_cons_succ]
      refine wpAnyH_take (i := 8) (oi := { dst := some 44, op := Op.binOp BinOp.neq 25 (Operand.tmp 43) (Operand.const (Value.int IntKind.i64 0)) 25, type := 4, pos := "law.go:72", after := #[{ on := 7, ground := Ground.data }, { on := 6, ground := Ground.guard }], guard := some (6, false) }) (v := ?_) rfl (by kernel_rfl) (by kernel_rfl) (by kernel_rfl) (fun _ _ _ h => h) (Or.inl ⟨by rfl, ?_⟩) hHeld ?_
      rotate_left
      · intro w hSw
        try dsimp only at hSw
        go_simp
        all_goals with_reducible rfl
      try simp only [Act.put, List.setIfInBounds_toArray, List.set_cons_zero, List.set_cons_succ]
      refine wpAnyH_take (i := 9) (oi := { dst := some 45, op := Op.pick (Operand.tmp 42) (Operand.const (Value.bool true)) (Operand.tmp 44), type := 4, pos := "law.go:72", after := #[{ on := 6, ground := Ground.data }, { on := 8, ground := Ground.data }], guard := none }) (v := ?_) rfl (by kernel_rfl) (by kernel_rfl) (by kernel_rfl) (fun _ _ _ h => h) (Or.inl ⟨by rfl, ?_⟩) hHeld ?_
      rotate_left
      · intro w hSw
        try dsimp only at hSw
        go_simp
        all_goals with_reducible rfl
      try simp only [Act.put, List.setIfInBounds_toArray, List.set_cons_zero, List.set_cons_succ]
      refine wpAnyH_take (i := 10) (oi := { dst := some 46, op := Op.move (Operand.tmp 45), type := 4, pos := "law.go:72", after := #[{ on := 9, ground := Ground.data }, { on := 6, ground := Ground.chain }], guard := none }) (v := ?_) rfl (by kernel_rfl) (by kernel_rfl) (by kernel_rfl) (fun _ _ _ h => h) (Or.inl ⟨by rfl, ?_⟩) hHeld ?_
      rotate_left
      · intro w hSw
        try dsimp only at hSw
        go_simp
        all_goals with_reducible rfl
      try simp only [Act.put, List.setIfInBounds_toArray, List.set_cons_zero, List.set_cons_succ]
      refine wpAnyH_take (i := 11) (oi := { dst := some 47, op := Op.move (Operand.tmp 7), type := 23, pos := "law.go:72", after := #[{ on := 10, ground := Ground.guard }], guard := some (10, false) }) (v := ?_) rfl (by kernel_rfl) (by kernel_rfl) (by kernel_rfl) (fun _ _ _ h => h) (Or.inl ⟨by rfl, ?_⟩) hHeld ?_
      rotate_left
      · intro w hSw
        try dsimp only at hSw
        go_simp
        all_goals with_reducible rfl
      try simp only [Act.put, List.setIfInBounds_toArray, List.set_cons_zero, List.set_cons_succ]
      refine wpAnyH_take (i := 12) (oi := { dst := some 48, op := Op.move (Operand.tmp 0), type := 23, pos := "law.go:72", after := #[{ on := 10, ground := Ground.guard }], guard := some (10, false) }) (v := ?_) rfl (by kernel_rfl) (by kernel_rfl) (by kernel_rfl) (fun _ _ _ h => h) (Or.inl ⟨by rfl, ?_⟩) hHeld ?_
      rotate_left
      · intro w hSw
        try dsimp only at hSw
        go_simp
        all_goals with_reducible rfl
      try simp only [Act.put, List.setIfInBounds_toArray, List.set_cons_zero, List.set_cons_succ]
      refine wpAnyH_ready (rs := [13]) (by kernel_rfl) (by simp) ?_
      refine AllReadyH.cons (o := { dst := some 49, op := Op.call { callee := Callee.value (Operand.func 16), args := #[Operand.tmp 47, Operand.tmp 48], argTypes := #[23, 23] }, type := 4, pos := "law.go:72", after := #[{ on := 11, ground := Ground.data }, { on := 12, ground := Ground.data }, { on := 10, ground := Ground.chain }, { on := 10, ground := Ground.guard }], guard := some (10, false) }) rfl (fun K hK => ?_) AllReadyH.nil
      go_simp
      go_at_call 16
      with_reducible refine (hX.out _ hHeld.2.2.2).mono ?_
      rintro e w8 ⟨rfl, B8⟩
      try go_wp2_with fail
      clear hHeld
      refine hK.out _ _ ?_ (fun hHeld => ?_)
      · exact hK0.out _ B8
      clear hK K
      try simp only [Act.put, List.setIfInBounds_toArray, List.set_cons_zero, List.set_cons_succ]
      refine wpAnyH_take (i := 14) (oi := { dst := some 50, op := Op.unOp UnOp.not 4 (Operand.tmp 49), type := 4, pos := "law.go:72", after := #[{ on := 13, ground := Ground.data }, { on := 10, ground := Ground.guard }], guard := some (10, false) }) (v := ?_) rfl (by kernel_rfl) (by kernel_rfl) (by kernel_rfl) (fun _ _ _ h => h) (Or.inl ⟨by rfl, ?_⟩) hHeld ?_
      rotate_left
      · intro w hSw
        try dsimp only at hSw
        go_simp
        all_goals with_reducible rfl
      try simp only [Act.put, List.setIfInBounds_toArray, List.set_cons_zero, List.set_cons_succ]
      refine wpAnyH_take (i := 15) (oi := { dst := some 51, op := Op.pick (Operand.tmp 46) (Operand.const (Value.bool true)) (Operand.tmp 50), type := 4, pos := "law.go:72", after := #[{ on := 10, ground := Ground.data }, { on := 14, ground := Ground.data }], guard := none }) (v := ?_) rfl (by kernel_rfl) (by kernel_rfl) (by kernel_rfl) (fun _ _ _ h => h) (Or.inl ⟨by rfl, ?_⟩) hHeld ?_
      rotate_left
      · intro w hSw
        try dsimp only at hSw
        go_simp
        all_goals with_reducible rfl
      try simp only [Act.put, List.setIfInBounds_toArray, List.set_cons_zero, List.set_cons_succ]
      refine wpAnyH_take (i := 16) (oi := { dst := some 52, op := Op.move (Operand.tmp 51), type := 4, pos := "law.go:72", after := #[{ on := 15, ground := Ground.data }, { on := 13, ground := Ground.chain }], guard := none }) (v := ?_) rfl (by kernel_rfl) (by kernel_rfl) (by kernel_rfl) (fun _ _ _ h => h) (Or.inl ⟨by rfl, ?_⟩) hHeld ?_
      rotate_left
      · intro w hSw
        try dsimp only at hSw
        go_simp
        all_goals with_reducible rfl
      try simp only [Act.put, List.setIfInBounds_toArray, List.set_cons_zero, List.set_cons_succ]
      refine wpAnyH_take (i := 17) (oi := { dst := some 53, op := Op.move (Operand.tmp 10), type := 25, pos := "law.go:72", after := #[{ on := 16, ground := Ground.guard }], guard := some (16, false) }) (v := ?_) rfl (by kernel_rfl) (by kernel_rfl) (by kernel_rfl) (fun _ _ _ h => h) (Or.inl ⟨by rfl, ?_⟩) hHeld ?_
      rotate_left
      · intro w hSw
        try dsimp only at hSw
        go_simp
        all_goals with_reducible rfl
      try simp only [Act.put, List.setIfInBounds_toArray, List.set_cons_zero, List.set_cons_succ]
      refine wpAnyH_take (i := 18) (oi := { dst := some 54, op := Op.fieldAddr 29 (Operand.tmp 11) 1, type := 0, pos := "law.go:72", after := #[{ on := 16, ground := Ground.guard }], guard := some (16, false) }) (v := ?_) rfl (by kernel_rfl) (by kernel_rfl) (by kernel_rfl) (fun _ _ _ h => h) (Or.inl ⟨by rfl, ?_⟩) hHeld ?_
      rotate_left
      · intro w hSw
        try dsimp only at hSw
        go_simp
        all_goals with_reducible rfl
      try simp only [Act.put, List.setIfInBounds_toArray, List.set_cons_zero, List.set_cons_succ]
      refine wpAnyH_take (i := 19) (oi := { dst := some 55, op := Op.load 25 (Operand.tmp 54), type := 25, pos := "law.go:72", after := #[{ on := 18, ground := Ground.data }, { on := 16, ground := Ground.guard }], guard := some (16, false) }) (v := ?_) rfl (by kernel_rfl) (by kernel_rfl) (by kernel_rfl) (fun _ _ _ h => h) (Or.inl ⟨by rfl, ?_⟩) hHeld ?_
      rotate_left
      · intro w hSw
        try dsimp only at hSw
        go_simp
        all_goals with_reducible rfl
      try simp only [Act.put, List.setIfInBounds_toArray, List.set_cons_zero, List.set_cons_succ]
      refine wpAnyH_take (i := 20) (oi := { dst := some 56, op := Op.binOp BinOp.neq 25 (Operand.tmp 53) (Operand.tmp 55) 25, type := 4, pos := "law.go:72", after := #[{ on := 17, ground := Ground.data }, { on := 19, ground := Ground.data }, { on := 16, ground := Ground.guard }], guard := some (16, false) }) (v := ?_) rfl (by kernel_rfl) (by kernel_rfl) (by kernel_rfl) (fun _ _ _ h => h) (Or.inl ⟨by rfl, ?_⟩) hHeld ?_
      rotate_left
      · intro w hSw
        try dsimp only at hSw
        go_simp
        all_goals with_reducible rfl
      try simp only [Act.put, List.setIfInBounds_toArray, List.set_cons_zero, List.set_cons_succ]
      refine wpAnyH_take (i := 21) (oi := { dst := some 57, op := Op.pick (Operand.tmp 52) (Operand.const (Value.bool true)) (Operand.tmp 56), type := 4, pos := "law.go:72", after := #[{ on := 16, ground := Ground.data }, { on := 20, ground := Ground.data }], guard := none }) (v := ?_) rfl (by kernel_rfl) (by kernel_rfl) (by kernel_rfl) (fun _ _ _ h => h) (Or.inl ⟨by rfl, ?_⟩) hHeld ?_
      rotate_left
      · intro w hSw
        try dsimp only at hSw
        go_simp
        all_goals with_reducible rfl
      try simp only [Act.put, List.setIfInBounds_toArray, List.set_cons_zero, List.set_cons_succ]
      refine wpAnyH_take (i := 22) (oi := { dst := some 58, op := Op.move (Operand.tmp 57), type := 4, pos := "law.go:72", after := #[{ on := 21, ground := Ground.data }, { on := 16, ground := Ground.chain }], guard := none }) (v := ?_) rfl (by kernel_rfl) (by kernel_rfl) (by kernel_rfl) (fun _ _ _ h => h) (Or.inl ⟨by rfl, ?_⟩) hHeld ?_
      rotate_left
      · intro w hSw
        try dsimp only at hSw
        go_simp
        all_goals with_reducible rfl
      try simp only [Act.put, List.setIfInBounds_toArray, List.set_cons_zero, List.set_cons_succ]
      refine wpAnyH_take (i := 23) (oi := { dst := some 59, op := Op.move (Operand.tmp 9), type := 23, pos := "law.go:72", after := #[{ on := 22, ground := Ground.guard }], guard := some (22, false) }) (v := ?_) rfl (by kernel_rfl) (by kernel_rfl) (by kernel_rfl) (fun _ _ _ h => h) (Or.inl ⟨by rfl, ?_⟩) hHeld ?_
      rotate_left
      · intro w hSw
        try dsimp only at hSw
        go_simp
        all_goals with_reducible rfl
      try simp only [Act.put, List.setIfInBounds_toArray, List.set_cons_zero, List.set_cons_succ]
      refine wpAnyH_take (i := 24) (oi := { dst := some 60, op := Op.fieldAddr 29 (Operand.tmp 11) 0, type := 0, pos := "law.go:72", after := #[{ on := 22, ground := Ground.guard }], guard := some (22, false) }) (v := ?_) rfl (by kernel_rfl) (by kernel_rfl) (by kernel_rfl) (fun _ _ _ h => h) (Or.inl ⟨by rfl, ?_⟩) hHeld ?_
      rotate_left
      · intro w hSw
        try dsimp only at hSw
        go_simp
        all_goals with_reducible rfl
      try simp only [Act.put, List.setIfInBounds_toArray, List.set_cons_zero, List.set_cons_succ]
      refine wpAnyH_take (i := 25) (oi := { dst := some 61, op := Op.load 23 (Operand.tmp 60), type := 23, pos := "law.go:72", after := #[{ on := 24, ground := Ground.data }, { on := 22, ground := Ground.guard }], guard := some (22, false) }) (v := ?_) rfl (by kernel_rfl) (by kernel_rfl) (by kernel_rfl) (fun _ _ _ h => h) (Or.inl ⟨by rfl, ?_⟩) hHeld ?_
      rotate_left
      · intro w hSw
        try dsimp only at hSw
        go_simp
        all_goals with_reducible rfl
      try simp only [Act.put, List.setIfInBounds_toArray, List.set_cons_zero, List.set_cons_succ]
      refine wpAnyH_ready (rs := [26]) (by kernel_rfl) (by simp) ?_
      refine AllReadyH.cons (o := { dst := some 62, op := Op.call { callee := Callee.value (Operand.func 16), args := #[Operand.tmp 59, Operand.tmp 61], argTypes := #[23, 23] }, type := 4, pos := "law.go:72", after := #[{ on := 23, ground := Ground.data }, { on := 25, ground := Ground.data }, { on := 22, ground := Ground.chain }, { on := 22, ground := Ground.guard }], guard := some (22, false) }) rfl (fun K hK => ?_) AllReadyH.nil
      go_simp
      go_at_call 16
      with_reducible refine (hY.out _ hHeld.2.2.2).mono ?_
      rintro e w9 ⟨rfl, B9⟩
      try go_wp2_with fail
      clear hHeld
      refine hK.out _ _ ?_ (fun hHeld => ?_)
      · exact hK0.out _ B9
      clear hK K
      try simp only [Act.put, List.setIfInBounds_toArray, List.set_cons_zero, List.set_cons_succ]
      refine wpAnyH_take (i := 27) (oi := { dst := some 63, op := Op.unOp UnOp.not 4 (Operand.tmp 62), type := 4, pos := "law.go:72", after := #[{ on := 26, ground := Ground.data }, { on := 22, ground := Ground.guard }], guard := some (22, false) }) (v := ?_) rfl (by kernel_rfl) (by kernel_rfl) (by kernel_rfl) (fun _ _ _ h => h) (Or.inl ⟨by rfl, ?_⟩) hHeld ?_
      rotate_left
      · intro w hSw
        try dsimp only at hSw
        go_simp
        all_goals with_reducible rfl
      try simp only [Act.put, List.setIfInBounds_toArray, List.set_cons_zero, List.set_cons_succ]
      refine wpAnyH_take (i := 28) (oi := { dst := some 64, op := Op.pick (Operand.tmp 58) (Operand.const (Value.bool true)) (Operand.tmp 63), type := 4, pos := "law.go:72", after := #[{ on := 22, ground := Ground.data }, { on := 27, ground := Ground.data }], guard := none }) (v := ?_) rfl (by kernel_rfl) (by kernel_rfl) (by kernel_rfl) (fun _ _ _ h => h) (Or.inl ⟨by rfl, ?_⟩) hHeld ?_
      rotate_left
      · intro w hSw
        try dsimp only at hSw
        go_simp
        all_goals with_reducible rfl
      try simp only [Act.put, List.setIfInBounds_toArray, List.set_cons_zero, List.set_cons_succ]
      refine wpAnyH_done (by kernel_rfl) ?_ _
      refine NoPanic.normal ?_
      clear hHeld
      have hS : Hid (∀ w', Hid (Below w6.heap.size w6 w') → Calls Try.prog 10 #[] w' fun e w'' => e = .returned (.bool true) ∧ Hid (Below w6.heap.size w6 w'')) := fun w' hb => by
        refine (sanity _).mono ?_
        rintro e w8 ⟨rfl, hs8⟩
        exact ⟨rfl, belowT hb.out hs8⟩
      have hL : Hid (∀ w', Hid (Below w6.heap.size w6 w') → (convert 42 9 (.slice a bs.length cap)).run Try.prog w' = .ok (.string (strOf bs)) w' ∧ Hid (Below w6.heap.size w6 w')) :=
        fun w' hb => ⟨conv_bytes (Rd.below V6.out hb.out), hb⟩
      have hD : Hid (∀ w', Hid (Below w6.heap.size w6 w') → Hid (Below w6.heap.size w6 w'.drew)) := fun w' hb => Hid.mk hb.out.drew
      by_cases ge : er = 0
      · obtain ⟨e1, e2⟩ := EY.out ge
        have hF : Hid (∀ w', Hid (Below w6.heap.size w6 w') → Calls Try.prog 36 #[v4] w' fun e w'' => ∃ v7, e = .returned v7 ∧ (convert 42 9 v7).run Try.prog w'' = .ok (.string (strOf bs)) w'' ∧ Hid (Below w6.heap.size w6 w'')) := fun w' hb => by
          refine (bitsEncode _ ys _ (Rd.below Y6.out hb.out) e2).mono ?_
          rw [e1]
          rintro e w7 ⟨v7, rfl, ho7, hb7⟩
          exact ⟨v7, rfl, conv_bytes ho7.rd, belowT hb.out hb7⟩
        clear e1 e2 EY
        subst ge
        go_wp2_with fail
        refine wp_region_noPanic ?_
        refine wp_region_held_drew (S := fun w' => (convert 42 9 (.slice a bs.length cap)).run Try.prog w' = .ok (.string (strOf bs)) w' ∧ Hid (Below w6.heap.size w6 w')) (by kernel_rfl) ?_ (fun hHeld => ?_)
        · exact hL.out _ (hD.out _ B9)
        refine wpAnyH_ready (rs := [0]) (by kernel_rfl) (by simp) ?_
        refine AllReadyH.cons (o := { dst := some 65, op := Op.call { callee := Callee.value (Operand.func 10), args := #[], argTypes := #[] }, type := 4, pos := "law.go:75", after := #[], guard := none }) rfl (fun K hK => ?_) AllReadyH.nil
        go_simp
        go_at_call 10
        with_reducible refine (hS.out _ hHeld.2).mono ?_
        rintro e w10 ⟨rfl, B10⟩
        try go_wp2_with fail
        clear hHeld
        refine hK.out _ _ ?_ (fun hHeld => ?_)
        · exact hL.out _ B10
        clear hK K
        try simp only [Act.put, List.setIfInBounds_toArray, List.set_cons_zero, List.set_cons_succ]
        refine wpAnyH_take (i := 1) (oi := { dst := some 66, op := Op.move (Operand.tmp 65), type := 4, pos := "law.go:75", after := #[{ on := 0, ground := Ground.data }, { on := 0, ground := Ground.chain }], guard := none }) (v := ?_) rfl (by kernel_rfl) (by kernel_rfl) (by kernel_rfl) (fun _ _ _ h => h) (Or.inl ⟨by rfl, ?_⟩) hHeld ?_
        rotate_left
        · intro w hSw
          try dsimp only at hSw
          go_simp
          all_goals with_reducible rfl
        try simp only [Act.put, List.setIfInBounds_toArray, List.set_cons_zero, List.set_cons_succ]
        refine wpAnyH_take (i := 2) (oi := { dst := some 67, op := Op.move (Operand.tmp 10), type := 25, pos := "law.go:75", after := #[{ on := 1, ground := Ground.guard }], guard := some (1, true) }) (v := ?_) rfl (by kernel_rfl) (by kernel_rfl) (by kernel_rfl) (fun _ _ _ h => h) (Or.inl ⟨by rfl, ?_⟩) hHeld ?_
        rotate_left
        · intro w hSw
          try dsimp only at hSw
          go_simp
          all_goals with_reducible rfl
        try simp only [Act.put, List.setIfInBounds_toArray, List.set_cons_zero, List.set_cons_succ]
        refine wpAnyH_take (i := 3) (oi := { dst := some 68, op := Op.binOp BinOp.neq 25 (Operand.tmp 67) (Operand.const (Value.int IntKind.i64 0)) 25, type := 4, pos := "law.go:75", after := #[{ on := 2, ground := Ground.data }, { on := 1, ground := Ground.guard }], guard := some (1, true) }) (v := ?_) rfl (by kernel_rfl) (by kernel_rfl) (by kernel_rfl) (fun _ _ _ h => h) (Or.inl ⟨by rfl, ?_⟩) hHeld ?_
        rotate_left
        · intro w hSw
          try dsimp only at hSw
          go_simp
          all_goals with_reducible rfl
        try simp only [Act.put, List.setIfInBounds_toArray, List.set_cons_zero, List.set_cons_succ]
        refine wpAnyH_take (i := 4) (oi := { dst := some 69, op := Op.move (Operand.tmp 68), type := 4, pos := "law.go:75", after := #[{ on := 3, ground := Ground.data }, { on := 1, ground := Ground.chain }, { on := 1, ground := Ground.guard }], guard := some (1, true) }) (v := ?_) rfl (by kernel_rfl) (by kernel_rfl) (by kernel_rfl) (fun _ _ _ h => h) (Or.inl ⟨by rfl, ?_⟩) hHeld ?_
        rotate_left
        · intro w hSw
          try dsimp only at hSw
          go_simp
          all_goals with_reducible rfl
        try simp only [Act.put, List.setIfInBounds_toArray, List.set_cons_zero, List.set_cons_succ]
        refine wpAnyH_take (i := 5) (oi := { dst := some 70, op := Op.move (Operand.tmp 9), type := 23, pos := "law.go:75", after := #[{ on := 4, ground := Ground.guard }], guard := some (4, false) }) (v := ?_) rfl (by kernel_rfl) (by kernel_rfl) (by kernel_rfl) (fun _ _ _ h => h) (Or.inl ⟨by rfl, ?_⟩) hHeld ?_
        rotate_left
        · intro w hSw
          try dsimp only at hSw
          go_simp
          all_goals with_reducible rfl
        try simp only [Act.put, List.setIfInBounds_toArray, List.set_cons_zero, List.set_cons_succ]
        refine wpAnyH_take (i := 8) (oi := { dst := some 73, op := Op.move (Operand.tmp 1), type := 42, pos := "law.go:75", after := #[{ on := 4, ground := Ground.guard }], guard := some (4, false) }) (v := ?_) rfl (by kernel_rfl) (by kernel_rfl) (by kernel_rfl) (fun _ _ _ h => h) (Or.inl ⟨by rfl, ?_⟩) hHeld ?_
        rotate_left
        · intro w hSw
          try dsimp only at hSw
          go_simp
          all_goals with_reducible rfl
        try simp only [Act.put, List.setIfInBounds_toArray, List.set_cons_zero, List.set_cons_succ]
        refine wpAnyH_take (i := 9) (oi := { dst := some 74, op := Op.convert 42 9 (Operand.tmp 73), type := 9, pos := "law.go:75", after := #[{ on := 8, ground := Ground.data }, { on := 4, ground := Ground.guard }], guard := some (4, false) }) (v := ?_) rfl (by kernel_rfl) (by kernel_rfl) (by kernel_rfl) (fun _ _ _ h => h) (Or.inl ⟨by rfl, ?_⟩) hHeld ?_
        rotate_left
        · intro w hSw
          try dsimp only at hSw
          go_simp
          all_goals with_reducible rfl
        try simp only [Act.put, List.setIfInBounds_toArray, List.set_cons_zero, List.set_cons_succ]
        refine wpAnyH_ready (rs := [6]) (by kernel_rfl) (by simp) ?_
        refine AllReadyH.cons (o := { dst := some 71, op := Op.call { callee := Callee.value (Operand.func 36), args := #[Operand.tmp 70], argTypes := #[23] }, type := 42, pos := "law.go:75", after := #[{ on := 5, ground := Ground.data }, { on := 4, ground := Ground.chain }, { on := 4, ground := Ground.guard }], guard := some (4, false) }) rfl (fun K hK => ?_) AllReadyH.nil
        go_simp
        go_at_call 36
        with_reducible refine (hF.out _ hHeld.2).mono ?_
        rintro e w11 ⟨v11, rfl, c11, B11⟩
        try go_wp2_with fail
        clear hHeld
        refine hK.out _ _ ?_ (fun hHeld => ?_)
        · exact hL.out _ B11
        clear hK K
        try simp only [Act.put, List.setIfInBounds_toArray, List.set_cons_zero, List.set_cons_succ]
        refine wpAnyH_ready (rs := [7]) (by kernel_rfl) (by simp) ?_
        refine AllReadyH.cons (o := { dst := some 72, op := Op.convert 42 9 (Operand.tmp 71), type := 9, pos := "law.go:75", after := #[{ on := 6, ground := Ground.data }, { on := 4, ground := Ground.guard }], guard := some (4, false) }) rfl (fun K hK => ?_) AllReadyH.nil
        go_simp
        clear hHeld
        refine hK.out _ _ ?_ (fun hHeld => ?_)
        · exact hL.out _ B11
        clear hK K
        try simp only [Act.put, List.setIfInBounds_toArray, List.set_cons_zero, List.set_cons_succ]
        refine wpAnyH_take (i := 10) (oi := { dst := some 75, op := Op.binOp BinOp.eql 9 (Operand.tmp 72) (Operand.tmp 74) 9, type := 4, pos := "law.go:75", after := #[{ on := 7, ground := Ground.data }, { on := 9, ground := Ground.data }, { on := 4, ground := Ground.guard }], guard := some (4, false) }) (v := ?_) rfl (by kernel_rfl) (by kernel_rfl) (by kernel_rfl) (fun _ _ _ h => h) (Or.inl ⟨by rfl, ?_⟩) hHeld ?_
        rotate_left
        · intro w hSw
          try dsimp only at hSw
          go_simp
          all_goals with_reducible rfl
        try simp only [Act.put, List.setIfInBounds_toArray, List.set_cons_zero, List.set_cons_succ]
        refine wpAnyH_take (i := 11) (oi := { dst := some 76, op := Op.pick (Operand.tmp 69) (Operand.const (Value.bool true)) (Operand.tmp 75), type := 4, pos := "law.go:75", after := #[{ on := 4, ground := Ground.data }, { on := 10, ground := Ground.data }, { on := 1, ground := Ground.guard }], guard := some (1, true) }) (v := ?_) rfl (by kernel_rfl) (by kernel_rfl) (by kernel_rfl) (fun _ _ _ h => h) (Or.inl ⟨by rfl, ?_⟩) hHeld ?_
        rotate_left
        · intro w hSw
          try dsimp only at hSw
          go_simp
          all_goals with_reducible rfl
        try simp only [Act.put, List.setIfInBounds_toArray, List.set_cons_zero, List.set_cons_succ]
        refine wpAnyH_take (i := 12) (oi := { dst := some 77, op := Op.pick (Operand.tmp 66) (Operand.tmp 76) (Operand.const (Value.bool false)), type := 4, pos := "law.go:75", after := #[{ on := 1, ground := Ground.data }, { on := 11, ground := Ground.data }], guard := none }) (v := ?_) rfl (by kernel_rfl) (by kernel_rfl) (by kernel_rfl) (fun _ _ _ h => h) (Or.inl ⟨by rfl, ?_⟩) hHeld ?_
        rotate_left
        · intro w hSw
          try dsimp only at hSw
          go_simp
          all_goals with_reducible rfl
        try simp only [Act.put, List.setIfInBounds_toArray, List.set_cons_zero, List.set_cons_succ]
        refine wpAnyH_take (i := 13) (oi := { dst := some 4, op := Op.assign (Operand.tmp 77), type := 4, pos := "law.go:75", after := #[{ on := 12, ground := Ground.data }, { on := 6, ground := Ground.chain }, { on := 0, ground := Ground.phase }, { on := 1, ground := Ground.phase }, { on := 2, ground := Ground.phase }, { on := 3, ground := Ground.phase }, { on := 4, ground := Ground.phase }, { on := 5, ground := Ground.phase }, { on := 6, ground := Ground.phase }, { on := 7, ground := Ground.phase }, { on := 8, ground := Ground.phase }, { on := 9, ground := Ground.phase }, { on := 10, ground := Ground.phase }, { on := 11, ground := Ground.phase }, { on := 12, ground := Ground.phase }], guard := none }) (v := ?_) rfl (by kernel_rfl) (by kernel_rfl) (by kernel_rfl) (fun _ _ _ h => h) (Or.inl ⟨by rfl, ?_⟩) hHeld ?_
        rotate_left
        · intro w hSw
          try dsimp only at hSw
          go_simp
          all_goals with_reducible rfl
        try simp only [Act.put, List.setIfInBounds_toArray, List.set_cons_zero, List.set_cons_succ]
        refine wpAnyH_done (by kernel_rfl) ?_ _
        refine NoPanic.normal ?_
        clear hHeld
        go_wp2
        go_ret
        exact ⟨by simp, belowT B6.out B11.out⟩
      · obtain rfl := (dec_err D2.out ge).2
        clear EY
        go_wp2_with fail
        refine wp_region_noPanic ?_
        refine wp_region_held_drew (S := fun w' => (convert 42 9 (.slice a bs.length cap)).run Try.prog w' = .ok (.string (strOf bs)) w' ∧ Hid (Below w6.heap.size w6 w')) (by kernel_rfl) ?_ (fun hHeld => ?_)
        · exact hL.out _ (hD.out _ B9)
        refine wpAnyH_ready (rs := [0]) (by kernel_rfl) (by simp) ?_
        refine AllReadyH.cons (o := { dst := some 65, op := Op.call { callee := Callee.value (Operand.func 10), args := #[], argTypes := #[] }, type := 4, pos := "law.go:75", after := #[], guard := none }) rfl (fun K hK => ?_) AllReadyH.nil
        go_simp
        go_at_call 10
        with_reducible refine (hS.out _ hHeld.2).mono ?_
        rintro e w10 ⟨rfl, B10⟩
        try go_wp2_with fail
        clear hHeld
        refine hK.out _ _ ?_ (fun hHeld => ?_)
        · exact hL.out _ B10
        clear hK K
        try simp only [Act.put, List.setIfInBounds_toArray, List.set_cons_zero, List.set_cons_succ]
        refine wpAnyH_take (i := 1) (oi := { dst := some 66, op := Op.move (Operand.tmp 65), type := 4, pos := "law.go:75", after := #[{ on := 0, ground := Ground.data }, { on := 0, ground := Ground.chain }], guard := none }) (v := ?_) rfl (by kernel_rfl) (by kernel_rfl) (by kernel_rfl) (fun _ _ _ h => h) (Or.inl ⟨by rfl, ?_⟩) hHeld ?_
        rotate_left
        · intro w hSw
          try dsimp only at hSw
          go_simp
          all_goals with_reducible rfl
        try simp only [Act.put, List.setIfInBounds_toArray, List.set_cons_zero, List.set_cons_succ]
        refine wpAnyH_take (i := 2) (oi := { dst := some 67, op := Op.move (Operand.tmp 10), type := 25, pos := "law.go:75", after := #[{ on := 1, ground := Ground.guard }], guard := some (1, true) }) (v := ?_) rfl (by kernel_rfl) (by kernel_rfl) (by kernel_rfl) (fun _ _ _ h => h) (Or.inl ⟨by rfl, ?_⟩) hHeld ?_
        rotate_left
        · intro w hSw
          try dsimp only at hSw
          go_simp
          all_goals with_reducible rfl
        try simp only [Act.put, List.setIfInBounds_toArray, List.set_cons_zero, List.set_cons_succ]
        refine wpAnyH_take (i := 3) (oi := { dst := some 68, op := Op.binOp BinOp.neq 25 (Operand.tmp 67) (Operand.const (Value.int IntKind.i64 0)) 25, type := 4, pos := "law.go:75", after := #[{ on := 2, ground := Ground.data }, { on := 1, ground := Ground.guard }], guard := some (1, true) }) (v := ?_) rfl (by kernel_rfl) (by kernel_rfl) (by kernel_rfl) (fun _ _ _ h => h) (Or.inl ⟨by rfl, ?_⟩) hHeld ?_
        rotate_left
        · intro w hSw
          try dsimp only at hSw
          go_simp
          all_goals with_reducible rfl
        try simp only [Act.put, List.setIfInBounds_toArray, List.set_cons_zero, List.set_cons_succ]
        refine wpAnyH_take (i := 4) (oi := { dst := some 69, op := Op.move (Operand.tmp 68), type := 4, pos := "law.go:75", after := #[{ on := 3, ground := Ground.data }, { on := 1, ground := Ground.chain }, { on := 1, ground := Ground.guard }], guard := some (1, true) }) (v := ?_) rfl (by kernel_rfl) (by kernel_rfl) (by kernel_rfl) (fun _ _ _ h => h) (Or.inl ⟨by rfl, ?_⟩) hHeld ?_
        rotate_left
        · intro w hSw
          try dsimp only at hSw
          go_simp
          all_goals with_reducible rfl
        try simp only [Act.put, List.setIfInBounds_toArray, List.set_cons_zero, List.set_cons_succ]
        refine wpAnyH_take (i := 5) (oi := { dst := some 70, op := Op.move (Operand.tmp 9), type := 23, pos := "law.go:75", after := #[{ on := 4, ground := Ground.guard }], guard := some (4, false) }) (v := undef) rfl (by kernel_rfl) (by kernel_rfl) (by kernel_rfl) (fun _ _ _ h => h) (Or.inr ⟨by rfl, rfl⟩) hHeld ?_
        try simp only [Act.put, List.setIfInBounds_toArray, List.set_cons_zero, List.set_cons_succ]
        refine wpAnyH_take (i := 8) (oi := { dst := some 73, op := Op.move (Operand.tmp 1), type := 42, pos := "law.go:75", after := #[{ on := 4, ground := Ground.guard }], guard := some (4, false) }) (v := undef) rfl (by kernel_rfl) (by kernel_rfl) (by kernel_rfl) (fun _ _ _ h => h) (Or.inr ⟨by rfl, rfl⟩) hHeld ?_
        try simp only [Act.put, List.setIfInBounds_toArray, List.set_cons_zero, List.set_cons_succ]
        refine wpAnyH_take (i := 9) (oi := { dst := some 74, op := Op.convert 42 9 (Operand.tmp 73), type := 9, pos := "law.go:75", after := #[{ on := 8, ground := Ground.data }, { on := 4, ground := Ground.guard }], guard := some (4, false) }) (v := undef) rfl (by kernel_rfl) (by kernel_rfl) (by kernel_rfl) (fun _ _ _ h => h) (Or.inr ⟨by rfl, rfl⟩) hHeld ?_
        try simp only [Act.put, List.setIfInBounds_toArray, List.set_cons_zero, List.set_cons_succ]
        refine wpAnyH_ready (rs := [6]) (by kernel_rfl) (by simp) ?_
        refine AllReadyH.cons (o := { dst := some 71, op := Op.call { callee := Callee.value (Operand.func 36), args := #[Operand.tmp 70], argTypes := #[23] }, type := 42, pos := "law.go:75", after := #[{ on := 5, ground := Ground.data }, { on := 4, ground := Ground.chain }, { on := 4, ground := Ground.guard }], guard := some (4, false) }) rfl (fun K hK => ?_) AllReadyH.nil
        go_simp
        clear hHeld
        refine hK.out _ _ ?_ (fun hHeld => ?_)
        · exact hL.out _ B10
        clear hK K
        try simp only [Act.put, List.setIfInBounds_toArray, List.set_cons_zero, List.set_cons_succ]
        refine wpAnyH_take (i := 7) (oi := { dst := some 72, op := Op.convert 42 9 (Operand.tmp 71), type := 9, pos := "law.go:75", after := #[{ on := 6, ground := Ground.data }, { on := 4, ground := Ground.guard }], guard := some (4, false) }) (v := undef) rfl (by kernel_rfl) (by kernel_rfl) (by kernel_rfl) (fun _ _ _ h => h) (Or.inr ⟨by rfl, rfl⟩) hHeld ?_
        try simp only [Act.put, List.setIfInBounds_toArray, List.set_cons_zero, List.set_cons_succ]
        refine wpAnyH_take (i := 10) (oi := { dst := some 75, op := Op.binOp BinOp.eql 9 (Operand.tmp 72) (Operand.tmp 74) 9, type := 4, pos := "law.go:75", after := #[{ on := 7, ground := Ground.data }, { on := 9, ground := Ground.data }, { on := 4, ground := Ground.guard }], guard := some (4, false) }) (v := undef) rfl (by kernel_rfl) (by kernel_rfl) (by kernel_rfl) (fun _ _ _ h => h) (Or.inr ⟨by rfl, rfl⟩) hHeld ?_
        try simp only [Act.put, List.setIfInBounds_toArray, List.set_cons_zero, List.set_cons_succ]
        refine wpAnyH_take (i := 11) (oi := { dst := some 76, op := Op.pick (Operand.tmp 69) (Operand.const (Value.bool true)) (Operand.tmp 75), type := 4, pos := "law.go:75", after := #[{ on := 4, ground := Ground.data }, { on := 10, ground := Ground.data }, { on := 1, ground := Ground.guard }], guard := some (1, true) }) (v := ?_) rfl (by kernel_rfl) (by kernel_rfl) (by kernel_rfl) (fun _ _ _ h => h) (Or.inl ⟨by rfl, ?_⟩) hHeld ?_
        rotate_left
        · intro w hSw
          try dsimp only at hSw
          go_simp
          all_goals with_reducible rfl
        try simp only [Act.put, List.setIfInBounds_toArray, List.set_cons_zero, List.set_cons_succ]
        refine wpAnyH_take (i := 12) (oi := { dst := some 77, op := Op.pick (Operand.tmp 66) (Operand.tmp 76) (Operand.const (Value.bool false)), type := 4, pos := "law.go:75", after := #[{ on := 1, ground := Ground.data }, { on := 11, ground := Ground.data }], guard := none }) (v := ?_) rfl (by kernel_rfl) (by kernel_rfl) (by kernel_rfl) (fun _ _ _ h => h) (Or.inl ⟨by rfl, ?_⟩) hHeld ?_
        rotate_left
        · intro w hSw
          try dsimp only at hSw
          go_simp
          all_goals with_reducible rfl
        try simp only [Act.put, List.setIfInBounds_toArray, List.set_cons_zero, List.set_cons_succ]
        refine wpAnyH_take (i := 13) (oi := { dst := some 4, op := Op.assign (Operand.tmp 77), type := 4, pos := "law.go:75", after := #[{ on := 12, ground := Ground.data }, { on := 6, ground := Ground.chain }, { on := 0, ground := Ground.phase }, { on := 1, ground := Ground.phase }, { on := 2, ground := Ground.phase }, { on := 3, ground := Ground.phase }, { on := 4, ground := Ground.phase }, { on := 5, ground := Ground.phase }, { on := 6, ground := Ground.phase }, { on := 7, ground := Ground.phase }, { on := 8, ground := Ground.phase }, { on := 9, ground := Ground.phase }, { on := 10, ground := Ground.phase }, { on := 11, ground := Ground.phase }, { on := 12, ground := Ground.phase }], guard := none }) (v := ?_) rfl (by kernel_rfl) (by kernel_rfl) (by kernel_rfl) (fun _ _ _ h => h) (Or.inl ⟨by rfl, ?_⟩) hHeld ?_
        rotate_left
        · intro w hSw
          try dsimp only at hSw
          go_simp
          all_goals with_reducible rfl
        try simp only [Act.put, List.setIfInBounds_toArray, List.set_cons_zero, List.set_cons_succ]
        refine wpAnyH_done (by kernel_rfl) ?_ _
        refine NoPanic.normal ?_
        clear hHeld
        go_wp2
        go_ret
        exact ⟨by simp, belowT B6.out B10.out⟩

end Go.Proofs.Ytomjfmebbpfkeaa
