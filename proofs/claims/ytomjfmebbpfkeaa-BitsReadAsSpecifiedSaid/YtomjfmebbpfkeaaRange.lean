/- The walks of the iterators slices.Values and bits.each, and of what ranges over them. -/
import Derived.RangeFuncBox
import Derived.RangeFuncLeaves
import Derived.Shelf.Abstract
import Derived.WalkKit
import Derived.OwnWalkIn
import Derived.TacticsInMore
import Derived.LoopNIn
import Derived.LoopIn
import Derived.Maps.AppendAt
import Derived.Test.YtomjfmebbpfkeaaBitsD
namespace Go.Proofs.Ytomjfmebbpfkeaa
set_option linter.unusedSimpArgs false
set_option linter.unusedVariables false
set_option linter.unnecessarySimpa false
open Go.RowKit Go.Shelf

attribute [local go_sem] Oper.semAt_some

set_option maxRecDepth 100000 in
set_option maxHeartbeats 1000000 in
theorem values1_in (F : Fence) (n : Nat) (h6 : F.fn 57) (hro : F.round = none) (hn : 1 ≤ n) (l Bn n₀ : Nat) (a : Option Addr) (cap b off : Nat) (zs : List Int) (hl : zs.length ≤ 1000000000) (J Jx : List Int → World → Prop)
    (hY : ∀ pre x W, J pre W → pre.length < zs.length → YieldAt F (n - 1) Try.prog l #[.int .i64 x] W fun e W' =>
      (e = .returned (.bool true) ∧ J (pre ++ [x]) W' ∧ Below n₀ W W') ∨ (e = .returned (.bool false) ∧ Jx (pre ++ [x]) W'))
    (W : World) (hBn : W.cell? ⟨Bn, 0, none⟩ = some (.slice a zs.length cap)) (ha : 0 < zs.length → a = some ⟨b, off, none⟩) (hb : 0 < zs.length → b < n₀)
    (hc : Hid (∀ (j : Nat) (x : Int), zs[j]? = some x → W.cell? ⟨b, off + j, none⟩ = some (.int .i64 x))) (h0 : J [] W) :
    CallsIn F n Try.prog 57 #[.func (.yield l) #[] #[], .pointer (some ⟨Bn, 0, none⟩)] W fun e W' => (∃ v, e = .returned v) ∧
      ((∃ ys, ys = zs ∧ J ys W') ∨ (∃ pre, pre <+: zs ∧ Jx pre W')) := by
  refine callsIn_of_wp Try.func57 rfl h6 ?_ hro
  simp only [Try.ntmps57, List.size_toArray, List.length_cons, List.length_nil, Nat.reduceAdd, Nat.reduceSub, Array.replicate_succ, Array.replicate_zero, List.push_toArray, List.append_toArray, List.nil_append, List.cons_append]
  gi_wp2
  gi_loopw [7] (fun i wr => ∃ k : Nat, k ≤ zs.length ∧ i = .int .i64 k ∧ J (zs.take k) wr ∧ Below n₀ W wr) (fun i _ => zs.length - (intOf i).toNat)
  case atStart => exact ⟨0, by omega, rfl, by simpa using h0, Below.refl _ _⟩
  case round =>
    obtain ⟨k, hk, rfl, hJs, hbb⟩ := hrel
    by_cases hlt : k < zs.length
    · obtain ⟨y, hy⟩ := ints_get zs k hlt
      have c0 := hc.out k y hy
      have c1 : wr.cell? ⟨b, off + k, none⟩ = some (.int .i64 y) := (hbb.cell (p := ⟨b, off + k, none⟩) (hb (by omega))).trans c0
      obtain rfl := ha (by omega)
      have T := Hid.mk (take_one zs k y hy)
      have HBB := Hid.mk hbb
      obtain ⟨fn, tmps, assign, body, hyy, hR⟩ := hY (zs.take k) y wr hJs (by rw [List.length_take]; omega)
      clear ha c0 hy hbb hb
      gi_wp2
      refine hR.mono ?_
      rintro e W3 (⟨rfl, hJ3, hk3⟩ | ⟨rfl, hJx3⟩)
      · gi_wp2
        go_roundw
        case rel => exact ⟨k + 1, by omega, by go_num, by rw [T.out]; exact hJ3, HBB.out.trans hk3⟩
        case measure => simp [intOf]; omega
      · gi_wp2
        refine bodyPost_ret (results_none rfl _ _ _) rfl ?_
        exact ⟨⟨_, rfl⟩, .inr ⟨_, by rw [← T.out]; exact List.take_prefix _ _, hJx3⟩⟩
    · gi_wp2
      go_end0
      exact ⟨⟨_, rfl⟩, .inl ⟨_, List.take_of_length_le (by omega), hJs⟩⟩

/-- What the iterator bits.each reads between two rounds: what lay below n₀, and the box of the set. -/
def KpB (n₀ Bn : Nat) (W W' : World) : Prop := Below n₀ W W' ∧ W'.heap[Bn]? = W.heap[Bn]?
theorem KpB.refl (n₀ Bn : Nat) (W : World) : KpB n₀ Bn W W := ⟨Below.refl _ _, rfl⟩
theorem KpB.t {n₀ Bn : Nat} {A B C : World} (h : KpB n₀ Bn A B) (k : KpB n₀ Bn B C) : KpB n₀ Bn A C := ⟨h.1.trans k.1, k.2.trans h.2⟩
theorem KpB.b {n₀ Bn : Nat} {w : World} (hn : n₀ ≤ w.heap.size) (hB : Bn < w.heap.size) (W : World) (l : Nat) (o o' : Obj) (hl : w.heap.size ≤ l) (h : W.heap[l]? = some o) (h1 : o.isCells = false) (h2 : o.isWalk = false) : KpB n₀ Bn W (W.putObj l o') :=
  ⟨belowK_b hn W l o o' hl h h1 h2, (grownBy_putObj' W l o').block Bn (by have := (Array.getElem?_eq_some_iff.1 h).1; omega) (by intro e; cases e; omega)⟩

set_option maxRecDepth 100000 in
set_option maxHeartbeats 1000000 in
theorem each1_in (F : Fence) (n : Nat) (h6 : F.fn 60) (hro : F.round = none) (hn : 1 ≤ n) (l Bn n₀ : Nat) (a : Option Addr) (cap b off : Nat) (zs : List Int) (hg : Good zs) (J Jx : List Int → World → Prop)
    (hY : ∀ pre x W, J pre W → pre.length < 10000 → YieldAt F (n - 1) Try.prog l #[.int .i64 x] W fun e W' =>
      (e = .returned (.bool true) ∧ J (pre ++ [x]) W' ∧ KpB n₀ Bn W W') ∨ (e = .returned (.bool false) ∧ Jx (pre ++ [x]) W'))
    (W : World) (hBn : Boxed W Bn 23 (.slice a zs.length cap)) (ha : 0 < zs.length → a = some ⟨b, off, none⟩) (hb : 0 < zs.length → b < n₀)
    (hc : Hid (∀ (j : Nat) (x : Int), zs[j]? = some x → W.cell? ⟨b, off + j, none⟩ = some (.int .i64 x))) (h0 : J [] W) :
    CallsIn F n Try.prog 60 #[.func (.yield l) #[] #[], .pointer (some ⟨Bn, 0, none⟩)] W fun e W' => (∃ v, e = .returned v) ∧
      ((∃ ys, ys = slotsL zs ∧ J ys W') ∨ (∃ pre, True ∧ Jx pre W')) := by
  have hl := hg.len
  have hev := hg.even
  have HG := Hid.mk hg
  clear hg
  refine callsIn_of_wp Try.func60 rfl h6 ?_ hro
  simp only [Try.ntmps60, List.size_toArray, List.length_cons, List.length_nil, Nat.reduceAdd, Nat.reduceSub, Array.replicate_succ, Array.replicate_zero, List.push_toArray, List.append_toArray, List.nil_append, List.cons_append]
  gi_wp2
  gi_loopw [3] (fun i wr => ∃ k : Nat, k ≤ zs.length ∧ k % 2 = 0 ∧ i = .int .i64 k ∧ J (slotsL (zs.take k)) wr ∧ KpB n₀ Bn W wr) (fun i _ => zs.length - (intOf i).toNat)
  case atStart => exact ⟨0, by omega, by omega, rfl, by simpa [slotsL] using h0, KpB.refl _ _ _⟩
  case round =>
    obtain ⟨k, hk, hk2, rfl, hJs, hbb⟩ := hrel
    have box : wr.cell? ⟨Bn, 0, none⟩ = some (.slice a zs.length cap) := Boxed.cell (hbb.2.trans hBn)
    by_cases hlt : k < zs.length
    · obtain ⟨y, hy⟩ := ints_get zs k hlt
      obtain ⟨z, hz⟩ := ints_get zs (k+1) (by omega)
      have c1 : wr.cell? ⟨b, off + k, none⟩ = some (.int .i64 y) := (hbb.1.cell (p := ⟨b, off + k, none⟩) (hb (by omega))).trans (hc.out k y hy)
      have C2 := Hid.mk (hc.out (k+1) z hz)
      obtain ⟨y1, y2⟩ := HG.out.rng k y hy
      obtain ⟨z1, z2⟩ := HG.out.rng (k+1) z hz
      have yz := HG.out.asc k y z hy hz
      have hln := slotsL_le zs HG.out k hk hk2
      have T := Hid.mk (slotsL_take zs k y z hy hz hk2)
      obtain rfl := ha (by omega)
      have hbn := hb (by omega)
      have HBB := Hid.mk hbb
      clear hy hz hbb hb ha
      have hd : decide ((k : Int) < (zs.length : Int)) = true := by simp; omega
      generalize hss : slotsL (zs.take k) = ss at *
      gi_wp2
      gi_loopw [4] (fun i wr => ∃ m : Nat, m ≤ (z - y).toNat ∧ i = .int .i64 (y + m) ∧ J (ss ++ upto y m) wr ∧ KpB n₀ Bn W wr) (fun i _ => z.toNat - (intOf i).toNat)
      case atStart => exact ⟨0, by omega, by simp, by simpa [upto] using hJs, HBB.out⟩
      case round =>
        obtain ⟨m, hm, rfl, hJ2, hb3⟩ := hrel
        have box2 : wr.cell? ⟨Bn, 0, none⟩ = some (.slice (some ⟨b, off, none⟩) zs.length cap) := Boxed.cell (hb3.2.trans hBn)
        have c2 : wr.cell? ⟨b, off + (k + 1), none⟩ = some (.int .i64 z) := (hb3.1.cell (p := ⟨b, off + (k + 1), none⟩) hbn).trans C2.out
        have HB3 := Hid.mk hb3
        have U := Hid.mk (upto_snoc y m)
        clear hb3
        by_cases gm : m < (z - y).toNat
        · obtain ⟨fn, tmps, assign, body, hyy, hR⟩ := hY (ss ++ upto y m) (y + m) wr hJ2 (by rw [List.length_append, upto_length]; omega)
          gi_wp2
          refine hR.mono ?_
          rintro e W3 (⟨rfl, hJ3, hk3⟩ | ⟨rfl, hJx3⟩)
          · gi_wp2
            go_roundw
            case rel => exact ⟨m + 1, by omega, by go_num, by rw [U.out, ← List.append_assoc]; exact hJ3, HB3.out.t hk3⟩
            case measure => simp [intOf]; omega
          · gi_wp2
            refine bodyPost_ret (results_none rfl _ _ _) rfl ?_
            exact ⟨⟨_, rfl⟩, .inr ⟨_, trivial, hJx3⟩⟩
        · have e : m = (z - y).toNat := by omega
          have E := Hid.mk e
          clear e
          gi_wp2
          go_roundw
          case rel => exact ⟨k + 2, by omega, by omega, by go_num, by rw [T.out, ← E.out]; exact hJ2, HB3.out⟩
          case measure => simp [intOf]; omega
    · gi_wp2
      go_end0
      exact ⟨⟨_, rfl⟩, .inl ⟨_, by rw [List.take_of_length_le (by omega)], hJs⟩⟩

theorem each_stops (F : Fence) (n : Nat) (h6 : F.fn 60) (hro : F.round = none) (hn : 1 ≤ n) (Bn n₀ : Nat) (a : Option Addr) (cap b off : Nat) (zs : List Int) (hg : Good zs) (w : World) (hBn : Boxed w Bn 23 (.slice a zs.length cap))
    (ha : 0 < zs.length → a = some ⟨b, off, none⟩) (hb : 0 < zs.length → b < n₀) (hc : Hid (∀ (j : Nat) (x : Int), zs[j]? = some x → w.cell? ⟨b, off + j, none⟩ = some (.int .i64 x))) :
    SeqStopsK F n Try.prog 60 #[.pointer (some ⟨Bn, 0, none⟩)] (fun x : Int => #[Value.int .i64 x]) (KpB n₀ Bn) (fun ys => ys = slotsL zs) (fun _ => True) 10000 w := fun l J Jx W hW _ _ hY h0 =>
  each1_in F n h6 hro hn l Bn n₀ a cap b off zs hg J Jx hY W ((hW.block Bn hBn.lt).trans hBn) ha hb (fun j x hx => by
    have := hc.out j x hx
    rw [← this]; exact hW.cell (World.block_lt_of_cell? _ _ this)) h0

theorem each_in (F : Fence) (n : Nat) (h5 : F.fn 44) (hro : F.round = none) (a : Option Addr) (l c : Nat) (w : World) :
    CallsIn F n Try.prog 44 #[.slice a l c] w fun e w' => e = .returned (.func (.func 60) #[] #[.pointer (some ⟨w.heap.size, 0, none⟩)]) ∧ w' = w.alloc (.cells #[.slice a l c] 23) := by
  refine callsIn_of_wp Try.func44 rfl h5 ?_ hro
  simp only [Try.ntmps44, List.size_toArray, List.length_cons, List.length_nil, Nat.reduceAdd, Nat.reduceSub, Array.replicate_succ, Array.replicate_zero, List.push_toArray, List.append_toArray, List.nil_append, List.cons_append]
  gi_wp2
  go_ret
  exact ⟨rfl, rfl⟩

/-- The caller's own slice, in its box. -/
def HoldsRow (n₀ B : Nat) (pre : List Int) (W : World) : Prop :=
  ∃ v, Boxed W B 22 v ∧ W.ownsRow n₀ 3 1 v pre.length (pre.map (Value.int .i64)) ∧ True

theorem ownsRow_lower {w : World} {B B' e size n : Nat} {v : Value} {xs : List Value} (h : w.ownsRow B e size v n xs) (hB : B' ≤ B) : w.ownsRow B' e size v n xs := by
  refine ⟨h.1, ?_⟩
  rcases h.2 with hn | ⟨g, cap, cur, rfl, hb1, rest⟩
  · exact .inl hn
  · exact .inr ⟨g, cap, cur, rfl, by omega, rest⟩

theorem box_kept {W w1 : World} {Bn B : Nat} {t n₀ : Nat} {v v' : Value} {k : Nat} {xs : List Value} {o : Obj} (hlt : Bn < W.heap.size) (hne : Bn ≠ B) (hrow : W.ownsRow n₀ t 1 v k xs) (hbn : Bn < n₀) (hgrow : (W.alloc o).grownBy w1 v.ownBlock) :
    (w1.setCell ⟨B, 0, none⟩ v').heap[Bn]? = W.heap[Bn]? := by
  rw [Below.heap_setCell _ _ _ _ hne, hgrow.block Bn (by simp; omega) (by intro e; have := hrow.lt Bn e.symm; omega)]
  exact Below.heap_alloc _ _ _ hlt

set_option maxRecDepth 100000 in
set_option maxHeartbeats 2000000 in
theorem slots_in (F : Fence) (n : Nat) (h3 : F.fn 23) (h4 : F.fn 44) (h5 : F.fn 60) (hro : F.round = none) (hn : 3 ≤ n) (a : Option Addr) (cap b off : Nat) (zs : List Int) (hg : Good zs) (w : World)
    (ha : 0 < zs.length → a = some ⟨b, off, none⟩) (hb : 0 < zs.length → b < w.heap.size) (hc : Hid (∀ (j : Nat) (x : Int), zs[j]? = some x → w.cell? ⟨b, off + j, none⟩ = some (.int .i64 x))) :
    CallsIn F n Try.prog 23 #[.slice a zs.length cap] w (MadeInts 3 w (slotsL zs)) := by
  have h1 : 1 ≤ n := by omega
  obtain ⟨i0, hi, hz0, hz1, hz2⟩ := info_parts elemInt.info
  refine callsIn_of_wp_marks Try.func23 rfl h3 ?_ hro
  simp only [Try.ntmps23, List.size_toArray, List.length_cons, List.length_nil, Nat.reduceAdd, Nat.reduceSub, Array.replicate_succ, Array.replicate_zero, List.push_toArray, List.append_toArray, List.nil_append, List.cons_append]
  gi_wp2_with (gi_at_call 44; refine (each_in F (n - 1) h4 hro _ _ _ _).mono ?_; rintro e w' ⟨rfl, rfl⟩)
  have bO := Boxed.new w 22 (.slice none 0 0)
  have bN := Boxed.new (w.alloc (.cells #[.slice none 0 0] 22)) 23 (.slice a zs.length cap)
  rw [World.size_alloc] at bN
  have hB0 : Below w.heap.size w ((w.alloc (.cells #[.slice none 0 0] 22)).alloc (.cells #[.slice a zs.length cap] 23)) := ((Below.refl _ w).alloc (Nat.le_refl _) _).alloc (by simp) _
  have hc' : Hid (∀ (j : Nat) (x : Int), zs[j]? = some x → ((w.alloc (.cells #[.slice none 0 0] 22)).alloc (.cells #[.slice a zs.length cap] 23)).cell? ⟨b, off + j, none⟩ = some (.int .i64 x)) :=
    fun j x hx => below_cell hB0 (hc.out j x hx)
  refine wpIn_rangeFunc_ownG hro h1 (gf := 60) (lb := #[.pointer (some ⟨w.heap.size + 1, 0, none⟩)]) rfl h5 (enters_of Try.func60 (by kernel_rfl) rfl)
    (each_stops F (n - 1) h5 hro (by omega) (w.heap.size + 1) w.heap.size a cap b off zs hg _ bN ha hb hc') KpB.t (KpB.b (by simp; omega) (by simp)) (Below.refl _ _) (fun _ => rfl)
    (fun pre W => (∃ v, Boxed W w.heap.size 22 v ∧ W.ownsRow (w.heap.size + 2) 3 1 v pre.length (pre.map (Value.int .i64)) ∧ True) ∧ (Below w.heap.size w W ∧ w.heap.size + 2 ≤ W.heap.size))
    (fun _ _ _ => False)
    ?own
    (fun _ _ _ _ _ hs _ _ => hs)
    ⟨⟨_, bO.alloc _, World.ownsRow_nil _ _ _ _, trivial⟩, hB0, by simp⟩
    (fun x => { tmps := #[.slice a zs.length cap, undef, .slice none 0 0, .pointer (some ⟨w.heap.size, 0, none⟩), .int .i64 x, .slice a zs.length cap, .func (.func 60) #[] #[.pointer (some ⟨w.heap.size + 1, 0, none⟩)], .int .i64 x, undef, undef, undef, undef, undef], defers := [] }) ?assign ?body ?done ?stop
  case own =>
    refine OwnFrom.and (Go.Own.from (holdsRow_own (w.heap.size + 2) w.heap.size 22 3 1 (fun pre : List Int => pre.length) (fun pre => pre.map (Value.int .i64)) (fun _ _ => True)) _) (OwnFrom.and (ownFrom_below (Nat.le_refl _) (by simp; omega)) ?_)
    intro s A B row hs hgr _
    exact Nat.le_trans hs hgr.size
  case assign =>
    intro l x W K hK
    gi_wp2
    exact hK
  case body =>
    rintro l pre x W ⟨⟨v, hv, hrow, -⟩, hB, hsz⟩ hlt
    have hc := hv.cell
    gi_wp2_with (gi_at_builtin; refine wpListIn_append_own _ rfl _ _ 22 rfl (w.heap.size + 2) 3 i0 (.int .i64 0) 1 8 Try.underlying22 hi hz0 hz1 hz2 rfl (by decide) _ _ _ rfl (hrow.alloc _) ⟨W.heap.size, 0, none⟩ 1 1 [.int .i64 x] rfl rfl (cell_one_new _ _ _) (by simp [Value.oneCell']) (by simp [maxLen]; omega) (by omega) (by simp; omega) ?_; intro v' w1 hown' hgrow _; obtain ⟨g', cap', rfl⟩ := ownsRow_succ hown'; obtain ⟨hv1, hv2, hr2, hk2, hb2⟩ := hv.appended (by decide) (ownsRow_lower hrow (by omega : w.heap.size ≤ w.heap.size + 2)) (by omega) (Nat.le_refl _) (ownsRow_lower hown' (by omega : w.heap.size ≤ w.heap.size + 2)) hgrow; have hc1 := hv1.cell; have hf1 := hv1.frozen)
    have hrr := hown'.kept (grownBy_setCell' w1 w.heap.size (.slice (some ⟨g', 0, none⟩) (pre.length + 1) cap')) (.inr (hv1.not_row (by decide) hown').symm)
    have hsz2 : w.heap.size + 2 ≤ (w1.setCell ⟨w.heap.size, 0, none⟩ (.slice (some ⟨g', 0, none⟩) (pre.length + 1) cap')).heap.size := Nat.le_trans hsz hb2.size
    exact ⟨hk2.from _, ⟨hb2, box_kept (by omega) (by omega) hrow (by omega) hgrow⟩, ⟨_, hv2, by simpa using hrr, trivial⟩, hB.trans hb2, hsz2⟩
  case done =>
    rintro D ys W hD rfl ⟨⟨v, hv, hrow, -⟩, hB, hsz⟩ hK
    have hc := hv.cell
    gi_wp2
    refine ⟨by simp, .inl ⟨_, _, rfl, run_takeDeferred hK, ?_⟩⟩
    exact ⟨_, results_tmp rfl _ _ _, v, rfl, by have := ownsRow_putObj hrow (.deferred none) hK rfl; exact Own.lower (by simpa [Own] using this) (by omega), hB.trans (belowK_b (w := w) (Nat.le_refl _) W D _ _ (by simp at hD; omega) hK rfl rfl)⟩
  case stop =>
    rintro D c pre W _ _ h _
    exact h.elim

theorem bitsSlots (v : Value) (zs : List Int) (w : World) (hv : Ints w v zs) (hg : Good zs) : Calls Try.prog 23 #[v] w (MadeInts 3 w (slotsL zs)) := by
  obtain ⟨a, cap, b, off, rfl, hcap, hm, ha, hc⟩ := hv.open
  refine (callsIn_wide (n := 3)).1 (slots_in Fence.wide 3 trivial trivial trivial rfl (by omega) a cap b off zs hg w ha (fun h => ?_) hc)
  obtain ⟨x, hx⟩ := ints_get zs 0 h
  exact World.block_lt_of_cell? _ _ (hc.out 0 x hx)

theorem values_stops (F : Fence) (n : Nat) (h6 : F.fn 57) (hro : F.round = none) (hn : 1 ≤ n) (Bn n₀ : Nat) (a : Option Addr) (cap b off : Nat) (zs : List Int) (hl : zs.length ≤ 1000000000) (w : World) (hBn : Boxed w Bn 22 (.slice a zs.length cap))
    (ha : 0 < zs.length → a = some ⟨b, off, none⟩) (hb : 0 < zs.length → b < n₀) (hc : Hid (∀ (j : Nat) (x : Int), zs[j]? = some x → w.cell? ⟨b, off + j, none⟩ = some (.int .i64 x))) :
    SeqStopsK F n Try.prog 57 #[.pointer (some ⟨Bn, 0, none⟩)] (fun x : Int => #[Value.int .i64 x]) (Below n₀) (fun ys => ys = zs) (fun pre => pre <+: zs) zs.length w := fun l J Jx W hW _ _ hY h0 =>
  values1_in F n h6 hro hn l Bn n₀ a cap b off zs hl J Jx hY W (Boxed.cell ((hW.block Bn hBn.lt).trans hBn)) ha hb (fun j x hx => by
    have := hc.out j x hx
    rw [← this]; exact hW.cell (World.block_lt_of_cell? _ _ this)) h0

set_option maxRecDepth 100000 in
set_option maxHeartbeats 2000000 in
theorem appendSeq_in (F : Fence) (n : Nat) (h3 : F.fn 68) (h5 : F.fn 57) (hro : F.round = none) (hn : 3 ≤ n) (Bn : Nat) (a : Option Addr) (cap b off : Nat) (zs : List Int) (hl : zs.length ≤ 1000000000) (w : World) (hBn : Boxed w Bn 22 (.slice a zs.length cap))
    (ha : 0 < zs.length → a = some ⟨b, off, none⟩) (hb : 0 < zs.length → b < w.heap.size) (hc : Hid (∀ (j : Nat) (x : Int), zs[j]? = some x → w.cell? ⟨b, off + j, none⟩ = some (.int .i64 x))) :
    CallsIn F n Try.prog 68 #[.slice none 0 0, .func (.func 57) #[] #[.pointer (some ⟨Bn, 0, none⟩)]] w (MadeInts 3 w zs) := by
  have h1 : 1 ≤ n := by omega
  obtain ⟨i0, hi, hz0, hz1, hz2⟩ := info_parts elemInt.info
  refine callsIn_of_wp_marks Try.func68 rfl h3 ?_ hro
  simp only [Try.ntmps68, List.size_toArray, List.length_cons, List.length_nil, Nat.reduceAdd, Nat.reduceSub, Array.replicate_succ, Array.replicate_zero, List.push_toArray, List.append_toArray, List.nil_append, List.cons_append]
  gi_wp2
  have bO := Boxed.new w 22 (.slice none 0 0)
  have bN := hBn.alloc (.cells #[.slice none 0 0] 22)
  have hB0 : Below w.heap.size w (w.alloc (.cells #[.slice none 0 0] 22)) := (Below.refl _ w).alloc (Nat.le_refl _) _
  have hc' : Hid (∀ (j : Nat) (x : Int), zs[j]? = some x → (w.alloc (.cells #[.slice none 0 0] 22)).cell? ⟨b, off + j, none⟩ = some (.int .i64 x)) :=
    fun j x hx => below_cell hB0 (hc.out j x hx)
  refine wpIn_rangeFunc_ownG hro h1 (gf := 57) (lb := #[.pointer (some ⟨Bn, 0, none⟩)]) rfl h5 (enters_of Try.func57 (by kernel_rfl) rfl)
    (values_stops F (n - 1) h5 hro (by omega) Bn w.heap.size a cap b off zs hl _ bN ha hb hc') belowK_t (belowK_b (by simp)) (Below.refl _ _) (fun _ => rfl)
    (fun pre W => (∃ v, Boxed W w.heap.size 22 v ∧ W.ownsRow w.heap.size 3 1 v pre.length (pre.map (Value.int .i64)) ∧ True) ∧ Below w.heap.size w W)
    (fun _ _ _ => False)
    ?own
    (fun _ _ _ _ _ hs _ _ => hs)
    ⟨⟨_, bO, World.ownsRow_nil _ _ _ _, trivial⟩, hB0⟩
    (fun x => { tmps := #[.slice none 0 0, .func (.func 57) #[] #[.pointer (some ⟨Bn, 0, none⟩)], .pointer (some ⟨w.heap.size, 0, none⟩), undef, .slice none 0 0, .int .i64 x, .func (.func 57) #[] #[.pointer (some ⟨Bn, 0, none⟩)], .int .i64 x, undef, undef, undef, undef, undef], defers := [] }) ?assign ?body ?done ?stop
  case own =>
    exact OwnFrom.and (Go.Own.from (holdsRow_own w.heap.size w.heap.size 22 3 1 (fun pre : List Int => pre.length) (fun pre => pre.map (Value.int .i64)) (fun _ _ => True)) _) (ownFrom_below (Nat.le_refl _) (by simp))
  case assign =>
    intro l x W K hK
    gi_wp2
    exact hK
  case body =>
    rintro l pre x W ⟨⟨v, hv, hrow, -⟩, hB⟩ hlt
    have hc := hv.cell
    gi_wp2_with (gi_at_builtin; refine wpListIn_append_own _ rfl _ _ 22 rfl w.heap.size 3 i0 (.int .i64 0) 1 8 Try.underlying22 hi hz0 hz1 hz2 rfl (by decide) _ _ _ rfl (hrow.alloc _) ⟨W.heap.size, 0, none⟩ 1 1 [.int .i64 x] rfl rfl (cell_one_new _ _ _) (by simp [Value.oneCell']) (by simp [maxLen]; omega) (by omega) (by have := hB.size; simp; omega) ?_; intro v' w1 hown' hgrow _; obtain ⟨g', cap', rfl⟩ := ownsRow_succ hown'; obtain ⟨hv1, hv2, hr2, hk2, hb2⟩ := hv.appended (by decide) hrow hB.size (Nat.le_refl _) hown' hgrow; have hc1 := hv1.cell; have hf1 := hv1.frozen)
    exact ⟨hk2.from _, hb2, ⟨_, hv2, by simpa using hr2, trivial⟩, hB.trans hb2⟩
  case done =>
    rintro D ys W hD rfl ⟨⟨v, hv, hrow, -⟩, hB⟩ hK
    have hc := hv.cell
    gi_wp2
    refine ⟨by simp, .inl ⟨_, _, rfl, run_takeDeferred hK, ?_⟩⟩
    exact ⟨_, results_tmp rfl _ _ _, v, rfl, by have := ownsRow_putObj hrow (.deferred none) hK rfl; simpa [Own] using this, hB.trans (belowK_b (w := w) (Nat.le_refl _) W D _ _ (by simp at hD; omega) hK rfl rfl)⟩
  case stop =>
    rintro D c pre W _ _ h _
    exact h.elim

end Go.Proofs.Ytomjfmebbpfkeaa
