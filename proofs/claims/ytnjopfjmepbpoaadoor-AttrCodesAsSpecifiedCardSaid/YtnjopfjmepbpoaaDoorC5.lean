/- Merged: StrB, PwQ, PwQ2, He, Hf, Hg, Hh, Hi, Slices, PwS, PwT, AttrL, AttrN, AttrO, AttrP, AttrQ, AttrR, PlainU, RegionB, RegionG, AttrS, AttrG, AttrH, AttrI, PlainV, Pa, Pb, Pd, Pe, Pf, Pc. -/
import Derived.Lib.Hide
import Derived.StillTailTactics
import Derived.Deep.Cut
import Derived.Test.YtnjopfjmepbpoaaDoorC4
/- The walks of wire and antiquaryref01: byte strings, decoded. -/
namespace Go.Proofs.YtnjopfjmepbpoaaDoor
set_option linter.unusedSimpArgs false
set_option linter.unusedVariables false
set_option linter.unnecessarySimpa false
open Go.RowKit

/-- The call returns a new list, and two numbers. -/
def MadeStrsN (w : World) (r : List ByteArray × Int × Int) (e : Ending) (w' : World) : Prop :=
  ∃ v, e = .returned (.tuple #[v, .int .i64 r.2.1, .int .i64 r.2.2]) ∧ Own w.heap.size 9 w' v (r.1.map Value.string) ∧ Below w.heap.size w w'
theorem MadeStrsN.mk {w w' : World} {r : List ByteArray × Int × Int} {l : List ByteArray} {x y : Int} {v : Value} (h : r = (l, x, y)) (ho : Own w.heap.size 9 w' v (l.map Value.string)) (hb : Below w.heap.size w w') :
    MadeStrsN w r (.returned (.tuple #[v, .int .i64 x, .int .i64 y])) w' := by
  subst h; exact ⟨v, rfl, ho, hb⟩

/-- A call returns a string and two numbers. -/
def RetS3 (w : World) (r : ByteArray × Int × Int) (e : Ending) (w' : World) : Prop :=
  e = .returned (.tuple #[.string r.1, .int .i64 r.2.1, .int .i64 r.2.2]) ∧ Still w w'
theorem RetS3.mk {w w' : World} {r : ByteArray × Int × Int} {x : ByteArray} {y z : Int} (h : r = (x, y, z)) (hs : Still w w') : RetS3 w r (.returned (.tuple #[.string x, .int .i64 y, .int .i64 z])) w' := by
  subst h; exact ⟨rfl, hs⟩

theorem Bytes.mid {w : World} {bs : List Int} {cap b off m n : Nat} (hcap : bs.length ≤ cap) (hm : cap ≤ maxLen) (hc : ∀ (j : Nat) (x : Int), bs[j]? = some x → w.cell? ⟨b, off + j, none⟩ = some (.int .u8 x)) (hle : m + n ≤ bs.length) :
    Bytes w (.slice (some ⟨b, off + m, none⟩) n (cap - m)) ((bs.drop m).take n) := by
  have hl : ((bs.drop m).take n).length = n := by rw [List.length_take, List.length_drop]; omega
  refine ⟨_, cap - m, b, off + m, by rw [List.length_map, hl], by rw [List.length_map, hl]; omega, by omega, fun _ => rfl, fun j u hu => ?_⟩
  rw [List.getElem?_map] at hu
  obtain ⟨x, hx, rfl⟩ := Option.map_eq_some_iff.1 hu
  rw [List.getElem?_take] at hx
  split at hx
  · rw [List.getElem?_drop] at hx
    rw [Nat.add_assoc]; exact hc _ _ hx
  · cases hx
theorem Bytes.empty {w : World} {a : Option Addr} {c : Nat} (hc : c ≤ maxLen) : Bytes w (.slice a 0 c) [] :=
  ⟨a, c, 0, 0, rfl, by simp, hc, fun h => by simp at h, fun j u hu => by simp at hu⟩

set_option maxRecDepth 100000 in
set_option maxHeartbeats 1000000 in
theorem wireGetBytes (v : Value) (bs : List Int) (w : World) (hv : Bytes w v bs) (hby : Byte bs) : Calls Tryd.prog 69 #[v] w (RetS3 w (getS bs)) := by
  obtain ⟨a, cap, b, off, hvv, hcap, hm, ha, hc⟩ := hv.open
  have ok := Hid.mk (lenL_ok bs 1 hby.all)
  obtain ⟨n, u, er, hr⟩ : ∃ n u er, lenL bs 1 = (n, u, er) := ⟨_, _, _, rfl⟩
  have L : Hid (getS bs = if er ≠ 0 then (ByteArray.empty, 0, er) else (strOf ((bs.drop u.toNat).take n.toNat), u + n, 0)) := by
    rw [Hid, getS, hr]
  have HR := Hid.mk hr
  rw [hr] at ok
  clear hr
  subst hvv
  by_cases g : er = 0
  · obtain rfl := g
    obtain ⟨o1, o2, o3, o4⟩ := ok.out rfl
    simp only [Int.ediv_one] at o1 o2 o3 o4
    obtain ⟨N, rfl⟩ : ∃ N : Nat, n = N := ⟨n.toNat, by omega⟩
    obtain ⟨U, rfl⟩ : ∃ N : Nat, u = N := ⟨u.toNat, by omega⟩
    have L2 : Hid (getS bs = (strOf ((bs.drop U).take N), (U : Int) + (N : Int), 0)) := by rw [Hid, L.out, if_neg (by simp)]; simp
    obtain rfl := ha (by omega)
    have HV := Hid.mk hv
    have HC := Hid.mk (fun (k : Nat) => Bytes.mid (w := w.drewN k) (m := U) (n := N) hcap hm (fun j x hx => hc.out j x hx) (by omega))
    have HM := hm
    unfold maxLen at hm
    clear ha L ok hc hv
    by_cases ec : cap = U
    · subst ec
      obtain rfl : N = 0 := by omega
      have cv : ∀ k, (convert 26 9 (.slice (some ⟨b, off, none⟩) 0 0)).run Tryd.prog (w.drewN k) = .ok (.string (strOf [])) (w.drewN k) := fun k => conv_bytes (Bytes.empty (by unfold maxLen; omega))
      have L3 : Hid (getS bs = (strOf [], (cap : Int), 0)) := by rw [Hid, L2.out]; simp
      clear HM HC
      generalize strOf [] = st at *
      go_enter Tryd.func69, Tryd.ntmps69
      go_wp2_with (go_at_call 102; refine (wireLength _ bs _ _ HV.out hby (by omega) (by omega)).mono ?_; rintro e w' ⟨rfl, k, rfl⟩; rw [HR.out])
      go_ret3
      exact RetS3.mk L3.out (Still.one _ _)
    · have cv : ∀ k, (convert 26 9 (.slice (some ⟨b, off + U, none⟩) N (cap - U))).run Tryd.prog (w.drewN k) = .ok (.string (strOf ((bs.drop U).take N))) (w.drewN k) := fun k => conv_bytes (HC.out k)
      clear HM HC
      generalize strOf ((bs.drop U).take N) = st at *
      go_enter Tryd.func69, Tryd.ntmps69
      go_wp2_with (go_at_call 102; refine (wireLength _ bs _ _ HV.out hby (by omega) (by omega)).mono ?_; rintro e w' ⟨rfl, k, rfl⟩; rw [HR.out])
      go_ret3
      exact RetS3.mk L2.out (Still.one _ _)
  · have g' : (er == 0) = false := by simpa using g
    have L2 : Hid (getS bs = (ByteArray.empty, 0, er)) := by rw [Hid, L.out, if_pos g]
    go_enter Tryd.func69, Tryd.ntmps69
    go_wp2_with (go_at_call 102; refine (wireLength _ bs _ _ hv hby (by omega) (by omega)).mono ?_; rintro e w' ⟨rfl, k, rfl⟩; rw [HR.out])
    go_ret3
    exact RetS3.mk L2.out (Still.one _ _)

theorem callGetBytes (args : Array Value) (w : World) : (callFunc 69 args).run Tryd.prog w = .ok (.enter 69 args) w := by kernel_rfl

set_option maxRecDepth 100000 in
set_option maxHeartbeats 1000000 in
theorem wireGetSt (v : Value) (bs : List Int) (w : World) (hv : Bytes w v bs) (hby : Byte bs) (hl : bs.length ≤ 1000000000) : Calls Tryd.prog 68 #[v, .int .i64 1, .func (.func 69) #[] #[]] w (MadeStrsN w (getStrs bs)) := by
  obtain ⟨a, cap, b, off, hvv, hcap, hm, ha, hc⟩ := hv.open
  have ok := Hid.mk (lenL_ok bs 1 hby.all)
  obtain ⟨n, u, er, hr⟩ : ∃ n u er, lenL bs 1 = (n, u, er) := ⟨_, _, _, rfl⟩
  have L : Hid (getStrs bs = if er ≠ 0 then ([], 0, er) else andThenS [] u (getNS n.toNat (bs.drop u.toNat))) := by
    rw [Hid, getStrs, hr]
  have HR := Hid.mk hr
  rw [hr] at ok
  clear hr
  subst hvv
  by_cases g : er = 0
  · obtain rfl := g
    obtain ⟨o1, o2, o3, o4⟩ := ok.out rfl
    simp only [Int.ediv_one] at o1 o2 o3 o4
    obtain ⟨N, rfl⟩ : ∃ N : Nat, n = N := ⟨n.toNat, by omega⟩
    obtain ⟨U, rfl⟩ : ∃ N : Nat, u = N := ⟨u.toNat, by omega⟩
    have L2 : Hid (getStrs bs = andThenS [] U (getNS N (bs.drop U))) := by rw [Hid, L.out, if_neg (by simp)]; rfl
    obtain rfl := ha (by omega)
    clear ha L ok
    go_enter Tryd.func68, Tryd.ntmps68
    go_wp2_with (go_at_call 102; refine (wireLength _ bs _ _ hv hby (by omega) (by omega)).mono ?_; rintro e w' ⟨rfl, k, rfl⟩; rw [HR.out])
    go_loopw [10, 12, 27] (fun p o i wr => ∃ (j m : Nat) (out : List ByteArray), j ≤ N ∧ U ≤ m ∧ m ≤ bs.length ∧ out.length = j ∧ i = .int .i64 j ∧ p = .int .i64 m ∧ Own w.heap.size 9 wr o (out.map Value.string) ∧ Below w.heap.size w wr ∧ Hid (getStrs bs = andThenS out m (getNS (N - j) (bs.drop m)))) (fun _ _ i _ => N - (intOf i).toNat)
    case atStart => exact ⟨0, U, [], by omega, by omega, by omega, rfl, rfl, rfl, Own.nil _ _ _, (Still.one _ _).below _, L2⟩
    case round =>
      obtain ⟨j, m, out, hj, hUm, hmb, ho, rfl, rfl, hown, hb, hh⟩ := hrel
      have HB := Hid.mk hb
      have hb2 := hb.size
      have HO := Hid.mk ho
      clear hb ho
      by_cases hlt : j < N
      · have hv' : Bytes wr (.slice (some (if cap = m then ⟨b, off, none⟩ else ⟨b, off + m, none⟩)) (bs.length - m) (cap - m)) (bs.drop m) := by
          split
          · rw [show bs.length - m = 0 by omega]; exact Bytes.dropEnd (by omega) (by omega)
          · exact Bytes.dropAt hcap hm (fun j x hx => below_cell HB.out (hc.out j x hx)) hmb
        have ok := Hid.mk (getS_ok (bs.drop m) (hby.drop m).all)
        obtain ⟨x, us, e2, hr2⟩ : ∃ x us e2, getS (bs.drop m) = (x, us, e2) := ⟨_, _, _, rfl⟩
        have HV := Hid.mk hv'
        have HR2 := Hid.mk hr2
        have NX : Hid (N - j = (N - (j+1)) + 1) := by rw [Hid]; omega
        rw [hr2] at ok
        clear hr2 hv'
        by_cases g2 : e2 = 0
        · obtain rfl := g2
          obtain ⟨p1, p2⟩ := ok.out rfl
          simp only [List.length_drop] at p1 p2
          obtain ⟨us, rfl⟩ : ∃ N : Nat, us = N := ⟨us.toNat, by omega⟩
          have ST : Hid (getStrs bs = andThenS (out ++ [x]) (m + us) (getNS (N - (j+1)) (bs.drop (m + us)))) := by
            rw [Hid, hh.out, NX.out, andThenS_step out m _ _ _ HR2.out rfl]; simp
          have LO : out.length ≤ N := by rw [HO.out]; omega
          clear ok hh NX
          have ec : ¬ cap = m := by omega
          all_goals have HV' := HV.out
          all_goals first | rw [if_pos ec] at HV' | rw [if_neg ec] at HV'
          all_goals have HVV := Hid.mk HV'
          all_goals clear HV'
          all_goals
            go_wp2_with (first | (at_builtin; refine wp_push (.tmp 41) (.tmp 43) 58 _ 9 16 _ elemStr rfl rfl Tryd.underlying58 w.heap.size _ (.string x) _ rfl hown.drewN rfl rfl (by simp [maxLen]; omega) (by simp; omega) hb2 ?_; intro v' w' hown' hb') | (go_at_call 69; refine (wireGetBytes _ (bs.drop m) _ (by first | exact HVV.out | (have h := HVV.out; simp [ec] at h ⊢; exact h)) (hby.drop m)).mono ?_; rintro e w' ⟨rfl, q, rfl⟩; rw [HR2.out]))
            go_roundw
            case rel => exact ⟨j + 1, m + us, out ++ [x], by omega, by omega, by omega, by simp [HO.out], by go_num, by go_num, by simpa using hown', (HB.out.trans ((Still.one _ _).below _)).trans hb', ST⟩
            case measure => simp [intOf]; omega
        · have g2' : (e2 == 0) = false := by simpa using g2
          have ST : Hid (getStrs bs = ([], 0, e2)) := by
            rw [Hid, hh.out, NX.out, andThenS_err out m _ _ _ HR2.out g2]
          clear ok hh NX
          by_cases ec : cap = m
          all_goals have HV' := HV.out
          all_goals first | rw [if_pos ec] at HV' | rw [if_neg ec] at HV'
          all_goals have HVV := Hid.mk HV'
          all_goals clear HV'
          all_goals
            go_wp2_with (go_at_call 69; refine (wireGetBytes _ (bs.drop m) _ (by first | exact HVV.out | (have h := HVV.out; simp [ec] at h ⊢; exact h)) (hby.drop m)).mono ?_; rintro e w' ⟨rfl, q, rfl⟩; rw [HR2.out])
            go_ret3
            exact MadeStrsN.mk ST.out (Own.nil _ _ _) (HB.out.trans ((Still.one _ _).below _))
      · have DN : Hid (getStrs bs = (out, (m : Int), 0)) := by
          rw [Hid, hh.out, show N - j = 0 by omega, andThenS_done]
        go_wp2
        go_ret3
        exact MadeStrsN.mk DN.out hown HB.out
  · have g' : (er == 0) = false := by simpa using g
    have L2 : Hid (getStrs bs = ([], 0, er)) := by rw [Hid, L.out, if_pos g]
    go_enter Tryd.func68, Tryd.ntmps68
    go_wp2_with (go_at_call 102; refine (wireLength _ bs _ _ hv hby (by omega) (by omega)).mono ?_; rintro e w' ⟨rfl, k, rfl⟩; rw [HR.out])
    go_ret3
    exact MadeStrsN.mk L2.out (Own.nil _ _ _) ((Still.one _ _).below _)

theorem wireGetStrings (v : Value) (bs : List Int) (w : World) (hv : Bytes w v bs) (hby : Byte bs) (hl : bs.length ≤ 1000000000) : Calls Tryd.prog 27 #[v] w (MadeStrsN w (getStrs bs)) := by
  go_enter Tryd.func27, Tryd.ntmps27
  go_wp2_with (go_at_call 68; refine (wireGetSt _ bs _ hv hby hl).mono ?_; rintro e w1 ⟨v1, rfl, ho1, hb1⟩)
  go_ret3
  exact ⟨_, rfl, ho1, hb1⟩

end Go.Proofs.YtnjopfjmepbpoaaDoor

/- Pure states: contracts over memory as contracts over pure values. -/
namespace Go.Proofs.YtnjopfjmepbpoaaDoor
set_option linter.unusedSimpArgs false
set_option linter.unusedVariables false
set_option linter.unnecessarySimpa false
open Go.RowKit

def pattrL (a : PAttr) : List PV := [pstr a.name, pint a.kind, pint a.n, pstr a.s]
def pattrs (l : List PAttr) : PV := .sl l.length 4 (l.flatMap pattrL) none
def pdefL (d : PDef) : List PV := [pstr d.name, pint d.kind, pint d.lo, pint d.hi, pstrs d.words]
def pdefs (l : List PDef) : PV := .sl l.length 5 (l.flatMap pdefL) none
def pschema (s : PSchema) : PV := .agg [pint s.dims, pint s.metric, pdefs s.defs]
def pentry (e : PEntry) : PV := .agg [pint e.id, pint e.ver, pint e.owner, pint e.filed, pint e.frm, pint e.to, pint e.born, pints e.vec, pattrs e.attrs]

theorem one_pattrs (l : List PAttr) : (l.flatMap pattrL).all PV.one = true := by
  rw [List.all_eq_true]
  intro c hc
  obtain ⟨a, -, h⟩ := List.mem_flatMap.1 hc
  simp [pattrL] at h
  rcases h with rfl | rfl | rfl | rfl <;> rfl
theorem low_pattrL (a : PAttr) : ∀ c ∈ pattrL a, Low c := by intro c hc; simp [pattrL] at hc; rcases hc with rfl | rfl | rfl | rfl <;> exact .val _
theorem low_pattrs (l : List PAttr) : Low (pattrs l) ↔ True := ⟨fun _ => trivial, fun _ => .sl _ _ _ _ (fun c hc => by obtain ⟨a, -, h⟩ := List.mem_flatMap.1 hc; exact low_pattrL a c h)⟩
theorem low_pdefL (d : PDef) : ∀ c ∈ pdefL d, Low c := by
  intro c hc; simp [pdefL] at hc
  rcases hc with rfl | rfl | rfl | rfl | rfl
  · exact .val _
  · exact .val _
  · exact .val _
  · exact .val _
  · exact (low_pstrs _).2 trivial
theorem low_pdefs (l : List PDef) : Low (pdefs l) ↔ True := ⟨fun _ => trivial, fun _ => .sl _ _ _ _ (fun c hc => by obtain ⟨a, -, h⟩ := List.mem_flatMap.1 hc; exact low_pdefL a c h)⟩
theorem low_pschema (s : PSchema) : Low (pschema s) ↔ True := ⟨fun _ => trivial, fun _ => .agg _ (by
  intro c hc; simp at hc
  rcases hc with rfl | rfl | rfl
  · exact .val _
  · exact .val _
  · exact (low_pdefs _).2 trivial)⟩
theorem low_pentry (s : PEntry) : Low (pentry s) ↔ True := ⟨fun _ => trivial, fun _ => .agg _ (by
  intro c hc; simp at hc
  rcases hc with rfl | rfl | rfl | rfl | rfl | rfl | rfl | rfl | rfl
  · exact .val _
  · exact .val _
  · exact .val _
  · exact .val _
  · exact .val _
  · exact .val _
  · exact .val _
  · exact (low_pints _).2 trivial
  · exact (low_pattrs _).2 trivial)⟩

section
variable {Φ : Imm} {μ : Nat → Option Nat} {w : World} (himm : ∀ b o u, Φ b o = some u → w.cell? ⟨b, o, none⟩ = some u)
include himm

theorem rd_of_rep {α : Type} {f : α → Value} {l : List α} {n : Nat} {own : Option TypeId} {v : Value} (h : Rep Φ μ (.sl n 1 (l.map fun x => .val (f x)) own) v) : Rd w v (l.map f) := by
  obtain ⟨a, b, off, cap, us, rfl, h1, h2, h3, h4, h5, h6⟩ := h.sl_inv
  have hn : n = l.length := by simpa using h3.symm
  subst hn
  refine ⟨a, cap, b, off, by simp, by simpa using h1, h2, by simpa using h4, fun j u hu => ?_⟩
  have hj : j < l.length := by have := (List.getElem?_eq_some_iff.1 hu).1; simpa using this
  have hr := h6 j (.val (f l[j])) (by simp [hj])
  obtain ⟨e, -⟩ := hr.val_inv
  have := himm _ _ _ (h5 j (by simpa using hj))
  rw [this, e]
  simp [hj] at hu
  rw [hu]
theorem ints_of_rep {zs : List Int} {v : Value} (h : Rep Φ μ (pints zs) v) : Ints w v zs := rd_of_rep himm h
theorem strs_of_rep {zs : List ByteArray} {v : Value} (h : Rep Φ μ (pstrs zs) v) : Strs w v zs := rd_of_rep himm h
theorem bytes_of_rep {zs : List Int} {v : Value} (h : Rep Φ μ (pbytes zs) v) : Bytes w v zs := rd_of_rep himm h

theorem rdS_of_rep {α : Type} {c : α → List Value} {k : Nat} (hk : ∀ x, (c x).length = k) {l : List α} {own : Option TypeId} {v : Value} (h : Rep Φ μ (.sl l.length k (l.flatMap fun x => (c x).map .val) own) v) : RdS w v k (l.map c) := by
  obtain ⟨a, b, off, cap, us, rfl, h1, h2, h3, h4, h5, h6⟩ := h.sl_inv
  refine ⟨a, cap, b, off, by simp, by simpa using h1, h2, by simpa using h4, fun i j r u hr hu => ?_⟩
  rw [List.getElem?_map] at hr
  obtain ⟨x, hx, rfl⟩ := Option.map_eq_some_iff.1 hr
  have hget := flatMap_get (f := fun x => (c x).map PV.val) (k := k) (by intro x; simp [hk]) hx (m := j) (c := .val u) (by simp [hu])
  have hlt := (List.getElem?_eq_some_iff.1 hget).1
  obtain ⟨e, -⟩ := (h6 _ _ hget).val_inv
  have := himm _ _ _ (h5 _ hlt)
  rw [← Nat.add_assoc] at this
  rw [this, e]
theorem attrs_of_rep {l : List PAttr} {v : Value} (h : Rep Φ μ (pattrs l) v) : Attrs w v l := rdS_of_rep himm (c := attrC) (fun _ => rfl) h

theorem defs_of_rep {l : List PDef} {v : Value} (h : Rep Φ μ (pdefs l) v) : Defs w v l := by
  obtain ⟨a, b, off, cap, us, rfl, h1, h2, h3, h4, h5, h6⟩ := h.sl_inv
  refine ⟨a, cap, b, off, rfl, h1, h2, h4, fun i d hd => ?_⟩
  have cell : ∀ (m : Nat) (c : PV), (pdefL d)[m]? = some c → w.cell? ⟨b, off + i * 5 + m, none⟩ = some (us (i * 5 + m)) ∧ Rep Φ μ c (us (i * 5 + m)) := by
    intro m c hc
    have hget := flatMap_get (f := pdefL) (k := 5) (fun _ => rfl) hd hc
    have hlt := (List.getElem?_eq_some_iff.1 hget).1
    have := himm _ _ _ (h5 _ hlt)
    rw [← Nat.add_assoc] at this
    exact ⟨this, h6 _ _ hget⟩
  obtain ⟨c0, r0⟩ := cell 0 _ rfl
  obtain ⟨c1, r1⟩ := cell 1 _ rfl
  obtain ⟨c2, r2⟩ := cell 2 _ rfl
  obtain ⟨c3, r3⟩ := cell 3 _ rfl
  obtain ⟨c4, r4⟩ := cell 4 _ rfl
  refine ⟨us (i * 5 + 4), ⟨by rw [Nat.add_zero] at c0; rw [c0, r0.val_inv.1], by rw [c1, r1.val_inv.1], by rw [c2, r2.val_inv.1], by rw [c3, r3.val_inv.1], c4⟩, strs_of_rep himm r4⟩
theorem schema_of_rep {s : PSchema} {v : Value} (h : Rep Φ μ (pschema s) v) : SchemaV w v s := by
  obtain ⟨us, rfl, hr⟩ := h.agg_inv
  match us, hr with
  | [a, b, c], hr =>
    have h0 := (hr.2 0 _ _ rfl rfl).val_inv.1
    have h1 := (hr.2 1 _ _ rfl rfl).val_inv.1
    have h2 := hr.2 2 _ _ rfl rfl
    subst h0 h1
    exact ⟨c, rfl, defs_of_rep himm h2⟩
  | [], hr => exact absurd hr.1 (by simp)
  | [_], hr => exact absurd hr.1 (by simp)
  | [_, _], hr => exact absurd hr.1 (by simp)
  | _ :: _ :: _ :: _ :: _, hr => exact absurd hr.1 (by simp)
theorem entry_of_rep {e : PEntry} {v : Value} (h : Rep Φ μ (pentry e) v) : EntryV w v e := by
  obtain ⟨us, rfl, hr⟩ := h.agg_inv
  have hl := hr.1
  simp only [List.length_cons, List.length_nil] at hl
  have g : ∀ j (h : j < 9), us[j]? = some (us[j]'(by omega)) := fun j h => by simp [hl, h]
  obtain ⟨x0, x1, x2, x3, x4, x5, x6, x7, x8, rfl⟩ : ∃ x0 x1 x2 x3 x4 x5 x6 x7 x8, us = [x0, x1, x2, x3, x4, x5, x6, x7, x8] := by
    match us, hl with
    | [x0, x1, x2, x3, x4, x5, x6, x7, x8], _ => exact ⟨x0, x1, x2, x3, x4, x5, x6, x7, x8, rfl⟩
  have h0 := (hr.2 0 _ _ rfl rfl).val_inv.1
  have h1 := (hr.2 1 _ _ rfl rfl).val_inv.1
  have h2 := (hr.2 2 _ _ rfl rfl).val_inv.1
  have h3 := (hr.2 3 _ _ rfl rfl).val_inv.1
  have h4 := (hr.2 4 _ _ rfl rfl).val_inv.1
  have h5 := (hr.2 5 _ _ rfl rfl).val_inv.1
  have h6 := (hr.2 6 _ _ rfl rfl).val_inv.1
  have h7 := hr.2 7 _ _ rfl rfl
  have h8 := hr.2 8 _ _ rfl rfl
  subst h0 h1 h2 h3 h4 h5 h6
  exact ⟨x7, x8, rfl, ints_of_rep himm h7, attrs_of_rep himm h8⟩

theorem post_flat {w' : World} {post : PV → Prop} {r : PV} {v : Value} (hr : Rep Φ mu0 r v) (hf : r.ownB = false) (hp : post r) (hb : Below w.heap.size w w') : CallPost Φ w post (.returned v) w' := by
  refine ⟨r, v, Φ, rfl, hp, hr, fun b o u e => below_cell hb (himm b o u e), fun _ _ _ => rfl, hb, fun n k cs E e => ?_⟩
  rw [e] at hf; simp [PV.ownB] at hf

/-- A new slice as a pure value. -/
theorem own_rep {w' : World} {E : TypeId} {v : Value} {α : Type} {f : α → Value} {l : List α} (hplain : ∀ x, plainV (f x) = true) (ho : Own w.heap.size E w' v (l.map f)) (hb : Below w.heap.size w w') (hE : E < 1000000 := by decide) :
    ∃ Φ' : Imm, (∀ b o u, Φ' b o = some u → w'.cell? ⟨b, o, none⟩ = some u) ∧ (∀ b o, b < w.heap.size → Φ' b o = Φ b o) ∧ Rep Φ' mu0 (.sl l.length 1 (l.map fun x => .val (f x)) (some E)) v ∧ OwnAt (fun g => w.heap.size ≤ g) Φ' (fun _ => some (.tmp 0)) w' (.tmp 0) l.length 1 E v := by
  have himm' : ∀ b o u, Φ b o = some u → w'.cell? ⟨b, o, none⟩ = some u := fun b o u e => below_cell hb (himm b o u e)
  have hfr : ∀ b o u, Φ b o = some u → b < w.heap.size := fun b o u e => World.block_lt_of_cell? _ _ (himm b o u e)
  rcases ho.2 with ⟨rfl, hn⟩ | ⟨g, cap, cur, rfl, hBg, hgg, hc, hm, hs, ht⟩
  · have hl : l = [] := List.eq_nil_of_length_eq_zero (by simpa using hn)
    subst hl
    exact ⟨Φ, himm', fun _ _ _ => rfl, .sl0 _ _ _ _ (by unfold maxLen; omega), .inl ⟨rfl, rfl⟩⟩
  · simp only [List.length_map, Nat.mul_one] at hc ht hs
    refine ⟨fun b o => if b = g then (l.map f)[o]? else Φ b o, ?_, ?_, ?_, ?_⟩
    · intro b o u e
      by_cases hbg : b = g
      · subst hbg
        simp only [if_true] at e
        rw [← ht, List.getElem?_take] at e
        split at e
        · simp only [World.cell?, hgg]; simpa using e
        · cases e
      · simp only [if_neg hbg] at e; exact himm' b o u e
    · intro b o hbo; simp only; rw [if_neg (by omega)]
    · have hlen : (Value.slice (some ⟨g, 0, none⟩) (l.map f).length cap) = .slice (some ⟨g, 0, none⟩) l.length cap := by simp
      rw [hlen]
      refine .sl _ _ _ _ g 0 cap (fun j => ((l.map f)[j]?).getD undef) (by simp) hc hm (fun j hj => ?_) (fun j c hcj => ?_)
      · have hj' : j < l.length := by simpa using hj
        simp [hj']
      · rw [List.getElem?_map] at hcj
        obtain ⟨x, hx, rfl⟩ := Option.map_eq_some_iff.1 hcj
        simp only [List.getElem?_map, hx, Option.map_some, Option.getD_some]
        exact .val _ (hplain x)
    · refine .inr (.inl ⟨g, cap, cur, by simp, hBg, hgg, hc, hm, by simpa using hs, rfl, hE, fun j hj => ?_⟩)
      simp only [if_true]
      rw [List.getElem?_eq_none (by simp; omega)]

theorem post_own {w' : World} {E : TypeId} {v : Value} {α : Type} {f : α → Value} {l : List α} (hplain : ∀ x, plainV (f x) = true) (ho : Own w.heap.size E w' v (l.map f)) (hb : Below w.heap.size w w') (hE : E < 1000000 := by decide) : CallPost Φ w (· = .sl l.length 1 (l.map fun x => .val (f x)) (some E)) (.returned v) w' := by
  obtain ⟨Φ', h1, h2, h3, h4⟩ := own_rep himm hplain ho hb hE
  refine ⟨_, v, Φ', rfl, rfl, h3, h1, h2, hb, fun n k cs E' e => ?_⟩
  cases e
  exact h4

theorem post_tup3 {w' : World} {E : TypeId} {v : Value} {α : Type} {f : α → Value} {l : List α} {x y : Int} (hplain : ∀ x, plainV (f x) = true) (ho : Own w.heap.size E w' v (l.map f)) (hb : Below w.heap.size w w') (hE : E < 1000000 := by decide) :
    CallPost Φ w (· = .tup [.sl l.length 1 (l.map fun x => .val (f x)) none, pint x, pint y]) (.returned (.tuple #[v, .int .i64 x, .int .i64 y])) w' := by
  obtain ⟨Φ', h1, h2, h3, h4⟩ := own_rep himm hplain ho hb hE
  exact ⟨_, _, Φ', rfl, rfl, (RepL.cons h3.bare (RepL.cons (.val _ rfl) (RepL.cons (.val _ rfl) RepL.nil))).tup, h1, h2, hb, fun n k cs E' e => by cases e⟩
end

/-- A contract over memory as one over pure values: one argument. -/
theorem pcalls1 {P : Program} {f : FuncId} {p : PV} {post : PV → Prop} (hc : callB P f = true) (h : ∀ (Φ : Imm) (μ : Nat → Option Nat) (w : World) (v : Value), (∀ b o u, Φ b o = some u → w.cell? ⟨b, o, none⟩ = some u) → Rep Φ μ p v → Calls P f #[v] w (CallPost Φ w post)) : PCalls P f [p] post := by
  refine ⟨hc, fun Φ μ w vs himm hgl hr => ?_⟩
  match vs, hr with
  | [v], hr => exact h Φ μ w v himm (hr.2 0 _ _ rfl rfl)
  | [], hr => exact absurd hr.1 (by simp)
  | _ :: _ :: _, hr => exact absurd hr.1 (by simp)
theorem pcalls2 {P : Program} {f : FuncId} {p q : PV} {post : PV → Prop} (hc : callB P f = true) (h : ∀ (Φ : Imm) (μ : Nat → Option Nat) (w : World) (v u : Value), (∀ b o u, Φ b o = some u → w.cell? ⟨b, o, none⟩ = some u) → Rep Φ μ p v → Rep Φ μ q u → Calls P f #[v, u] w (CallPost Φ w post)) : PCalls P f [p, q] post := by
  refine ⟨hc, fun Φ μ w vs himm hgl hr => ?_⟩
  match vs, hr with
  | [v, u], hr => exact h Φ μ w v u himm (hr.2 0 _ _ rfl rfl) (hr.2 1 _ _ rfl rfl)
  | [], hr => exact absurd hr.1 (by simp)
  | [_], hr => exact absurd hr.1 (by simp)
  | _ :: _ :: _ :: _, hr => exact absurd hr.1 (by simp)
end Go.Proofs.YtnjopfjmepbpoaaDoor

/- New slices of numbers and bytes. -/
namespace Go.Proofs.YtnjopfjmepbpoaaDoor
set_option linter.unusedSimpArgs false
set_option linter.unusedVariables false
set_option linter.unnecessarySimpa false
open Go.RowKit

/-- A new slice: what it reads as. -/
def pintsO (zs : List Int) : PV := .sl zs.length 1 (zs.map pint) (some 3)
def pbytesO (zs : List Int) : PV := .sl zs.length 1 (zs.map pbyte) (some 5)
end Go.Proofs.YtnjopfjmepbpoaaDoor

/- The hash: digests of parts. -/
namespace Go.Proofs.YtnjopfjmepbpoaaDoor
set_option linter.unusedSimpArgs false
set_option linter.unusedVariables false
set_option linter.unnecessarySimpa false
open Go.RowKit

def beginS : Strm := ⟨⟨1779033703, 3144134277, 1013904242, 2773480762, 1359893119, 2600822924, 528734635, 1541459225⟩, List.replicate 64 0, 0⟩
set_option maxRecDepth 10000 in
set_option maxHeartbeats 2000000 in
theorem pw_begin : PCalls Tryd.prog 81 [] (· = .agg (pS beginS)) := by
  refine pcalls_of_pw typeTab_ok Tryd.func81 rfl (by kernel_rfl) (by simp) (by simp) (Nat.le_of_ble_eq_true rfl) ?_
  refine wk ?_
  exact ⟨_, presult1 (pres_cell rfl rfl rfl rfl rfl), .agg _ (low_pS beginS), rfl⟩

theorem pcWBytes (s : ByteArray) (hl : s.size ≤ 1000000000) : PCalls Tryd.prog 78 [pstr s] (· = pbytesO (strB s)) :=
  pcalls1 (by kernel_rfl) fun Φ μ w v himm hr => by
    obtain ⟨rfl, -⟩ := hr.val_inv
    exact (wireBytes s w hl).mono (by
    rintro e w' ⟨u, rfl, ho, hb⟩
    exact post_own himm (fun _ => rfl) ho hb)

def partsS (ks : List Int) : Strm → List ByteArray → Strm
  | s, [] => s
  | s, p :: l => partsS ks (addS ks s (strB p)) l
def ofS (ks : List Int) (tag : Int) (l : List ByteArray) : List Int := (sumS ks (partsS ks (addS ks beginS [IntKind.u8.wrap tag]) l)).take 16
theorem addS_n (ks : List Int) : ∀ (n : Nat) (s : Strm) (bs : List Int), bs.length = n → (addS ks s bs).n = s.n + bs.length := by
  intro n
  induction n using Nat.strongRecOn with
  | _ n ih =>
    intro s bs hl
    by_cases h0 : bs = []
    · subst h0; rw [addS_nil]; rfl
    · have h1 : bs.length ≠ 0 := fun e => h0 (List.eq_nil_of_length_eq_zero e)
      have h2 := Nat.mod_lt s.n (show 0 < 64 by omega)
      rw [addS_cons ks s h0, ih _ (by rw [← hl, List.length_drop]; omega) _ _ rfl, turn_n, List.length_take, List.length_drop]
      omega
theorem partsS_snoc (ks : List Int) : ∀ (l : List ByteArray) (s : Strm) (p : ByteArray), partsS ks s (l ++ [p]) = addS ks (partsS ks s l) (strB p)
  | [], s, p => rfl
  | q :: l, s, p => by rw [List.cons_append, partsS, partsS, partsS_snoc ks l]
theorem partsS_ok (ks : List Int) (s : Strm) (hs : s.blk.length = 64) (l : List ByteArray) (hl : SmallStrs l) : (partsS ks s l).blk.length = 64 ∧ (partsS ks s l).n ≤ s.n + l.length * 1000010 := by
  induction l generalizing s with
  | nil => exact ⟨hs, by simp [partsS]⟩
  | cons p l ih =>
    have h1 := ih (addS ks s (strB p)) (addS_len ks _ s (strB p) rfl hs) (fun x hx => hl x (List.mem_cons_of_mem _ hx))
    have h2 := (strB_len p (hl p (List.mem_cons_self ..))).2
    have h3 := addS_n ks _ s (strB p) rfl
    refine ⟨h1.1, ?_⟩
    have h4 := h1.2
    rw [partsS, List.length_cons]
    omega
theorem leb_byte (n : Nat) : ∀ z, z < n → ∀ c ∈ leb z, 0 ≤ c ∧ c < 256 := by
  induction n with
  | zero => intro z h; omega
  | succ n ih =>
    intro z hz c hc
    by_cases h : z < 128
    · rw [leb_small z h] at hc; simp at hc; subst hc; omega
    · rw [leb_big z (by omega)] at hc
      rcases List.mem_cons.1 hc with rfl | hc
      · omega
      · exact ih (z / 128) (by omega) c hc
theorem intB_byte (n : Int) : ∀ c ∈ intB n, 0 ≤ c ∧ c < 256 := leb_byte _ _ (Nat.lt_succ_self _)
theorem strB_byte (p : ByteArray) (h : p.size ≤ 1000000) : ∀ c ∈ strB p, 0 ≤ c ∧ c < 256 := by
  intro c hc
  rcases List.mem_append.1 hc with h | h
  · exact intB_byte _ c h
  · exact bytesL_byte p c h

set_option maxRecDepth 10000 in
set_option maxHeartbeats 2000000 in
theorem pw_of (tag : Int) (l : List ByteArray) (hl : l.length ≤ 1000000) (hs : SmallStrs l) : PCalls Tryd.prog 38 [pint tag, pstrs l] (· = .agg ((ofS glob0 tag l).map pbyte)) := by
  refine pcalls_of_pw typeTab_ok Tryd.func38 rfl (by kernel_rfl) (by exact lw) (by simp [pint, pstrs, PV.ownB]) (Nat.le_of_ble_eq_true rfl) ?_
  have hb := pw_begin
  have ha := pw_add beginS [IntKind.u8.wrap tag] rfl (by intro c hc; simp at hc; subst hc; rw [IntKind.wrap_u8]; omega) (by simp [beginS])
  have h0l := addS_len glob0 _ beginS [IntKind.u8.wrap tag] rfl rfl
  have h0n := addS_n glob0 _ beginS [IntKind.u8.wrap tag] rfl
  rw [show ofS glob0 tag l = (sumS glob0 (partsS glob0 (addS glob0 beginS [IntKind.u8.wrap tag]) l)).take 16 from rfl]
  obtain ⟨s0, hs0⟩ : ∃ s0, s0 = addS glob0 beginS [IntKind.u8.wrap tag] := ⟨_, rfl⟩
  rw [← hs0] at ha h0l h0n ⊢
  have h0n' : s0.n = 1 := h0n
  have l0 := low_pS s0
  have hok := fun i => partsS_ok glob0 s0 h0l (l.take i) (fun x hx => hs x (List.mem_of_mem_take hx))
  refine wk ?_
  refine PWops.stAll rfl rfl rfl rfl rfl rfl rfl rfl rfl (len_pS h0l) rfl (one_pS s0) (bare_pS s0) ?_
  refine wk ?_
  refine PW.loop (fun i : Nat => (((((((bot.setb 0 (List.replicate 16 (pbyte 0))).put 4 (.ptr 0 0)).setb 1006 (pS (partsS glob0 s0 (l.take i)))).put 5 (.ptr 1006 0)).put 15 (pstrs l)).put 16 (pint l.length)).put 17 (pint i))) (fun i => i ≤ l.length) (fun i => l.length - i) 0 (by omega) ?_ ?_
  · exact sb
  · intro i hi
    have hoi := hok i
    have hti : (l.take i).length = i := by rw [List.length_take]; omega
    rw [hti] at hoi
    have li := low_pS (partsS glob0 s0 (l.take i))
    by_cases hlt : i < l.length
    · have hsm : (l.getD i default).size ≤ 1000000 := hs _ (by rw [List.getD_eq_getElem?_getD, List.getElem?_eq_getElem hlt]; exact List.getElem_mem hlt)
      have hpl := (strB_len (l.getD i default) hsm).2
      have hw := pcWBytes (l.getD i default) (by omega)
      have hadd := pw_add (partsS glob0 s0 (l.take i)) (strB (l.getD i default)) hoi.1 (strB_byte _ hsm) (by have := hoi.2; omega)
      have hnx : partsS glob0 s0 (l.take (i + 1)) = addS glob0 (partsS glob0 s0 (l.take i)) (strB (l.getD i default)) := by rw [take_getD default hlt, partsS_snoc]
      have hal := addS_len glob0 _ _ (strB (l.getD i default)) rfl hoi.1
      rw [← hnx] at hadd hal
      have li2 := low_pS (partsS glob0 s0 (l.take (i + 1)))
      refine wk ?_
      refine PWops.ldAll rfl rfl rfl rfl rfl rfl rfl (len_pS hoi.1) (bare_pS _) ?_
      refine wk ?_
      refine PWops.stAll rfl rfl rfl rfl rfl rfl rfl rfl rfl (len_pS hal) (len_pS hoi.1) (one_pS _) (bare_pS _) ?_
      refine wk ?_
      refine loopP (i + 1) (by omega) (by omega) ?_
      exact sb
    · have e : i = l.length := by omega
      subst e
      rw [List.take_length] at hoi li ⊢
      have hsum := pw_sum (partsS glob0 s0 l) hoi.1 (by have := hoi.2; omega)
      have hsl : (sumS glob0 (partsS glob0 s0 l)).length = 32 := outW_len _ _
      clear hok ha hs0 hb h0n hi
      generalize partsS glob0 s0 l = u at *
      generalize sumS glob0 u = D at *
      refine wk ?_
      refine PWops.ldAll rfl rfl rfl rfl rfl rfl rfl (len_pS hoi.1) (bare_pS _) ?_
      refine wk ?_
      refine PWops.ldBA (row := (D.take 16).map pbyte) rfl rfl rfl rfl rfl rfl rfl (by rw [List.length_map, hsl]; decide) (by show List.map PV.bare (List.take 16 (List.drop 0 (List.map pbyte D))) = _; rw [List.drop_zero, ← List.map_take, bare_map (fun _ => rfl)]) ?_
      have htl : (D.take 16).length = 16 := by rw [List.length_take, hsl]; rfl
      refine PWops.stAll rfl rfl rfl rfl rfl rfl rfl rfl rfl (len_map htl) rfl (one_map (fun _ => rfl) _) (bare_map (fun _ => rfl) _) ?_
      refine wk ?_
      exact ⟨_, presult1 (pres_cell rfl rfl rfl (len_map htl) (bare_map (fun _ => rfl) _)), .agg _ (low_map (fun _ => Low.val _) _), rfl⟩
end Go.Proofs.YtnjopfjmepbpoaaDoor

/- The hash: piece by piece is as a whole. -/
namespace Go.Proofs.YtnjopfjmepbpoaaDoor
set_option linter.unusedSimpArgs false
set_option linter.unusedVariables false
set_option linter.unnecessarySimpa false
open Go.RowKit

/-- The hash value after blocks. -/
def blksH (ks : List Int) (s : H8) (m : List Int) : H8 :=
  if m.length < 64 then s else blksH ks (cmpH ks s (m.take 64)) (m.drop 64)
termination_by m.length
decreasing_by
  rw [List.length_drop]
  omega
theorem blksH_lt (ks : List Int) (s : H8) {m : List Int} (h : m.length < 64) : blksH ks s m = s := by rw [blksH, if_pos h]
theorem blksH_step (ks : List Int) (s : H8) {m : List Int} (h : 64 ≤ m.length) : blksH ks s m = blksH ks (cmpH ks s (m.take 64)) (m.drop 64) := by rw [blksH, if_neg (by omega)]
theorem blksH_append (ks : List Int) (x : List Int) : ∀ (n : Nat) (m : List Int) (s : H8), m.length = n → m.length % 64 = 0 → blksH ks s (m ++ x) = blksH ks (blksH ks s m) x := by
  intro n
  induction n using Nat.strongRecOn with
  | _ n ih =>
    intro m s hn hm
    by_cases h0 : m.length < 64
    · have : m = [] := List.eq_nil_of_length_eq_zero (by omega)
      subst this
      rw [blksH_lt ks s (m := []) (by simp)]; rfl
    · rw [blksH_step ks s (by rw [List.length_append]; omega), blksH_step ks s (m := m) (by omega), List.take_append_of_le_length (by omega), List.drop_append_of_le_length (by omega)]
      exact ih (m.length - 64) (by omega) _ _ (by rw [List.length_drop]) (by rw [List.length_drop]; omega)

/-- What a message has come to. -/
structure OkS (ks : List Int) (s : Strm) (m : List Int) : Prop where
  n : s.n = m.length
  bl : s.blk.length = 64
  st : ∃ a r, m = a ++ r ∧ a.length % 64 = 0 ∧ r.length < 64 ∧ s.st = blksH ks beginS.st a ∧ s.blk.take r.length = r
theorem OkS.begin (ks : List Int) : OkS ks beginS [] := ⟨rfl, rfl, [], [], rfl, rfl, by simp, by rw [blksH_lt ks _ (by simp)], by simp⟩
theorem OkS.turn {ks : List Int} {s : Strm} {m x : List Int} (h : OkS ks s m) (hx : s.n % 64 + x.length ≤ 64) : OkS ks (s.turn ks x) (m ++ x) := by
  obtain ⟨h1, h2, a, r, e, ha, hr, hs, hb⟩ := h
  have hn : s.n % 64 = r.length := by rw [h1, e, List.length_append]; omega
  refine ⟨by rw [turn_n, h1, List.length_append], turn_len h2 hx, ?_⟩
  have hbk : splI s.blk (s.n % 64) x = r ++ x ++ s.blk.drop (r.length + x.length) := by rw [splI, hn, hb]
  by_cases hf : s.n % 64 + x.length = 64
  · refine ⟨a ++ (r ++ x), [], by rw [e]; simp, by simp only [List.length_append]; omega, by simp, ?_, by simp⟩
    have hd : s.blk.drop (r.length + x.length) = [] := List.drop_eq_nil_of_le (by omega)
    rw [Strm.turn, if_pos hf, Strm.put, Strm.full]
    simp only
    rw [hbk, hd, List.append_nil, hs, blksH_append ks _ _ a _ rfl ha, blksH_step ks _ (m := r ++ x) (by rw [List.length_append]; omega), List.take_of_length_le (by rw [List.length_append]; omega), blksH_lt ks _ (m := List.drop _ _) (by rw [List.length_drop, List.length_append]; omega)]
  · refine ⟨a, r ++ x, by rw [e]; simp, ha, by rw [List.length_append]; omega, ?_, ?_⟩
    · rw [Strm.turn, if_neg hf, Strm.put, hs]
    · rw [turn_blk, hbk, List.take_left' rfl]
theorem OkS.add {ks : List Int} : ∀ (n : Nat) (s : Strm) (m bs : List Int), bs.length = n → OkS ks s m → OkS ks (addS ks s bs) (m ++ bs) := by
  intro n
  induction n using Nat.strongRecOn with
  | _ n ih =>
    intro s m bs hl h
    by_cases h0 : bs = []
    · subst h0; rw [addS_nil, List.append_nil]; exact h
    · have h1 : bs.length ≠ 0 := fun e => h0 (List.eq_nil_of_length_eq_zero e)
      have h2 := Nat.mod_lt s.n (show 0 < 64 by omega)
      rw [addS_cons ks s h0]
      have h3 := h.turn (x := bs.take (64 - s.n % 64)) (by rw [List.length_take]; omega)
      have h4 := ih _ (by rw [← hl, List.length_drop]; omega) _ _ (bs.drop (64 - s.n % 64)) rfl h3
      rw [List.append_assoc, List.take_append_drop] at h4
      exact h4
theorem OkS.parts {ks : List Int} : ∀ (l : List ByteArray) (s : Strm) (m : List Int), OkS ks s m → OkS ks (partsS ks s l) (m ++ l.flatMap strB)
  | [], s, m, h => by rw [partsS, List.flatMap_nil, List.append_nil]; exact h
  | p :: l, s, m, h => by
    rw [partsS, List.flatMap_cons, ← List.append_assoc]
    exact OkS.parts l _ _ (OkS.add _ s m (strB p) rfl h)
/-- The hash of a message. -/
def shaI (ks : List Int) (m : List Int) : List Int := outW (blksH ks beginS.st (m ++ padI m.length)) 32
theorem OkS.sum {ks : List Int} {s : Strm} {m : List Int} (h : OkS ks s m) : sumS ks s = shaI ks m := by
  have h1 := OkS.add _ s m (padI s.n) rfl h
  obtain ⟨h2, h3, a, r, e, ha, hr, hs, hb⟩ := h1
  have hz : zc s.n = (119 - s.n % 64) % 64 := rfl
  have hl : (m ++ padI s.n).length % 64 = 0 := by rw [List.length_append, padI_len, ← h.n]; omega
  have hr0 : r = [] := by
    apply List.eq_nil_of_length_eq_zero
    have e1 := congrArg List.length e
    have e2 : (a ++ r).length = a.length + r.length := List.length_append
    omega
  subst hr0
  rw [List.append_nil] at e
  rw [sumS, hs, shaI, ← e, h.n]
/-- What is hashed for a digest. -/
def inputI (tag : Int) (l : List ByteArray) : List Int := IntKind.u8.wrap tag :: l.flatMap strB
theorem ofS_eq (ks : List Int) (tag : Int) (l : List ByteArray) : ofS ks tag l = (shaI ks (inputI tag l)).take 16 := by
  have h := OkS.parts l _ _ (OkS.add _ _ _ [IntKind.u8.wrap tag] rfl (OkS.begin ks))
  rw [ofS, h.sum]; rfl
theorem shaI_len (ks m : List Int) : (shaI ks m).length = 32 := outW_len _ _

/-- Words of bytes. -/
theorem orU_nat (x y : Nat) (hx : x < 2 ^ 32) (hy : y < 2 ^ 32) : orU (x : Int) (y : Int) = ((x ||| y : Nat) : Int) := by
  have h1 : x ||| y < 2 ^ 32 := Nat.or_lt_two_pow hx hy
  unfold orU
  rw [show IntKind.u32.bits = 32 from rfl, BitVec.ofInt_natCast, BitVec.ofInt_natCast, BitVec.toNat_or, BitVec.toNat_ofNat, BitVec.toNat_ofNat, Nat.mod_eq_of_lt hx, Nat.mod_eq_of_lt hy, IntKind.wrap_u32]
  omega
theorem orU_add (k x y : Nat) (hy : y < 2 ^ k) (h : 2 ^ k * x + y < 2 ^ 32) : orU ((2 ^ k * x : Nat) : Int) (y : Int) = ((2 ^ k * x + y : Nat) : Int) := by
  rw [orU_nat _ _ (by omega) (by omega), Nat.two_pow_add_eq_or_of_lt hy]
theorem shlU_nat (k x : Nat) (h : 2 ^ k * x < 2 ^ 32) : shlU (x : Int) k = ((2 ^ k * x : Nat) : Int) := by
  unfold shlU
  rw [IntKind.wrap_u32]
  have e : (x : Int) * 2 ^ k = ((2 ^ k * x : Nat) : Int) := by push_cast; rw [Int.mul_comm]
  rw [e]; omega
theorem wrap32_nat (x : Nat) (h : x < 2 ^ 32) : IntKind.u32.wrap (x : Int) = (x : Int) := by rw [IntKind.wrap_u32]; omega
def word4 (a b c d : Int) : Int := orU (orU (orU (shlU (IntKind.u32.wrap a) 24) (shlU (IntKind.u32.wrap b) 16)) (shlU (IntKind.u32.wrap c) 8)) (IntKind.u32.wrap d)
theorem word4_eq {a b c d : Int} (ha : 0 ≤ a ∧ a < 256) (hb : 0 ≤ b ∧ b < 256) (hc : 0 ≤ c ∧ c < 256) (hd : 0 ≤ d ∧ d < 256) : word4 a b c d = beI [a, b, c, d] := by
  obtain ⟨a, rfl⟩ := Int.eq_ofNat_of_zero_le ha.1
  obtain ⟨b, rfl⟩ := Int.eq_ofNat_of_zero_le hb.1
  obtain ⟨c, rfl⟩ := Int.eq_ofNat_of_zero_le hc.1
  obtain ⟨d, rfl⟩ := Int.eq_ofNat_of_zero_le hd.1
  have wa := wrap32_nat a (by omega)
  have wb := wrap32_nat b (by omega)
  have wc := wrap32_nat c (by omega)
  have wd := wrap32_nat d (by omega)
  have l1 : word4 (a : Int) b c d = ((2 ^ 24 * a + 2 ^ 16 * b + 2 ^ 8 * c + d : Nat) : Int) := by
    unfold word4
    rw [wa, wb, wc, wd, shlU_nat 24 a (by omega), shlU_nat 16 b (by omega), shlU_nat 8 c (by omega), orU_add 24 a (2 ^ 16 * b) (by omega) (by omega)]
    rw [show 2 ^ 24 * a + 2 ^ 16 * b = 2 ^ 16 * (2 ^ 8 * a + b) by omega, orU_add 16 (2 ^ 8 * a + b) (2 ^ 8 * c) (by omega) (by omega)]
    rw [show 2 ^ 16 * (2 ^ 8 * a + b) + 2 ^ 8 * c = 2 ^ 8 * (2 ^ 16 * a + 2 ^ 8 * b + c) by omega, orU_add 8 _ d (by omega) (by omega)]
  have l2 : beI [(a : Int), (b : Int), (c : Int), (d : Int)] = ((2 ^ 24 * a + 2 ^ 16 * b + 2 ^ 8 * c + d : Nat) : Int) := by
    simp only [beI, List.foldl_cons, List.foldl_nil]
    rw [wa, wb, wc, wd]
    have z := shlU_nat 8 0 (by omega)
    simp only [Nat.mul_zero] at z
    have z1 := orU_add 8 0 a (by omega) (by omega)
    simp only [Nat.mul_zero, Nat.zero_add] at z1
    rw [show (0 : Int) = ((0 : Nat) : Int) from rfl, z, z1, shlU_nat 8 a (by omega), orU_add 8 a b (by omega) (by omega), shlU_nat 8 _ (by omega), orU_add 8 _ c (by omega) (by omega), shlU_nat 8 _ (by omega), orU_add 8 _ d (by omega) (by omega)]
    congr 1; omega
  rw [l1, l2]
theorem orU_comm (a b : Int) : orU a b = orU b a := by unfold orU; rw [BitVec.or_comm]
theorem xorU_comm (a b : Int) : xorU a b = xorU b a := by unfold xorU; rw [BitVec.xor_comm]
end Go.Proofs.YtnjopfjmepbpoaaDoor

/- The hash of the specification: rotations, the schedule, padding. -/
namespace Go.Proofs.YtnjopfjmepbpoaaDoor
set_option linter.unusedSimpArgs false
set_option linter.unusedVariables false
set_option linter.unnecessarySimpa false
open Go.RowKit

set_option maxRecDepth 10000 in
set_option maxHeartbeats 1000000 in
theorem pw_rotr (x : Int) (r : Nat) (hr : r ∈ [2, 6, 7, 11, 13, 17, 18, 19, 22, 25]) : PCalls Tryd.prog 110 [pu32 x, pint (r : Int)] (· = pu32 (rotI x r)) := by
  refine pcalls_of_pw typeTab_ok Tryd.func110 rfl (by kernel_rfl) (by exact lw) (by simp [pu32, pint, PV.ownB]) (Nat.le_of_ble_eq_true rfl) ?_
  simp only [List.mem_cons, List.not_mem_nil, or_false] at hr
  rcases hr with rfl | rfl | rfl | rfl | rfl | rfl | rfl | rfl | rfl | rfl
  all_goals
    rw [show ∀ r, rotI x r = orU (shrU x r) (shlU x (32 - r)) from fun r => orU_comm _ _]
    refine wk ?_
    refine retP rfl (by exact lw) rfl

theorem mem_getD {l : List Int} {P : Int → Prop} (h : ∀ c ∈ l, P c) {j : Nat} (hj : j < l.length) : P (l.getD j default) := by
  rw [List.getD_eq_getElem?_getD, List.getElem?_eq_getElem hj]; exact h _ (List.getElem_mem hj)
theorem beI_word {b : List Int} (hby : ∀ c ∈ b, 0 ≤ c ∧ c < 256) {t : Nat} (h : 4 * t + 4 ≤ b.length) : beI ((b.drop (4 * t)).take 4) = word4 (b.getD (4 * t) default) (b.getD (4 * t + 1) default) (b.getD (4 * t + 2) default) (b.getD (4 * t + 3) default) := by
  rw [word4_eq (mem_getD hby (by omega)) (mem_getD hby (by omega)) (mem_getD hby (by omega)) (mem_getD hby (by omega))]
  congr 1
  have hl : ((b.drop (4 * t)).take 4).length = 4 := by rw [List.length_take, List.length_drop]; omega
  apply List.ext_getElem?
  intro i
  by_cases hi : i < 4
  · rw [List.getElem?_take, if_pos hi, List.getElem?_drop]
    have hg : b[4 * t + i]? = some (b.getD (4 * t + i) default) := by rw [List.getD_eq_getElem?_getD, List.getElem?_eq_getElem (by omega)]; rfl
    rw [hg]
    match i, hi with
    | 0, _ => rfl
    | 1, _ => rfl
    | 2, _ => rfl
    | 3, _ => rfl
  · rw [List.getElem?_eq_none (by omega), List.getElem?_eq_none (by simp; omega)]

set_option maxRecDepth 10000 in
set_option maxHeartbeats 2000000 in
theorem pw_refWords (b : List Int) (hb : b.length = 64) (hby : ∀ c ∈ b, 0 ≤ c ∧ c < 256) : PCalls Tryd.prog 109 [pbytes b] (· = .agg ((schW b 64).map pu32)) := by
  refine pcalls_of_pw typeTab_ok Tryd.func109 rfl (by kernel_rfl) (by exact lw) (by simp [pbytes, PV.ownB]) (Nat.le_of_ble_eq_true rfl) ?_
  refine wk ?_
  refine PW.loop (fun t : Nat => (((((bot.setb 0 (List.replicate 64 (pu32 0))).put 2 (.ptr 0 0)).setb 1000 ((schW b t).map pu32)).put 3 (.ptr 1000 0)).put 0 (pbytes b)).put 4 (pint t)) (fun t => t ≤ 16) (fun t => 16 - t) 0 (by omega) ?_ ?_
  · exact sb
  · intro t ht
    have hl := schW_len b t
    by_cases h16 : t < 16
    · have hS : (schW b (t + 1)).map pu32 = ((schW b t).set (t : Int).toNat (word4 (b.getD (4 * (t : Int)).toNat default) (b.getD (4 * (t : Int) + 1).toNat default) (b.getD (4 * (t : Int) + 2).toNat default) (b.getD (4 * (t : Int) + 3).toNat default))).map pu32 := by
        rw [schW, if_pos h16, beI_word hby (by omega), show (4 * (t : Int)).toNat = 4 * t by omega, show (4 * (t : Int) + 1).toNat = 4 * t + 1 by omega, show (4 * (t : Int) + 2).toNat = 4 * t + 2 by omega, show (4 * (t : Int) + 3).toNat = 4 * t + 3 by omega, show (t : Int).toNat = t by omega]
      refine wk ?_
      refine loopP (t + 1) (by omega) (by omega) ?_
      exact sb
    · have e : t = 16 := by omega
      refine wk ?_
      subst e
      clear hl ht h16
      refine PW.loop (fun t : Nat => (((((bot.setb 0 (List.replicate 64 (pu32 0))).put 2 (.ptr 0 0)).setb 1000 ((schW b t).map pu32)).put 3 (.ptr 1000 0)).put 0 (pbytes b)).put 5 (pint t)) (fun t => 16 ≤ t ∧ t ≤ 64) (fun t => 64 - t) 16 (by omega) ?_ ?_
      · exact sb
      · intro t ⟨ht1, ht⟩
        have hl := schW_len b t
        by_cases h64 : t < 64
        · have r1 := pw_rotr ((schW b t).getD ((t : Int) - 15).toNat default) 7 (by simp)
          have r2 := pw_rotr ((schW b t).getD ((t : Int) - 15).toNat default) 18 (by simp)
          have r3 := pw_rotr ((schW b t).getD ((t : Int) - 2).toNat default) 17 (by simp)
          have r4 := pw_rotr ((schW b t).getD ((t : Int) - 2).toNat default) 19 (by simp)
          have hS : (schW b (t + 1)).map pu32 = ((schW b t).set (t : Int).toNat (addU (addU (addU ((schW b t).getD ((t : Int) - 16).toNat default) (sigI ((schW b t).getD ((t : Int) - 15).toNat default) 7 18 3)) ((schW b t).getD ((t : Int) - 7).toNat default)) (sigI ((schW b t).getD ((t : Int) - 2).toNat default) 17 19 10))).map pu32 := by
            rw [schW, if_neg (by omega), schV, show ((t : Int) - 16).toNat = t - 16 by omega, show ((t : Int) - 15).toNat = t - 15 by omega, show ((t : Int) - 7).toNat = t - 7 by omega, show ((t : Int) - 2).toNat = t - 2 by omega]; rfl
          refine wk ?_
          refine loopP (t + 1) (by omega) (by omega) ?_
          exact sb
        · have e : t = 64 := by omega
          subst e
          generalize schW b 64 = W at *
          refine wk ?_
          exact ⟨_, presult1 (pres_cell rfl rfl rfl (len_map hl) (bare_map (fun _ => rfl) _)), by exact lw, rfl⟩
end Go.Proofs.YtnjopfjmepbpoaaDoor

/- The hash of the specification: padding. -/
namespace Go.Proofs.YtnjopfjmepbpoaaDoor
set_option linter.unusedSimpArgs false
set_option linter.unusedVariables false
set_option linter.unnecessarySimpa false
open Go.RowKit

def padJ (b : List Int) (k : Nat) : List Int := b ++ 128 :: List.replicate k 0
def padK (b : List Int) (m : Int) (i : Nat) : List Int := padJ b (zc b.length) ++ be8 m i
theorem padJ_len (b : List Int) (k : Nat) : (padJ b k).length = b.length + 1 + k := by simp [padJ]; omega
theorem padK_len (b : List Int) (m : Int) (i : Nat) : (padK b m i).length = b.length + 1 + zc b.length + i := by rw [padK, List.length_append, padJ_len]; simp [be8]
theorem padK_eq (b : List Int) : padK b (IntKind.u64.wrap (8 * (b.length : Int))) 8 = b ++ padI b.length := by simp [padK, padJ, padI]
theorem u64_len {n : Nat} (h : n ≤ 1000000000000) : IntKind.u64.wrap (8 * IntKind.u64.wrap (n : Int)) = IntKind.u64.wrap (8 * (n : Int)) := by
  rw [IntWalk.u64_in (n : Int) (by omega)]

set_option maxRecDepth 10000 in
set_option maxHeartbeats 2000000 in
theorem pw_padded (b : List Int) (hb : b.length ≤ 1000000000000) : PCalls Tryd.prog 108 [pbytes b] (· = pbytes (b ++ padI b.length)) := by
  refine pcalls_of_pw typeTab_ok Tryd.func108 rfl (by kernel_rfl) (by exact lw) (by simp [pbytes, PV.ownB]) (Nat.le_of_ble_eq_true rfl) ?_
  have hz : zc b.length = (119 - b.length % 64) % 64 := rfl
  refine wk ?_
  refine PW.loop (fun k : Nat => (bot.put 0 (pbytes b)).put 3 (.sl (b.length + 1 + k) 1 ((padJ b k).map pbyte) (some 5))) (fun k => k ≤ zc b.length) (fun k => zc b.length - k) 0 (by omega) ?_ ?_
  · have e : (padJ b 0).map pbyte = b.map pbyte ++ [pbyte 128] := by simp [padJ]
    have ll : Low (.sl (b.length + 1 + 0) 1 ((padJ b 0).map pbyte) (some 5)) := low_mapB
    rw [e] at ll ⊢
    simp only [Nat.zero_add, List.nil_append]
    exact sb
  · intro k hk
    have hl := padJ_len b k
    by_cases hkz : k < zc b.length
    · refine wk ?_
      refine loopP (k + 1) (by omega) (by omega) ?_
      have e : (padJ b (k + 1)).map pbyte = (padJ b k).map pbyte ++ [pbyte 0] := by
        rw [padJ, padJ, List.replicate_succ']; simp
      have ll : Low (.sl (b.length + 1 + (k + 1)) 1 ((padJ b (k + 1)).map pbyte) (some 5)) := low_mapB
      rw [e] at ll ⊢
      exact sb
    · have e : k = zc b.length := by omega
      subst e
      refine wk ?_
      rw [u64_len hb]
      obtain ⟨m, hm⟩ : ∃ m, m = IntKind.u64.wrap (8 * (b.length : Int)) := ⟨_, rfl⟩
      rw [show b ++ padI b.length = padK b m 8 by rw [hm, padK_eq], ← hm]
      clear hm
      refine PW.loop (fun i : Nat => ((bot.put 4 (pu64 m)).put 3 (.sl (b.length + 1 + zc b.length + i) 1 ((padK b m i).map pbyte) (some 5))).put 5 (pint i)) (fun i => i ≤ 8) (fun i => 8 - i) 0 (by omega) ?_ ?_
      · have e : (padK b m 0).map pbyte = (padJ b (zc b.length)).map pbyte := by simp [padK, be8]
        have ll : Low (.sl (b.length + 1 + zc b.length + 0) 1 ((padK b m 0).map pbyte) (some 5)) := low_mapB
        rw [e] at ll ⊢
        exact sb
      · intro i hi
        have hpl := padK_len b m i
        by_cases h8 : i < 8
        · refine wk ?_
          refine loopP (i + 1) (by omega) (by omega) ?_
          have e2 : (padK b m (i + 1)).map pbyte = (padK b m i).map pbyte ++ [pbyte (hByteAt m i)] := by
            rw [padK, padK, be8, be8, List.range_succ]; simp
          have ll : Low (.sl (b.length + 1 + zc b.length + (i + 1)) 1 ((padK b m (i + 1)).map pbyte) (some 5)) := low_mapB
          rw [e2] at ll ⊢
          exact sb
        · have e : i = 8 := by omega
          refine wk ?_
          subst e
          refine retP rfl (by exact lw) ?_
          rw [pbytes, hpl]

/-- A message after whole blocks. -/
def blkN (ks m : List Int) (j : Nat) : H8 := blksH ks beginS.st (m.take (64 * j))
theorem blkN_succ (ks m : List Int) (j : Nat) (h : 64 * j + 64 ≤ m.length) : blkN ks m (j + 1) = cmpH ks (blkN ks m j) ((m.drop (64 * j)).take 64) := by
  have hl : ((m.drop (64 * j)).take 64).length = 64 := by rw [List.length_take, List.length_drop]; omega
  rw [blkN, blkN, show 64 * (j + 1) = 64 * j + 64 by omega, List.take_add, blksH_append ks _ _ (m.take (64 * j)) _ rfl (by rw [List.length_take]; omega), blksH_step ks _ (m := (m.drop (64 * j)).take 64) (by omega), List.take_of_length_le (l := (m.drop (64 * j)).take 64) (by omega), blksH_lt ks _ (m := List.drop _ _) (by rw [List.length_drop]; omega)]
theorem blkN_end (ks m : List Int) (j : Nat) (h : 64 * j = m.length) : blkN ks m j = blksH ks beginS.st m := by rw [blkN, List.take_of_length_le (by omega)]
theorem blkN_zero (ks m : List Int) : blkN ks m 0 = beginS.st := by rw [blkN, Nat.mul_zero, List.take_zero, blksH_lt ks _ (by simp)]

/-- A round, as the specification writes it. -/
def rndXr (v : H8) (k w : Int) : Int := addU (addU (addU (addU v.h (mixI v.e 6 11 25)) (xorU (andU v.e v.f) (andU (xorU v.e 4294967295) v.g))) k) w
def rndR (v : H8) (k w : Int) : H8 := ⟨addU (rndXr v k w) (rndY v), v.a, v.b, v.c, addU v.d (rndXr v k w), v.e, v.f, v.g⟩
theorem rndR_eq (v : H8) (k w : Int) : rnd v k w = rndR v k w := by
  have : rndX v k w = rndXr v k w := by
    unfold rndX rndXr notU
    rw [show xorU v.e 4294967295 = xorU 4294967295 v.e from xorU_comm _ _]; rfl
  rw [rnd, rndR, this]

theorem pH_h {s : H8} {j : Nat} (h : j < 8) : (pH s)[j]? = some (pu32 ((h8L s).getD j default)) := by
  match j, h with
  | 0, _ => rfl
  | 1, _ => rfl
  | 2, _ => rfl
  | 3, _ => rfl
  | 4, _ => rfl
  | 5, _ => rfl
  | 6, _ => rfl
  | 7, _ => rfl

set_option maxRecDepth 10000 in
set_option maxHeartbeats 4000000 in
theorem pw_refSum (b : List Int) (hb : b.length ≤ 1000000000000) (hby : ∀ c ∈ b, 0 ≤ c ∧ c < 256) : PCalls Tryd.prog 104 [pbytes b] (· = .agg ((shaI glob1 b).map pbyte)) := by
  refine pcalls_of_pw typeTab_ok Tryd.func104 rfl (by kernel_rfl) (by exact lw) (by simp [pbytes, PV.ownB]) (Nat.le_of_ble_eq_true rfl) ?_
  have hp := pw_padded b hb
  rw [show shaI glob1 b = outW (blksH glob1 beginS.st (b ++ padI b.length)) 32 from rfl]
  have hml : (b ++ padI b.length).length % 64 = 0 ∧ (b ++ padI b.length).length ≤ 2000000000000 := by
    have hz : zc b.length = (119 - b.length % 64) % 64 := rfl
    rw [List.length_append, padI_len]; omega
  have hmb : ∀ c ∈ b ++ padI b.length, 0 ≤ c ∧ c < 256 := by
    intro c hc
    rcases List.mem_append.1 hc with h | h
    · exact hby c h
    · exact padI_byte _ c h
  generalize b ++ padI b.length = m at *
  refine wk ?_
  refine PW.loop (fun j : Nat => ((((((bot.setb 0 (List.replicate 32 (pbyte 0))).put 2 (.ptr 0 0)).setb 1001 (pH (blkN glob1 m j))).put 3 (.ptr 1001 0)).put 4 (pbytes m)).put 5 (pint (64 * (j : Int))))) (fun j => 64 * j ≤ m.length) (fun j => m.length - 64 * j) 0 (by omega) ?_ ?_
  · rw [blkN_zero]
    exact sb
  · intro j hj
    by_cases hlt : 64 * j < m.length
    · have hbl : ((m.drop (64 * j)).take 64).length = 64 := by rw [List.length_take, List.length_drop]; omega
      have hn := blkN_succ glob1 m j (by omega)
      have hw := pw_refWords ((m.drop (64 * j)).take 64) hbl (fun c hc => hmb c (List.mem_of_mem_drop (List.mem_of_mem_take hc)))
      have hwl := schW_len ((m.drop (64 * j)).take 64) 64
      rw [show cmpH glob1 (blkN glob1 m j) ((m.drop (64 * j)).take 64) = addH (blkN glob1 m j) (rnds glob1 (schW ((m.drop (64 * j)).take 64) 64) (blkN glob1 m j) 64) from rfl] at hn
      generalize schW ((m.drop (64 * j)).take 64) 64 = W at *
      generalize hX : (m.drop (64 * j)).take 64 = X at *
      have hX2 : List.take ((64 * (j : Int) + 64).toNat - (64 * (j : Int)).toNat) (List.drop (64 * (j : Int)).toNat m) = X := by rw [← hX]; congr 1 <;> omega
      obtain ⟨s2, hs2⟩ : ∃ s2, blkN glob1 m (j + 1) = s2 := ⟨_, rfl⟩
      rw [hs2] at hn
      generalize blkN glob1 m j = s at *
      refine wk ?_
      rw [hX2]
      refine wk ?_
      clear hX2 hX hw hmb hby hp
      refine PW.loop (fun t : Nat => (((((((((bot.setb 0 (List.replicate 32 (pbyte 0))).put 2 (.ptr 0 0)).setb 1001 (pH s)).put 3 (.ptr 1001 0)).put 4 (pbytes m)).put 5 (pint (64 * (j : Int)))).setb 6006 (W.map pu32)).put 6 (.ptr 6006 0)).setb 7001 (pH (rnds glob1 W s t))).put 7 (.ptr 7001 0) |>.put 8 (pint t)) (fun t => t ≤ 64) (fun t => 64 - t) 0 (by omega) ?_ ?_
      · exact sb
      · intro t ht
        by_cases h64 : t < 64
        · obtain ⟨v, hv⟩ : ∃ v, v = rnds glob1 W s t := ⟨_, rfl⟩
          have hn2 : rnds glob1 W s (t + 1) = rndR v (glob1.getD (t : Int).toNat default) (W.getD (t : Int).toNat default) := by rw [rnds, ← hv, rndR_eq]; rfl
          rw [← hv]
          clear hv hn
          have r1 := pw_rotr v.e 6 (by simp)
          have r2 := pw_rotr v.e 11 (by simp)
          have r3 := pw_rotr v.e 25 (by simp)
          have r4 := pw_rotr v.a 2 (by simp)
          have r5 := pw_rotr v.a 13 (by simp)
          have r6 := pw_rotr v.a 22 (by simp)
          have hg : glob1.length = 64 := rfl
          refine wk ?_
          refine loopP (t + 1) (by omega) (by omega) ?_
          simp only [hn2]
          exact sb
        · have e : t = 64 := by omega
          subst e
          generalize rnds glob1 W s 64 = v at *
          refine wk ?_
          refine PW.unroll ?_
          refine wk ?_
          refine loopU ?_
          refine wk ?_
          refine loopU ?_
          refine wk ?_
          refine loopU ?_
          refine wk ?_
          refine loopU ?_
          refine wk ?_
          refine loopU ?_
          refine wk ?_
          refine loopU ?_
          refine wk ?_
          refine loopU ?_
          refine wk ?_
          refine loopU ?_
          refine wk ?_
          refine loopP (j + 1) (by omega) (by omega) ?_
          simp only [hs2, hn]
          exact sb
    · have e : 64 * j = m.length := by omega
      rw [blkN_end glob1 m j e]
      generalize blksH glob1 beginS.st m = u
      refine wk ?_
      refine PW.loop (fun i : Nat => ((((((bot.setb 0 (List.replicate 32 (pbyte 0))).put 2 (.ptr 0 0)).setb 1001 (pH u)).put 3 (.ptr 1001 0)).setb 18000 ((outW u i).map pbyte)).put 12 (.ptr 18000 0)).put 13 (pint i)) (fun i => i ≤ 32) (fun i => 32 - i) 0 (by omega) ?_ ?_
      · exact sb
      · intro i hi
        have hol := outW_len u i
        by_cases h32 : i < 32
        · have hc : (pH u)[((i : Int) / 4).toNat]? = some (pu32 ((h8L u).getD (i / 4) default)) := by
            rw [show ((i : Int) / 4).toNat = i / 4 by omega]; exact pH_h (by omega)
          have hS : (outW u (i + 1)).map pbyte = ((outW u i).set (i : Int).toNat (outV u i)).map pbyte := rfl
          refine wk ?_
          refine PWops.ldB rfl rfl rfl rfl rfl rfl rfl rfl hc rfl ?_
          refine wk ?_
          refine loopP (i + 1) (by omega) (by omega) ?_
          exact sb
        · have e : i = 32 := by omega
          subst e
          generalize outW u 32 = O at *
          refine wk ?_
          exact ⟨_, presult1 (pres_cell rfl rfl rfl (len_map hol) (bare_map (fun _ => rfl) _)), by exact lw, rfl⟩
end Go.Proofs.YtnjopfjmepbpoaaDoor

/- The digest of the specification is the program's. -/
namespace Go.Proofs.YtnjopfjmepbpoaaDoor
set_option linter.unusedSimpArgs false
set_option linter.unusedVariables false
set_option linter.unnecessarySimpa false
open Go.RowKit

def cpy (D : List Int) (i : Nat) : List Int := D.take i ++ List.replicate (16 - i) 0
theorem cpy_len {D : List Int} (h : D.length = 32) {i : Nat} (hi : i ≤ 16) : (cpy D i).length = 16 := by simp [cpy, h]; omega
theorem cpy_succ {D : List Int} (h : D.length = 32) {i : Nat} (hi : i < 16) : cpy D (i + 1) = (cpy D i).set i (D.getD i default) := by
  rw [cpy, cpy, take_getD default (by omega), List.append_assoc, List.set_append_right _ _ (by rw [List.length_take]; omega), List.length_take, Nat.min_eq_left (by omega), Nat.sub_self]
  rw [show 16 - i = (16 - (i + 1)) + 1 by omega, List.replicate_succ]; rfl
theorem cpy_end (D : List Int) : cpy D 16 = D.take 16 := by simp [cpy]

set_option maxRecDepth 10000 in
set_option maxHeartbeats 2000000 in
theorem pw_short (b : List Int) (hb : b.length ≤ 1000000000000) (hby : ∀ c ∈ b, 0 ≤ c ∧ c < 256) : PCalls Tryd.prog 84 [pbytes b] (· = .agg (((shaI glob1 b).take 16).map pbyte)) := by
  refine pcalls_of_pw typeTab_ok Tryd.func84 rfl (by kernel_rfl) (by exact lw) (by simp [pbytes, PV.ownB]) (Nat.le_of_ble_eq_true rfl) ?_
  have hs := pw_refSum b hb hby
  have hl := shaI_len glob1 b
  generalize shaI glob1 b = D at *
  refine wk ?_
  refine PW.loop (fun i : Nat => (((((((bot.setb 0 (List.replicate 16 (pbyte 0))).put 2 (.ptr 0 0)).setb 1002 (D.map pbyte)).put 3 (.ptr 1002 0)).setb 2001 ((cpy D i).map pbyte)).put 4 (.ptr 2001 0)).put 5 (pint i))) (fun i => i ≤ 16) (fun i => 16 - i) 0 (by omega) ?_ ?_
  · exact sb
  · intro i hi
    have hcl := cpy_len hl hi
    by_cases h16 : i < 16
    · have hS : (cpy D (i + 1)).map pbyte = ((cpy D i).set (i : Int).toNat (D.getD (i : Int).toNat default)).map pbyte := by rw [cpy_succ hl h16]; rfl
      refine wk ?_
      refine loopP (i + 1) (by omega) (by omega) ?_
      exact sb
    · have e : i = 16 := by omega
      subst e
      rw [← cpy_end]
      generalize cpy D 16 = O at *
      refine wk ?_
      exact ⟨_, presult1 (pres_cell rfl rfl rfl (len_map hcl) (bare_map (fun _ => rfl) _)), by exact lw, rfl⟩

theorem pcRefBytes (s : ByteArray) (hl : s.size ≤ 1000000000) : PCalls Tryd.prog 80 [pstr s] (· = pbytesO (strB s)) :=
  pcalls1 (by kernel_rfl) fun Φ μ w v himm hr => by
    obtain ⟨rfl, -⟩ := hr.val_inv
    exact (refBytes s w hl).mono (by
    rintro e w' ⟨u, rfl, ho, hb⟩
    exact post_own himm (fun _ => rfl) ho hb)
theorem inputI_snoc (tag : Int) (l : List ByteArray) (p : ByteArray) : inputI tag (l ++ [p]) = inputI tag l ++ strB p := by simp [inputI]
theorem inputI_len (tag : Int) (l : List ByteArray) (h : SmallStrs l) : (inputI tag l).length ≤ 1 + l.length * 1000010 := by
  induction l with
  | nil => simp [inputI]
  | cons p l ih =>
    have h1 := ih (fun x hx => h x (List.mem_cons_of_mem _ hx))
    have h2 := (strB_len p (h p (List.mem_cons_self ..))).2
    simp only [inputI, List.length_cons, List.flatMap_cons, List.length_append] at *
    omega
theorem inputI_byte (tag : Int) (l : List ByteArray) (h : SmallStrs l) : ∀ c ∈ inputI tag l, 0 ≤ c ∧ c < 256 := by
  intro c hc
  rcases List.mem_cons.1 hc with rfl | hc
  · rw [IntKind.wrap_u8]; omega
  · obtain ⟨p, hp, hc⟩ := List.mem_flatMap.1 hc
    exact strB_byte p (h p hp) c hc

set_option maxRecDepth 10000 in
set_option maxHeartbeats 2000000 in
theorem pw_input (tag : Int) (l : List ByteArray) (hl : l.length ≤ 100000) (hs : SmallStrs l) : PCalls Tryd.prog 85 [pint tag, pstrs l] (· = pbytes (inputI tag l)) := by
  refine pcalls_of_pw typeTab_ok Tryd.func85 rfl (by kernel_rfl) (by exact lw) (by simp [pint, pstrs, PV.ownB]) (Nat.le_of_ble_eq_true rfl) ?_
  refine wk ?_
  refine PW.loop (fun i : Nat => ((((bot.put 0 (pint tag)).put 1 (pstrs l)).put 5 (.sl (inputI tag (l.take i)).length 1 ((inputI tag (l.take i)).map pbyte) (some 5)))).put 6 (pint i)) (fun i => i ≤ l.length) (fun i => l.length - i) 0 (by omega) ?_ ?_
  · exact sb
  · intro i hi
    have hil := inputI_len tag (l.take i) (fun x hx => hs x (List.mem_of_mem_take hx))
    have hti : (l.take i).length = i := by rw [List.length_take]; omega
    rw [hti] at hil
    by_cases hlt : i < l.length
    · have hsm : (l.getD i default).size ≤ 1000000 := hs _ (by rw [List.getD_eq_getElem?_getD, List.getElem?_eq_getElem hlt]; exact List.getElem_mem hlt)
      have hpl := (strB_len (l.getD i default) hsm).2
      have hw := pcRefBytes (l.getD i default) (by omega)
      have hnx : inputI tag (l.take (i + 1)) = inputI tag (l.take i) ++ strB (l.getD i default) := by rw [take_getD default hlt, inputI_snoc]
      have hnl : (inputI tag (l.take (i + 1))).length = (inputI tag (l.take i)).length + (strB (l.getD i default)).length := by rw [hnx, List.length_append]
      refine wk ?_
      refine loopP (i + 1) (by omega) (by omega) ?_
      have ll : Low (.sl (inputI tag (l.take (i + 1))).length 1 ((inputI tag (l.take (i + 1))).map pbyte) (some 5)) := low_mapB
      rw [hnl, hnx, List.map_append] at ll
      simp only [hnx, List.map_append, List.length_append]
      exact sb
    · have e : i = l.length := by omega
      subst e
      rw [List.take_length] at *
      refine wk ?_
      refine retP rfl (by exact lw) rfl

set_option maxRecDepth 10000 in
set_option maxHeartbeats 2000000 in
theorem pw_refOf1 (tag : Int) (l : List ByteArray) (hl : l.length ≤ 100000) (hs : SmallStrs l) : PCalls Tryd.prog 39 [pint tag, pstrs l] (· = .agg (((shaI glob1 (inputI tag l)).take 16).map pbyte)) := by
  refine pcalls_of_pw typeTab_ok Tryd.func39 rfl (by kernel_rfl) (by exact lw) (by simp [pint, pstrs, PV.ownB]) (Nat.le_of_ble_eq_true rfl) ?_
  have h1 := pw_input tag l (by omega) hs
  have h2 := pw_short (inputI tag l) (by have := inputI_len tag l hs; omega) (inputI_byte tag l hs)
  have h3 : ((shaI glob1 (inputI tag l)).take 16).length = 16 := by rw [List.length_take, shaI_len]; rfl
  generalize inputI tag l = b at *
  generalize (shaI glob1 b).take 16 = D at *
  refine wk ?_
  exact ⟨_, presult1 (pres_cell rfl rfl rfl (len_map h3) (bare_map (fun _ => rfl) _)), .agg _ (low_map (fun _ => Low.val _) _), rfl⟩

/-- A digest. -/
def digI (tag : Int) (l : List ByteArray) : List Int := (shaI glob0 (inputI tag l)).take 16
theorem digI_len (tag : Int) (l : List ByteArray) : (digI tag l).length = 16 := by rw [digI, List.length_take, shaI_len]; rfl
def pdig (D : List Int) : PV := .agg (D.map pbyte)
theorem pc_of (tag : Int) (l : List ByteArray) (hl : l.length ≤ 100000) (hs : SmallStrs l) : PCalls Tryd.prog 38 [pint tag, pstrs l] (· = pdig (digI tag l)) := by
  have h := pw_of tag l (by omega) hs
  rwa [ofS_eq] at h
theorem pc_refOf (tag : Int) (l : List ByteArray) (hl : l.length ≤ 100000) (hs : SmallStrs l) : PCalls Tryd.prog 39 [pint tag, pstrs l] (· = pdig (digI tag l)) := by
  have h := pw_refOf1 tag l hl hs
  rwa [show glob1 = glob0 from rfl] at h
end Go.Proofs.YtnjopfjmepbpoaaDoor

/- The walks of slices.Grow, Concat. -/
namespace Go.Proofs.YtnjopfjmepbpoaaDoor
set_option linter.unusedSimpArgs false
set_option linter.unusedVariables false
set_option linter.unnecessarySimpa false
open Go.RowKit

/-- slices.Grow of nil. -/
theorem zeroCells_sizeI (z : Value) (n : Nat) : (Builtin.zeroCells #[z] n).size = n := by simp [Builtin.zeroCells]

set_option maxRecDepth 100000 in
theorem slicesGrowI (n : Nat) (w : World) (hn : n ≤ 1000000000) :
    Calls Tryd.prog 73 #[.slice none 0 0, .int .i64 n] w (MadeRow 3 w []) := by
  by_cases h0 : n = 0
  · subst h0
    go_enter Tryd.func73, Tryd.ntmps73
    go_wp2
    go_ret
    exact ⟨_, rfl, Own.nil _ _ _, Below.refl _ _⟩
  · obtain ⟨i0, hi, hz0, hz1, hz2⟩ := info_parts (elemInt).info
    have hg0 : decide (0 < n) = true := by simp; omega
    have HI := Lib.hid hi
    have HZ0 := Lib.hid hz0
    have HZ1 := Lib.hid hz1
    have HZ2 := Lib.hid hz2
    clear hi hz0 hz1 hz2
    go_enter Tryd.func73, Tryd.ntmps73
    go_wp2_with (at_builtin; refine Lib.wpList_append_run w rfl (.tmp 20) (.tmp 21) 22 3 rfl (.slice none 0 0) (.int .i64 n) rfl rfl _ _ (Lib.run_append_nil_zeros w 22 3 _ 3 i0 _ .i64 .i64 Tryd.underlying22 Tryd.underlying3 HI.out HZ0.out n (by omega) (by rw [HZ1.out]; omega) (by omega) (by rw [HZ2.out]; omega)) ?_)
    go_ret
    refine ⟨_, rfl, ?_, (Below.refl _ _).drew.alloc (Nat.le_refl _) _⟩
    have hge := grownCap_ge w n 0 3
    refine World.ownsRow_made w.drew _ _ (Nat.le_refl _) (grownCap_le_maxLen w n 0 _ (by unfold maxLen; omega)) ?_
    rw [Array.size_append, zeroCells_sizeI, zeroCells_sizeI]
    omega

/-- What lies in the slots of a variadic list of slices. -/
theorem slotsI {w : World} {v : Value} {vs : List Value} (h : Rd w v vs) : ∃ a cap b off, v = .slice a vs.length cap ∧ vs.length ≤ cap ∧ cap ≤ maxLen ∧ (0 < vs.length → a = some ⟨b, off, none⟩) ∧ Hid (∀ j u, vs[j]? = some u → w.cell? ⟨b, off + j, none⟩ = some u) := h

theorem flat_stepI (ls : List (List Int)) (k : Nat) (l : List Int) (h : ls[k]? = some l) : (ls.take (k+1)).flatten = (ls.take k).flatten ++ l := by
  rw [List.take_add_one, h]; simp
theorem flat_bdI (ls : List (List Int)) (k : Nat) : (ls.take k).flatten.length ≤ ls.flatten.length := by
  have h : ls.flatten = (ls.take k).flatten ++ (ls.drop k).flatten := by rw [← List.flatten_append, List.take_append_drop]
  rw [h, List.length_append]; omega

set_option maxRecDepth 100000 in
set_option maxHeartbeats 1000000 in
theorem slicesConcatI (v : Value) (vs : List Value) (ls : List (List Int)) (w : World) (hv : Rd w v vs) (hln : vs.length = ls.length) (hvl : vs.length ≤ 1000000)
    (hd : Hid (∀ (i : Nat) (u : Value) (l : List Int), vs[i]? = some u → ls[i]? = some l → Rd w u (l.map (Value.int .i64)))) (hl : ls.flatten.length ≤ 1000000000) :
    Calls Tryd.prog 32 #[v] w (MadeRow 3 w (ls.flatten.map (Value.int .i64))) := by
  obtain ⟨a, cap, b, off, rfl, hcap, hm, ha, hc⟩ := slotsI hv
  clear hv
  go_enter Tryd.func32, Tryd.ntmps32
  go_wp2
  go_loop [3, 11] (fun s i => ∃ k : Nat, k ≤ vs.length ∧ i = .int .i64 k ∧ s = .int .i64 ((ls.take k).flatten.length : Nat)) (fun _ i => vs.length - (intOf i).toNat)
  case atStart => exact ⟨0, by omega, rfl, by simp⟩
  case round =>
    obtain ⟨k, hk, rfl, rfl⟩ := hrel
    by_cases hlt : k < vs.length
    · obtain ⟨y, hy⟩ := ints_get vs k (by omega)
      obtain ⟨l, hl'⟩ := ints_get ls k (by omega)
      have c0 := hc.out k y hy
      obtain ⟨a2, cap2, b2, off2, rfl, -⟩ := hd.out k y l hy hl'
      rw [List.length_map] at *
      obtain rfl := ha (by omega)
      have F := Lib.hid (flat_stepI ls k l hl')
      have B := flat_bdI ls (k+1)
      rw [F.out, List.length_append] at B
      clear hy hl' ha hc hd
      generalize (ls.take k).flatten = tk at *
      go_wp2
      go_round
      case rel => exact ⟨k + 1, by omega, by go_num, by rw [F.out, List.length_append]; go_num⟩
      case measure => simp [intOf]; omega
    · have e : ls.take k = ls := List.take_of_length_le (by omega)
      rw [e]
      obtain ⟨N, hN⟩ : ∃ N : Nat, ls.flatten.length = N := ⟨_, rfl⟩
      have HN := Lib.hid hN
      rw [hN]
      have hl2 : N ≤ 1000000000 := by omega
      clear hN e
      go_wp2_with (go_at_call 73; refine (slicesGrowI N _ hl2).mono ?_; rintro e w1 ⟨v1, rfl, ho1, hb1⟩)
      go_loopw [6, 27] (fun o i wr => ∃ k : Nat, k ≤ vs.length ∧ i = .int .i64 k ∧ Own w.heap.size 3 wr o ((ls.take k).flatten.map (Value.int .i64)) ∧ Below w.heap.size w wr) (fun _ i _ => vs.length - (intOf i).toNat)
      case atStart => exact ⟨0, by omega, rfl, by simpa using ho1, hb1⟩
      case round =>
        obtain ⟨k, hk, rfl, hown, hb⟩ := hrel
        have HB := Hid.mk hb
        clear hb
        have hb2 := HB.out.size
        by_cases hlt : k < vs.length
        · obtain ⟨y, hy⟩ := ints_get vs k (by omega)
          obtain ⟨l, hl'⟩ := ints_get ls k (by omega)
          have c0 := below_cell HB.out (hc.out k y hy)
          have D := Lib.hid (Rd.below (hd.out k y l hy hl') HB.out)
          have hbl := World.block_lt_of_cell? _ _ c0
          obtain ⟨a2, cap2, b2, off2, rfl, -⟩ := D.out
          rw [List.length_map] at *
          obtain rfl := ha (by omega)
          have F := Lib.hid (flat_stepI ls k l hl')
          have B := flat_bdI ls (k+1)
          rw [F.out, List.length_append] at B
          clear hy hl' ha hc hd
          go_wp2_with (at_builtin; refine wp_appendR (.tmp 31) (.tmp 32) 22 3 8 _ (elemInt) rfl rfl Tryd.underlying22 w.heap.size _ _ _ _ rfl hown rfl D.out (oneCells _ _) (by simp only [List.length_map, maxLen]; omega) (by simp only [List.length_map]; omega) hb2 ?_; intro v' w' hown' hb')
          go_roundw
          case rel => exact ⟨k + 1, by omega, by go_num, by rw [F.out, List.map_append]; exact hown', HB.out.trans hb'⟩
          case measure => simp [intOf]; omega
        · have e : ls.take k = ls := List.take_of_length_le (by omega)
          rw [e] at hown
          clear hc hd ha
          go_wp2
          go_ret
          exact ⟨_, rfl, hown, HB.out⟩

/-- slices.Grow of nil. -/
theorem zeroCells_sizeB (z : Value) (n : Nat) : (Builtin.zeroCells #[z] n).size = n := by simp [Builtin.zeroCells]

set_option maxRecDepth 100000 in
theorem slicesGrowB (n : Nat) (w : World) (hn : n ≤ 1000000000) :
    Calls Tryd.prog 74 #[.slice none 0 0, .int .i64 n] w (MadeRow 5 w []) := by
  by_cases h0 : n = 0
  · subst h0
    go_enter Tryd.func74, Tryd.ntmps74
    go_wp2
    go_ret
    exact ⟨_, rfl, Own.nil _ _ _, Below.refl _ _⟩
  · obtain ⟨i0, hi, hz0, hz1, hz2⟩ := info_parts (elemByte).info
    have hg0 : decide (0 < n) = true := by simp; omega
    have HI := Lib.hid hi
    have HZ0 := Lib.hid hz0
    have HZ1 := Lib.hid hz1
    have HZ2 := Lib.hid hz2
    clear hi hz0 hz1 hz2
    go_enter Tryd.func74, Tryd.ntmps74
    go_wp2_with (at_builtin; refine Lib.wpList_append_run w rfl (.tmp 20) (.tmp 21) 26 3 rfl (.slice none 0 0) (.int .i64 n) rfl rfl _ _ (Lib.run_append_nil_zeros w 26 3 _ 5 i0 _ .i64 .i64 Tryd.underlying26 Tryd.underlying3 HI.out HZ0.out n (by omega) (by rw [HZ1.out]; omega) (by omega) (by rw [HZ2.out]; omega)) ?_)
    go_ret
    refine ⟨_, rfl, ?_, (Below.refl _ _).drew.alloc (Nat.le_refl _) _⟩
    have hge := grownCap_ge w n 0 5
    refine World.ownsRow_made w.drew _ _ (Nat.le_refl _) (grownCap_le_maxLen w n 0 _ (by unfold maxLen; omega)) ?_
    rw [Array.size_append, zeroCells_sizeB, zeroCells_sizeB]
    omega

/-- What lies in the slots of a variadic list of slices. -/
theorem slotsB {w : World} {v : Value} {vs : List Value} (h : Rd w v vs) : ∃ a cap b off, v = .slice a vs.length cap ∧ vs.length ≤ cap ∧ cap ≤ maxLen ∧ (0 < vs.length → a = some ⟨b, off, none⟩) ∧ Hid (∀ j u, vs[j]? = some u → w.cell? ⟨b, off + j, none⟩ = some u) := h

theorem flat_stepB (ls : List (List Int)) (k : Nat) (l : List Int) (h : ls[k]? = some l) : (ls.take (k+1)).flatten = (ls.take k).flatten ++ l := by
  rw [List.take_add_one, h]; simp
theorem flat_bdB (ls : List (List Int)) (k : Nat) : (ls.take k).flatten.length ≤ ls.flatten.length := by
  have h : ls.flatten = (ls.take k).flatten ++ (ls.drop k).flatten := by rw [← List.flatten_append, List.take_append_drop]
  rw [h, List.length_append]; omega

set_option maxRecDepth 100000 in
set_option maxHeartbeats 1000000 in
theorem slicesConcatB (v : Value) (vs : List Value) (ls : List (List Int)) (w : World) (hv : Rd w v vs) (hln : vs.length = ls.length) (hvl : vs.length ≤ 1000000)
    (hd : Hid (∀ (i : Nat) (u : Value) (l : List Int), vs[i]? = some u → ls[i]? = some l → Rd w u (l.map (Value.int .u8)))) (hl : ls.flatten.length ≤ 1000000000) :
    Calls Tryd.prog 33 #[v] w (MadeRow 5 w (ls.flatten.map (Value.int .u8))) := by
  obtain ⟨a, cap, b, off, rfl, hcap, hm, ha, hc⟩ := slotsB hv
  clear hv
  go_enter Tryd.func33, Tryd.ntmps33
  go_wp2
  go_loop [3, 11] (fun s i => ∃ k : Nat, k ≤ vs.length ∧ i = .int .i64 k ∧ s = .int .i64 ((ls.take k).flatten.length : Nat)) (fun _ i => vs.length - (intOf i).toNat)
  case atStart => exact ⟨0, by omega, rfl, by simp⟩
  case round =>
    obtain ⟨k, hk, rfl, rfl⟩ := hrel
    by_cases hlt : k < vs.length
    · obtain ⟨y, hy⟩ := ints_get vs k (by omega)
      obtain ⟨l, hl'⟩ := ints_get ls k (by omega)
      have c0 := hc.out k y hy
      obtain ⟨a2, cap2, b2, off2, rfl, -⟩ := hd.out k y l hy hl'
      rw [List.length_map] at *
      obtain rfl := ha (by omega)
      have F := Lib.hid (flat_stepB ls k l hl')
      have B := flat_bdB ls (k+1)
      rw [F.out, List.length_append] at B
      clear hy hl' ha hc hd
      generalize (ls.take k).flatten = tk at *
      go_wp2
      go_round
      case rel => exact ⟨k + 1, by omega, by go_num, by rw [F.out, List.length_append]; go_num⟩
      case measure => simp [intOf]; omega
    · have e : ls.take k = ls := List.take_of_length_le (by omega)
      rw [e]
      obtain ⟨N, hN⟩ : ∃ N : Nat, ls.flatten.length = N := ⟨_, rfl⟩
      have HN := Lib.hid hN
      rw [hN]
      have hl2 : N ≤ 1000000000 := by omega
      clear hN e
      go_wp2_with (go_at_call 74; refine (slicesGrowB N _ hl2).mono ?_; rintro e w1 ⟨v1, rfl, ho1, hb1⟩)
      go_loopw [6, 27] (fun o i wr => ∃ k : Nat, k ≤ vs.length ∧ i = .int .i64 k ∧ Own w.heap.size 5 wr o ((ls.take k).flatten.map (Value.int .u8)) ∧ Below w.heap.size w wr) (fun _ i _ => vs.length - (intOf i).toNat)
      case atStart => exact ⟨0, by omega, rfl, by simpa using ho1, hb1⟩
      case round =>
        obtain ⟨k, hk, rfl, hown, hb⟩ := hrel
        have HB := Hid.mk hb
        clear hb
        have hb2 := HB.out.size
        by_cases hlt : k < vs.length
        · obtain ⟨y, hy⟩ := ints_get vs k (by omega)
          obtain ⟨l, hl'⟩ := ints_get ls k (by omega)
          have c0 := below_cell HB.out (hc.out k y hy)
          have D := Lib.hid (Rd.below (hd.out k y l hy hl') HB.out)
          have hbl := World.block_lt_of_cell? _ _ c0
          obtain ⟨a2, cap2, b2, off2, rfl, -⟩ := D.out
          rw [List.length_map] at *
          obtain rfl := ha (by omega)
          have F := Lib.hid (flat_stepB ls k l hl')
          have B := flat_bdB ls (k+1)
          rw [F.out, List.length_append] at B
          clear hy hl' ha hc hd
          go_wp2_with (at_builtin; refine wp_appendR (.tmp 31) (.tmp 32) 26 5 1 _ (elemByte) rfl rfl Tryd.underlying26 w.heap.size _ _ _ _ rfl hown rfl D.out (oneCells _ _) (by simp only [List.length_map, maxLen]; omega) (by simp only [List.length_map]; omega) hb2 ?_; intro v' w' hown' hb')
          go_roundw
          case rel => exact ⟨k + 1, by omega, by go_num, by rw [F.out, List.map_append]; exact hown', HB.out.trans hb'⟩
          case measure => simp [intOf]; omega
        · have e : ls.take k = ls := List.take_of_length_le (by omega)
          rw [e] at hown
          clear hc hd ha
          go_wp2
          go_ret
          exact ⟨_, rfl, hown, HB.out⟩

end Go.Proofs.YtnjopfjmepbpoaaDoor

/- Walks: slices.Clone of ints. -/
namespace Go.Proofs.YtnjopfjmepbpoaaDoor
set_option linter.unusedSimpArgs false
set_option linter.unusedVariables false
set_option linter.unnecessarySimpa false
open Go.RowKit

set_option maxRecDepth 100000 in
set_option maxHeartbeats 1000000 in
theorem slicesCloneI (v : Value) (zs : List Int) (w : World) (hv : Ints w v zs) (hl : zs.length ≤ 1000000000) : Calls Tryd.prog 28 #[v] w (MadeInts 3 w zs) := by
  have HV := Lib.hid hv
  obtain ⟨a, cap, b, off, rfl, hcap, hm, ha, hc⟩ := hv.open
  clear hv hc
  cases a with
  | none =>
    have hz : zs = [] := List.eq_nil_of_length_eq_zero (by
      rcases Nat.eq_zero_or_pos zs.length with h | h
      · exact h
      · have := ha h; cases this)
    subst hz
    clear ha
    have he := fun (w : World) => Lib.run_eql_slice_nil (P := Tryd.prog) w 22 3 none 0 cap 0 0 (by kernel_rfl)
    go_enter Tryd.func28, Tryd.ntmps28
    simp only [Option.isNone_none] at he
    go_wp2
    go_ret
    exact ⟨_, rfl, Own.nil _ _ _, Below.refl _ _⟩
  | some ad =>
    clear ha
    have he := fun (w : World) => Lib.run_eql_slice_nil (P := Tryd.prog) w 22 3 (some ad) zs.length cap 0 0 (by kernel_rfl)
    go_enter Tryd.func28, Tryd.ntmps28
    simp only [Option.isNone_some] at he
    have h0 := Lib.hid (show Own w.heap.size 3 (w.alloc (.cells #[] 3)) (.slice (some ⟨w.heap.size, 0, none⟩) 0 0) [] from Own.lit w [] 3 w.heap.size (Nat.le_refl _) (by simp [maxLen]))
    have h1 := Lib.hid (show Rd (w.alloc (.cells #[] 3)) (.slice (some ad) zs.length cap) (zs.map (Value.int .i64)) from HV.out.below ((Below.refl _ _).alloc (Nat.le_refl _) _))
    go_wp2_with (at_builtin; refine wp_appendR _ _ 22 3 8 _ elemInt rfl rfl (by kernel_rfl) w.heap.size _ _ [] (zs.map (Value.int .i64)) rfl h0.out rfl h1.out (by intro c hc; obtain ⟨z, -, rfl⟩ := List.mem_map.1 hc; rfl) (by simp [maxLen]; omega) (by simp; omega) (by simp) ?_; intro v' w' ho hb)
    go_ret
    exact ⟨_, rfl, by simpa using ho, ((Below.refl _ _).alloc (Nat.le_refl _) _).trans hb⟩
end Go.Proofs.YtnjopfjmepbpoaaDoor

/- Walks over pure states. -/
namespace Go.Proofs.YtnjopfjmepbpoaaDoor
set_option linter.unusedSimpArgs false
set_option linter.unusedVariables false
set_option linter.unnecessarySimpa false
open Go.RowKit

theorem ren_eqlow {κ : Nat → Nat} {S : Nat → Prop} {q p : PV} (h : q = p) (hl : Low q) : Ren κ S q p := by subst h; exact .low _ hl

set_option maxRecDepth 10000 in
set_option maxHeartbeats 1000000 in
theorem pw_equalI (l r : List Int) (hl : l.length ≤ 1000000000000) (hr : r.length ≤ 1000000000000) : PCalls Tryd.prog 41 [pints l, pints r] (· = pbool (decide (l = r))) := by
  refine pcalls_of_pw typeTab_ok Tryd.func41 rfl (by kernel_rfl) (by simp [low_pints]) (by simp [pints, PV.ownB]) (by rw [Tryd.ntmps41]; simp) ?_
  rw [Tryd.ntmps41, Tryd.results41]
  by_cases hlen : l.length = r.length
  · (repeat (first | (with_reducible first | refine PW.seq ?_ | refine PW.block ?_ | refine PW.skip ?_ | refine PW.exit ?_ | refine PW.ret ?_ | refine thenP ?_ | refine thenP_exit ?_ | refine thenP_ret ?_ | refine blockP ?_ | refine blockP_exit ?_ | refine blockP_ret ?_ | refine loopP_exit ?_ | refine loopP_ret ?_ | refine loopU_exit ?_ | refine loopU_ret ?_) | (first | refine PW.region typeTab_ok (by kernel_rfl) ?_ | refine PW.draw typeTab_ok (by kernel_rfl) (by kernel_rfl) (by kernel_rfl) ?_ | refine PW.condT rfl ?_ | refine PW.condF rfl ?_ | refine PW.condTe rfl (by assumption) ?_ | refine PW.condFe rfl (by assumption) ?_ | refine blockP_other (by decide) ?_) | (first | refine PWops.done ?_ | refine PWops.pass rfl rfl ?_ | refine PWops.boolK true rfl rfl rfl rfl (by (first | rfl | assumption | (simp only [decide_eq_true_eq, decide_eq_false_iff_not, bne_iff_ne, beq_iff_eq, beq_eq_false_iff_ne, bne_eq_false_iff_eq, ne_eq] ; omega))) rfl ?_ | refine PWops.boolK false rfl rfl rfl rfl (by (first | rfl | assumption | (simp only [decide_eq_true_eq, decide_eq_false_iff_not, bne_iff_ne, beq_iff_eq, beq_eq_false_iff_ne, bne_eq_false_iff_eq, ne_eq] ; omega))) rfl ?_ | refine PWops.fitsK rfl rfl rfl rfl (by (first | omega | (dsimp only ; omega))) (by (first | omega | (dsimp only ; omega))) rfl ?_ | refine PWops.lit rfl rfl rfl rfl rfl ?_ | refine PWops.app rfl rfl rfl rfl rfl rfl rfl rfl (by (first | omega | (dsimp only ; omega))) (by (first | omega | (dsimp only ; omega))) (by first | rfl | exact secL_one _ | exact one_pint _ | exact one_pstr _ | exact one_pbyte _ | exact one_pattrs _) ?_ | refine PWops.app0 rfl rfl rfl rfl rfl rfl rfl rfl (by (first | omega | (dsimp only ; omega))) (by (first | omega | (dsimp only ; omega))) (by first | rfl | exact secL_one _ | exact one_pint _ | exact one_pstr _ | exact one_pbyte _ | exact one_pattrs _) ?_ | refine PWops.idx1 rfl rfl rfl rfl rfl rfl rfl rfl (by (first | omega | (dsimp only ; omega))) ?_ | refine PWops.idx rfl rfl rfl rfl rfl rfl rfl rfl (by (first | omega | (dsimp only ; omega))) ?_ | refine PWops.val rfl rfl rfl rfl ?_ | refine PWops.own rfl rfl rfl rfl rfl ?_ | refine PWops.var rfl rfl rfl rfl ?_ | refine PWops.store rfl rfl rfl rfl ?_ | refine PWops.storeO rfl rfl rfl rfl rfl ?_ | refine PWops.ld rfl rfl rfl rfl rfl rfl rfl (by assumption) rfl ?_ | refine PWops.ldA rfl rfl rfl rfl rfl rfl (by (first | omega | (dsimp only ; omega))) (by assumption) ?_ | refine PWops.str rfl rfl rfl rfl rfl rfl rfl rfl rfl rfl rfl ?_)))
    refine PW.loop (fun k : Nat => ((((bot.put 0 (pints l)).put 1 (pints r)).put 4 (pbool false)).put 12 (pint l.length)).put 13 (pint k)) (fun k => k ≤ l.length ∧ l.take k = r.take k) (fun k => l.length - k) 0 ⟨by omega, by simp⟩ ?_ ?_
    · exact sb
    · rintro k ⟨hk, heq⟩
      by_cases hlt : k < l.length
      · obtain ⟨x, hx⟩ := ints_get l k hlt
        obtain ⟨y, hy⟩ := ints_get r k (by omega)
        have hx' := map_get (f := pint) hx
        have hy' := map_get (f := pint) hy
        by_cases hxy : x = y
        · (repeat (first | (with_reducible first | refine PW.seq ?_ | refine PW.block ?_ | refine PW.skip ?_ | refine PW.exit ?_ | refine PW.ret ?_ | refine thenP ?_ | refine thenP_exit ?_ | refine thenP_ret ?_ | refine blockP ?_ | refine blockP_exit ?_ | refine blockP_ret ?_ | refine loopP_exit ?_ | refine loopP_ret ?_ | refine loopU_exit ?_ | refine loopU_ret ?_) | (first | refine PW.region typeTab_ok (by kernel_rfl) ?_ | refine PW.draw typeTab_ok (by kernel_rfl) (by kernel_rfl) (by kernel_rfl) ?_ | refine PW.condT rfl ?_ | refine PW.condF rfl ?_ | refine PW.condTe rfl (by assumption) ?_ | refine PW.condFe rfl (by assumption) ?_ | refine blockP_other (by decide) ?_) | (first | refine PWops.done ?_ | refine PWops.pass rfl rfl ?_ | refine PWops.boolK true rfl rfl rfl rfl (by (first | rfl | assumption | (simp only [decide_eq_true_eq, decide_eq_false_iff_not, bne_iff_ne, beq_iff_eq, beq_eq_false_iff_ne, bne_eq_false_iff_eq, ne_eq] ; omega))) rfl ?_ | refine PWops.boolK false rfl rfl rfl rfl (by (first | rfl | assumption | (simp only [decide_eq_true_eq, decide_eq_false_iff_not, bne_iff_ne, beq_iff_eq, beq_eq_false_iff_ne, bne_eq_false_iff_eq, ne_eq] ; omega))) rfl ?_ | refine PWops.fitsK rfl rfl rfl rfl (by (first | omega | (dsimp only ; omega))) (by (first | omega | (dsimp only ; omega))) rfl ?_ | refine PWops.lit rfl rfl rfl rfl rfl ?_ | refine PWops.app rfl rfl rfl rfl rfl rfl rfl rfl (by (first | omega | (dsimp only ; omega))) (by (first | omega | (dsimp only ; omega))) (by first | rfl | exact secL_one _ | exact one_pint _ | exact one_pstr _ | exact one_pbyte _ | exact one_pattrs _) ?_ | refine PWops.app0 rfl rfl rfl rfl rfl rfl rfl rfl (by (first | omega | (dsimp only ; omega))) (by (first | omega | (dsimp only ; omega))) (by first | rfl | exact secL_one _ | exact one_pint _ | exact one_pstr _ | exact one_pbyte _ | exact one_pattrs _) ?_ | refine PWops.idx1 rfl rfl rfl rfl rfl rfl rfl rfl (by (first | omega | (dsimp only ; omega))) ?_ | refine PWops.idx rfl rfl rfl rfl rfl rfl rfl rfl (by (first | omega | (dsimp only ; omega))) ?_ | refine PWops.val rfl rfl rfl rfl ?_ | refine PWops.own rfl rfl rfl rfl rfl ?_ | refine PWops.var rfl rfl rfl rfl ?_ | refine PWops.store rfl rfl rfl rfl ?_ | refine PWops.storeO rfl rfl rfl rfl rfl ?_ | refine PWops.ld rfl rfl rfl rfl rfl rfl rfl (by assumption) rfl ?_ | refine PWops.ldA rfl rfl rfl rfl rfl rfl (by (first | omega | (dsimp only ; omega))) (by assumption) ?_ | refine PWops.str rfl rfl rfl rfl rfl rfl rfl rfl rfl rfl rfl ?_)))
          refine loopP (k + 1) ⟨by omega, ?_⟩ (by omega) ?_
          · rw [List.take_add_one, List.take_add_one, heq, hx, hy, hxy]
          · exact sb
        · (repeat (first | (with_reducible first | refine PW.seq ?_ | refine PW.block ?_ | refine PW.skip ?_ | refine PW.exit ?_ | refine PW.ret ?_ | refine thenP ?_ | refine thenP_exit ?_ | refine thenP_ret ?_ | refine blockP ?_ | refine blockP_exit ?_ | refine blockP_ret ?_ | refine loopP_exit ?_ | refine loopP_ret ?_ | refine loopU_exit ?_ | refine loopU_ret ?_) | (first | refine PW.region typeTab_ok (by kernel_rfl) ?_ | refine PW.draw typeTab_ok (by kernel_rfl) (by kernel_rfl) (by kernel_rfl) ?_ | refine PW.condT rfl ?_ | refine PW.condF rfl ?_ | refine PW.condTe rfl (by assumption) ?_ | refine PW.condFe rfl (by assumption) ?_ | refine blockP_other (by decide) ?_) | (first | refine PWops.done ?_ | refine PWops.pass rfl rfl ?_ | refine PWops.boolK true rfl rfl rfl rfl (by (first | rfl | assumption | (simp only [decide_eq_true_eq, decide_eq_false_iff_not, bne_iff_ne, beq_iff_eq, beq_eq_false_iff_ne, bne_eq_false_iff_eq, ne_eq] ; omega))) rfl ?_ | refine PWops.boolK false rfl rfl rfl rfl (by (first | rfl | assumption | (simp only [decide_eq_true_eq, decide_eq_false_iff_not, bne_iff_ne, beq_iff_eq, beq_eq_false_iff_ne, bne_eq_false_iff_eq, ne_eq] ; omega))) rfl ?_ | refine PWops.fitsK rfl rfl rfl rfl (by (first | omega | (dsimp only ; omega))) (by (first | omega | (dsimp only ; omega))) rfl ?_ | refine PWops.lit rfl rfl rfl rfl rfl ?_ | refine PWops.app rfl rfl rfl rfl rfl rfl rfl rfl (by (first | omega | (dsimp only ; omega))) (by (first | omega | (dsimp only ; omega))) (by first | rfl | exact secL_one _ | exact one_pint _ | exact one_pstr _ | exact one_pbyte _ | exact one_pattrs _) ?_ | refine PWops.app0 rfl rfl rfl rfl rfl rfl rfl rfl (by (first | omega | (dsimp only ; omega))) (by (first | omega | (dsimp only ; omega))) (by first | rfl | exact secL_one _ | exact one_pint _ | exact one_pstr _ | exact one_pbyte _ | exact one_pattrs _) ?_ | refine PWops.idx1 rfl rfl rfl rfl rfl rfl rfl rfl (by (first | omega | (dsimp only ; omega))) ?_ | refine PWops.idx rfl rfl rfl rfl rfl rfl rfl rfl (by (first | omega | (dsimp only ; omega))) ?_ | refine PWops.val rfl rfl rfl rfl ?_ | refine PWops.own rfl rfl rfl rfl rfl ?_ | refine PWops.var rfl rfl rfl rfl ?_ | refine PWops.store rfl rfl rfl rfl ?_ | refine PWops.storeO rfl rfl rfl rfl rfl ?_ | refine PWops.ld rfl rfl rfl rfl rfl rfl rfl (by assumption) rfl ?_ | refine PWops.ldA rfl rfl rfl rfl rfl rfl (by (first | omega | (dsimp only ; omega))) (by assumption) ?_ | refine PWops.str rfl rfl rfl rfl rfl rfl rfl rfl rfl rfl rfl ?_)))
          refine retP rfl (by exact lw) ?_
          have : l ≠ r := by rintro rfl; rw [hx] at hy; simp at hy; exact hxy hy
          simp [pbool, this]
      · (repeat (first | (with_reducible first | refine PW.seq ?_ | refine PW.block ?_ | refine PW.skip ?_ | refine PW.exit ?_ | refine PW.ret ?_ | refine thenP ?_ | refine thenP_exit ?_ | refine thenP_ret ?_ | refine blockP ?_ | refine blockP_exit ?_ | refine blockP_ret ?_ | refine loopP_exit ?_ | refine loopP_ret ?_ | refine loopU_exit ?_ | refine loopU_ret ?_) | (first | refine PW.region typeTab_ok (by kernel_rfl) ?_ | refine PW.draw typeTab_ok (by kernel_rfl) (by kernel_rfl) (by kernel_rfl) ?_ | refine PW.condT rfl ?_ | refine PW.condF rfl ?_ | refine PW.condTe rfl (by assumption) ?_ | refine PW.condFe rfl (by assumption) ?_ | refine blockP_other (by decide) ?_) | (first | refine PWops.done ?_ | refine PWops.pass rfl rfl ?_ | refine PWops.boolK true rfl rfl rfl rfl (by (first | rfl | assumption | (simp only [decide_eq_true_eq, decide_eq_false_iff_not, bne_iff_ne, beq_iff_eq, beq_eq_false_iff_ne, bne_eq_false_iff_eq, ne_eq] ; omega))) rfl ?_ | refine PWops.boolK false rfl rfl rfl rfl (by (first | rfl | assumption | (simp only [decide_eq_true_eq, decide_eq_false_iff_not, bne_iff_ne, beq_iff_eq, beq_eq_false_iff_ne, bne_eq_false_iff_eq, ne_eq] ; omega))) rfl ?_ | refine PWops.fitsK rfl rfl rfl rfl (by (first | omega | (dsimp only ; omega))) (by (first | omega | (dsimp only ; omega))) rfl ?_ | refine PWops.lit rfl rfl rfl rfl rfl ?_ | refine PWops.app rfl rfl rfl rfl rfl rfl rfl rfl (by (first | omega | (dsimp only ; omega))) (by (first | omega | (dsimp only ; omega))) (by first | rfl | exact secL_one _ | exact one_pint _ | exact one_pstr _ | exact one_pbyte _ | exact one_pattrs _) ?_ | refine PWops.app0 rfl rfl rfl rfl rfl rfl rfl rfl (by (first | omega | (dsimp only ; omega))) (by (first | omega | (dsimp only ; omega))) (by first | rfl | exact secL_one _ | exact one_pint _ | exact one_pstr _ | exact one_pbyte _ | exact one_pattrs _) ?_ | refine PWops.idx1 rfl rfl rfl rfl rfl rfl rfl rfl (by (first | omega | (dsimp only ; omega))) ?_ | refine PWops.idx rfl rfl rfl rfl rfl rfl rfl rfl (by (first | omega | (dsimp only ; omega))) ?_ | refine PWops.val rfl rfl rfl rfl ?_ | refine PWops.own rfl rfl rfl rfl rfl ?_ | refine PWops.var rfl rfl rfl rfl ?_ | refine PWops.store rfl rfl rfl rfl ?_ | refine PWops.storeO rfl rfl rfl rfl rfl ?_ | refine PWops.ld rfl rfl rfl rfl rfl rfl rfl (by assumption) rfl ?_ | refine PWops.ldA rfl rfl rfl rfl rfl rfl (by (first | omega | (dsimp only ; omega))) (by assumption) ?_ | refine PWops.str rfl rfl rfl rfl rfl rfl rfl rfl rfl rfl rfl ?_)))
        refine retP rfl (by exact lw) ?_
        have : l = r := by rw [List.take_of_length_le (by omega), List.take_of_length_le (by omega)] at heq; exact heq
        simp [pbool, this]
  · (repeat (first | (with_reducible first | refine PW.seq ?_ | refine PW.block ?_ | refine PW.skip ?_ | refine PW.exit ?_ | refine PW.ret ?_ | refine thenP ?_ | refine thenP_exit ?_ | refine thenP_ret ?_ | refine blockP ?_ | refine blockP_exit ?_ | refine blockP_ret ?_ | refine loopP_exit ?_ | refine loopP_ret ?_ | refine loopU_exit ?_ | refine loopU_ret ?_) | (first | refine PW.region typeTab_ok (by kernel_rfl) ?_ | refine PW.draw typeTab_ok (by kernel_rfl) (by kernel_rfl) (by kernel_rfl) ?_ | refine PW.condT rfl ?_ | refine PW.condF rfl ?_ | refine PW.condTe rfl (by assumption) ?_ | refine PW.condFe rfl (by assumption) ?_ | refine blockP_other (by decide) ?_) | (first | refine PWops.done ?_ | refine PWops.pass rfl rfl ?_ | refine PWops.boolK true rfl rfl rfl rfl (by (first | rfl | assumption | (simp only [decide_eq_true_eq, decide_eq_false_iff_not, bne_iff_ne, beq_iff_eq, beq_eq_false_iff_ne, bne_eq_false_iff_eq, ne_eq] ; omega))) rfl ?_ | refine PWops.boolK false rfl rfl rfl rfl (by (first | rfl | assumption | (simp only [decide_eq_true_eq, decide_eq_false_iff_not, bne_iff_ne, beq_iff_eq, beq_eq_false_iff_ne, bne_eq_false_iff_eq, ne_eq] ; omega))) rfl ?_ | refine PWops.fitsK rfl rfl rfl rfl (by (first | omega | (dsimp only ; omega))) (by (first | omega | (dsimp only ; omega))) rfl ?_ | refine PWops.lit rfl rfl rfl rfl rfl ?_ | refine PWops.app rfl rfl rfl rfl rfl rfl rfl rfl (by (first | omega | (dsimp only ; omega))) (by (first | omega | (dsimp only ; omega))) (by first | rfl | exact secL_one _ | exact one_pint _ | exact one_pstr _ | exact one_pbyte _ | exact one_pattrs _) ?_ | refine PWops.app0 rfl rfl rfl rfl rfl rfl rfl rfl (by (first | omega | (dsimp only ; omega))) (by (first | omega | (dsimp only ; omega))) (by first | rfl | exact secL_one _ | exact one_pint _ | exact one_pstr _ | exact one_pbyte _ | exact one_pattrs _) ?_ | refine PWops.idx1 rfl rfl rfl rfl rfl rfl rfl rfl (by (first | omega | (dsimp only ; omega))) ?_ | refine PWops.idx rfl rfl rfl rfl rfl rfl rfl rfl (by (first | omega | (dsimp only ; omega))) ?_ | refine PWops.val rfl rfl rfl rfl ?_ | refine PWops.own rfl rfl rfl rfl rfl ?_ | refine PWops.var rfl rfl rfl rfl ?_ | refine PWops.store rfl rfl rfl rfl ?_ | refine PWops.storeO rfl rfl rfl rfl rfl ?_ | refine PWops.ld rfl rfl rfl rfl rfl rfl rfl (by assumption) rfl ?_ | refine PWops.ldA rfl rfl rfl rfl rfl rfl (by (first | omega | (dsimp only ; omega))) (by assumption) ?_ | refine PWops.str rfl rfl rfl rfl rfl rfl rfl rfl rfl rfl rfl ?_)))
    refine retP rfl (by exact lw) ?_
    have : l ≠ r := by rintro rfl; exact hlen rfl
    simp [pbool, this]
end Go.Proofs.YtnjopfjmepbpoaaDoor

/- Walks: Fits of attr. -/
namespace Go.Proofs.YtnjopfjmepbpoaaDoor
set_option linter.unusedSimpArgs false
set_option linter.unusedVariables false
set_option linter.unnecessarySimpa false
open Go.RowKit

theorem fits1 (g : Nat) (d : PDef) (wv : Value) (a : PAttr) (w : World) (c5 : w.cell? ⟨g, 0, none⟩ = some (.string a.name)) :
    Calls Tryd.prog 52 #[defV d wv, .pointer (some ⟨g, 0, none⟩)] w (RetB w (eqB d.name a.name)) := by
  have hlt := World.block_lt_of_cell? _ _ c5
  unfold defV
  go_enter Tryd.func52, Tryd.ntmps52
  go_wp2
  go_ret
  exact RetB.mk rfl (below_alloc _ _)

theorem fits2 (g h : Nat) (a : PAttr) (bf : ByteArray) (w : World) (ha : AttrAt w g 0 a) (c5 : w.cell? ⟨h, 0, none⟩ = some (.string bf)) :
    Calls Tryd.prog 53 #[.pointer (some ⟨g, 0, none⟩), .pointer (some ⟨h, 0, none⟩)] w (RetB w (leqB a.name bf)) := by
  obtain ⟨c0, c1, c2, c3⟩ := ha
  go_enter Tryd.func53, Tryd.ntmps53
  go_wp2
  go_ret
  exact RetB.mk rfl (Below.refl _ _)

theorem fits3 (g h : Nat) (a : PAttr) (d : PDef) (wv : Value) (w : World) (ha : AttrAt w g 0 a) (hd : DefAt w h 0 d wv) :
    Calls Tryd.prog 54 #[.pointer (some ⟨g, 0, none⟩), .pointer (some ⟨h, 0, none⟩)] w (RetB w (a.kind != d.kind)) := by
  obtain ⟨c0, c1, c2, c3⟩ := ha
  obtain ⟨d0, d1, d2, d3, d4⟩ := hd
  go_enter Tryd.func54, Tryd.ntmps54
  go_wp2
  go_ret
  exact RetB.mk rfl (Below.refl _ _)

def formA (a : PAttr) : Bool := if a.kind == 1 then !a.s.toList.isEmpty else a.n != 0
def rangeA (d : PDef) (a : PAttr) : Bool := (a.kind == 1) && (decide (a.n < d.lo) || decide (d.hi < a.n))
def wordA (d : PDef) (a : PAttr) : Bool := !(a.kind == 1) && !hasB d.words a.s

theorem fits4 (g h : Nat) (a : PAttr) (w : World) (ha : AttrAt w g 0 a) (c5 : w.cell? ⟨h, 0, none⟩ = some (.bool (a.kind == 1))) :
    Calls Tryd.prog 55 #[.pointer (some ⟨h, 0, none⟩), .pointer (some ⟨g, 0, none⟩)] w (RetB w (formA a)) := by
  obtain ⟨c0, c1, c2, c3⟩ := ha
  unfold formA
  cases e : (a.kind == 1)
  · rw [e] at c5
    go_enter Tryd.func55, Tryd.ntmps55
    go_wp2
    go_ret
    exact RetB.mk (by simp) (Below.refl _ _)
  · rw [e] at c5
    cases e2 : a.s.toList.isEmpty
    all_goals
      go_enter Tryd.func55, Tryd.ntmps55
      go_wp2
      go_ret
      exact RetB.mk (by simp_all) (Below.refl _ _)

theorem fits5 (g h k : Nat) (a : PAttr) (d : PDef) (wv : Value) (w : World) (ha : AttrAt w g 0 a) (hd : DefAt w k 0 d wv) (c5 : w.cell? ⟨h, 0, none⟩ = some (.bool (a.kind == 1))) :
    Calls Tryd.prog 56 #[.pointer (some ⟨h, 0, none⟩), .pointer (some ⟨g, 0, none⟩), .pointer (some ⟨k, 0, none⟩)] w (RetB w (rangeA d a)) := by
  obtain ⟨c0, c1, c2, c3⟩ := ha
  obtain ⟨d0, d1, d2, d3, d4⟩ := hd
  unfold rangeA
  cases e : (a.kind == 1)
  · rw [e] at c5
    go_enter Tryd.func56, Tryd.ntmps56
    go_wp2
    go_ret
    exact RetB.mk (by simp) (Below.refl _ _)
  · rw [e] at c5
    cases e2 : decide (a.n < d.lo)
    all_goals
      go_enter Tryd.func56, Tryd.ntmps56
      go_wp2
      go_ret
      exact RetB.mk (by simp) (Below.refl _ _)

theorem fits6 (g h k : Nat) (a : PAttr) (d : PDef) (wv : Value) (w : World) (ha : AttrAt w g 0 a) (hd : DefAt w k 0 d wv) (hs : Strs w wv d.words) (hl : d.words.length ≤ 1000) (c5 : w.cell? ⟨h, 0, none⟩ = some (.bool (a.kind == 1))) :
    Calls Tryd.prog 57 #[.pointer (some ⟨h, 0, none⟩), .pointer (some ⟨k, 0, none⟩), .pointer (some ⟨g, 0, none⟩)] w (RetB w (wordA d a)) := by
  have HS := Lib.hid hs
  obtain ⟨c0, c1, c2, c3⟩ := ha
  obtain ⟨d0, d1, d2, d3, d4⟩ := hd
  clear hs
  unfold wordA
  cases e : (a.kind == 1)
  · rw [e] at c5
    go_enter Tryd.func57, Tryd.ntmps57
    go_wp2_with fail
    refine (slicesContainsS _ d.words a.s _ HS.out (by omega)).mono ?_
    rintro e w' ⟨rfl, rfl⟩
    go_wp2
    go_ret
    exact RetB.mk (by simp) (Below.refl _ _)
  · rw [e] at c5
    go_enter Tryd.func57, Tryd.ntmps57
    go_wp2
    go_ret
    exact RetB.mk (by simp) (Below.refl _ _)

theorem cF1 : CallOk 52 := fun _ _ => by kernel_rfl
theorem cF2 : CallOk 53 := fun _ _ => by kernel_rfl
theorem cF3 : CallOk 54 := fun _ _ => by kernel_rfl
theorem cF4 : CallOk 55 := fun _ _ => by kernel_rfl
theorem cF5 : CallOk 56 := fun _ _ => by kernel_rfl
theorem cF6 : CallOk 57 := fun _ _ => by kernel_rfl

/-- What the rules of an attribute find: the attribute, the name before, the definition, whether it is a number. -/
structure EnvF (a : PAttr) (d : PDef) (wv : Value) (bf : ByteArray) (g h k q : Nat) (w : World) : Prop where
  at_ : AttrAt w g 0 a
  bf : w.cell? ⟨h, 0, none⟩ = some (.string bf)
  df : DefAt w k 0 d wv
  ws : Strs w wv d.words
  nm : w.cell? ⟨q, 0, none⟩ = some (.bool (a.kind == 1))
theorem EnvF.below {a : PAttr} {d : PDef} {wv : Value} {bf : ByteArray} {g h k q : Nat} {w w' : World} (e : EnvF a d wv bf g h k q w) (hb : Below w.heap.size w w') : EnvF a d wv bf g h k q w' :=
  ⟨e.at_.below hb, below_cell hb e.bf, e.df.below hb, e.ws.below hb, below_cell hb e.nm⟩

def rulesF (a : PAttr) (d : PDef) (bf : ByteArray) (g h k q : Nat) : List Rule := [⟨53, #[.pointer (some ⟨g, 0, none⟩), .pointer (some ⟨h, 0, none⟩)], leqB a.name bf, 6⟩,
  ⟨54, #[.pointer (some ⟨g, 0, none⟩), .pointer (some ⟨k, 0, none⟩)], a.kind != d.kind, 130⟩,
  ⟨55, #[.pointer (some ⟨q, 0, none⟩), .pointer (some ⟨g, 0, none⟩)], formA a, 3⟩,
  ⟨56, #[.pointer (some ⟨q, 0, none⟩), .pointer (some ⟨g, 0, none⟩), .pointer (some ⟨k, 0, none⟩)], rangeA d a, 131⟩,
  ⟨57, #[.pointer (some ⟨q, 0, none⟩), .pointer (some ⟨k, 0, none⟩), .pointer (some ⟨g, 0, none⟩)], wordA d a, 131⟩]

def fitR (d : PDef) (bf : ByteArray) (a : PAttr) : List (Bool × Int) := [(leqB a.name bf, 6), (a.kind != d.kind, 130), (formA a, 3), (rangeA d a, 131), (wordA d a, 131)]

theorem runF {a : PAttr} {d : PDef} {wv : Value} {bf : ByteArray} {g h k q : Nat} {w : World} (e : EnvF a d wv bf g h k q w) (hl : d.words.length ≤ 1000) (v : Value) (hv : Rules w v (rulesF a d bf g h k q)) :
    Calls Tryd.prog 43 #[v] w (RetI w (firstE (fitR d bf a))) := by
  refine attrFirst v (rulesF a d bf g h k q) w hv (Nat.le_of_ble_eq_true rfl) ?_ ?_
  · intro r hr
    simp only [rulesF, List.mem_cons, List.not_mem_nil, or_false] at hr
    rcases hr with rfl | rfl | rfl | rfl | rfl
    · exact cF2
    · exact cF3
    · exact cF4
    · exact cF5
    · exact cF6
  · intro r hr w' hb
    have e' := e.below hb
    simp only [rulesF, List.mem_cons, List.not_mem_nil, or_false] at hr
    rcases hr with rfl | rfl | rfl | rfl | rfl
    · exact fits2 g h a bf w' e'.at_ e'.bf
    · exact fits3 g k a d wv w' e'.at_ e'.df
    · exact fits4 g q a w' e'.at_ e'.nm
    · exact fits5 g q k a d wv w' e'.at_ e'.df e'.nm
    · exact fits6 g q k a d wv w' e'.at_ e'.df e'.ws hl e'.nm

/-- The rules say what the specification says. -/
theorem fitR_eq (d : PDef) (bf : ByteArray) (a : PAttr) : firstE (fitR d bf a) = if leqB a.name bf then 6 else valueE d a := by
  have he := eqB_empty a.s
  unfold fitR firstE
  cases leqB a.name bf
  · simp only [Bool.false_eq_true, if_false]
    unfold firstE valueE
    by_cases h1 : a.kind = d.kind
    · by_cases h2 : a.kind = 1
      · have e2 : (a.kind == 1) = true := by simp [h2]
        rw [if_neg (show ¬ (a.kind != d.kind) = true by simp [h1]), if_neg (show ¬ a.kind ≠ d.kind from fun h => h h1), if_pos h2]
        simp only [firstE, formA, rangeA, wordA, e2, if_true, Bool.true_and, Bool.not_true, Bool.false_and, Bool.false_eq_true, if_false, he]
        cases a.s.toList.isEmpty
        · simp
        · simp
      · have e2 : (a.kind == 1) = false := by simp [h2]
        rw [if_neg (show ¬ (a.kind != d.kind) = true by simp [h1]), if_neg (show ¬ a.kind ≠ d.kind from fun h => h h1), if_neg h2]
        simp only [firstE, formA, rangeA, wordA, e2, Bool.false_eq_true, if_false, Bool.false_and, Bool.not_false, Bool.true_and]
        by_cases h3 : a.n = 0
        · simp [h3]; cases hasB d.words a.s <;> simp
        · simp [h3]
    · rw [if_pos (show (a.kind != d.kind) = true by simp [h1]), if_pos h1]
  · rfl

theorem fitsGo_drop (ds : List PDef) (l : List PAttr) (k : Nat) (b : ByteArray) (a : PAttr) (h : l[k]? = some a) : fitsGo ds b false (l.drop k) = if fitE ds b false a ≠ 0 then fitE ds b false a else fitsGo ds a.name false (l.drop (k+1)) := by
  obtain ⟨hk, rfl⟩ := List.getElem?_eq_some_iff.1 h
  rw [List.drop_eq_getElem_cons (by omega), fitsGo]
theorem fitsGo_end (ds : List PDef) (l : List PAttr) (k : Nat) (b : ByteArray) (f : Bool) (h : l.length ≤ k) : fitsGo ds b f (l.drop k) = 0 := by
  rw [List.drop_eq_nil_of_le h, fitsGo]

theorem fitE_none (ds : List PDef) (b : ByteArray) (f : Bool) (a : PAttr) (h : findI ds a.name < 0) : fitE ds b f a = 5 := by rw [fitE, if_pos h]
theorem fitE_some (ds : List PDef) (b : ByteArray) (a : PAttr) (k : Nat) (d : PDef) (h : findI ds a.name = k) (hd : ds[k]? = some d) : fitE ds b false a = firstE (fitR d b a) := by
  rw [fitE, if_neg (by omega), fitR_eq, h, Int.toNat_natCast, hd]; rfl

end Go.Proofs.YtnjopfjmepbpoaaDoor

/- Walks: Fits of attr. -/
namespace Go.Proofs.YtnjopfjmepbpoaaDoor
set_option linter.unusedSimpArgs false
set_option linter.unusedVariables false
set_option linter.unnecessarySimpa false
open Go.RowKit

theorem findI_cases (ds : List PDef) (nm : ByteArray) : findI ds nm = -1 ∨ ∃ (k : Nat) (d : PDef), findI ds nm = k ∧ ds[k]? = some d := by
  by_cases h : findI ds nm < 0
  · left; have := idxB_ge (ds.map fun d => eqB d.name nm); unfold findI at *; omega
  · right
    have h1 := idxB_lt (ds.map fun d => eqB d.name nm) (by unfold findI at h; omega)
    rw [List.length_map] at h1
    refine ⟨(findI ds nm).toNat, ds[(findI ds nm).toNat]'(by unfold findI at *; omega), by omega, by simp⟩

theorem EnvF.box1 {a : PAttr} {d : PDef} {wv : Value} {bf : ByteArray} {g h : Nat} {w : World} (ha : AttrAt w g 0 a) (hb : w.cell? ⟨h, 0, none⟩ = some (.string bf)) (hs : Strs w wv d.words) (o : Obj) :
    EnvF a d wv bf g h w.heap.size (w.heap.size + 1) (((w.alloc (.cells #[.string d.name, .int .i64 d.kind, .int .i64 d.lo, .int .i64 d.hi, wv] 74)).alloc (.cells #[.bool (a.kind == 1)] 4)).alloc o) := by
  refine EnvF.below ⟨ha.below (below_two _ _ _), below_cell (below_two _ _ _) hb, (DefAt.box w d wv _).below (below_alloc _ _), hs.below (below_two _ _ _), ?_⟩ (below_alloc _ _)
  simp
theorem EnvF.box2 {a : PAttr} {d : PDef} {wv : Value} {bf : ByteArray} {g h : Nat} {w : World} (ha : AttrAt w g 0 a) (hb : w.cell? ⟨h, 0, none⟩ = some (.string bf)) (hs : Strs w wv d.words) (o : Obj) :
    EnvF a d wv bf g h (w.heap.size + 1) w.heap.size (((w.alloc (.cells #[.bool (a.kind == 1)] 4)).alloc (.cells #[.string d.name, .int .i64 d.kind, .int .i64 d.lo, .int .i64 d.hi, wv] 74)).alloc o) := by
  refine EnvF.below ⟨ha.below (below_two _ _ _), below_cell (below_two _ _ _) hb, ?_, hs.below (below_two _ _ _), below_cell (below_alloc _ _) (by simp)⟩ (below_alloc _ _)
  have := DefAt.box (w.alloc (.cells #[.bool (a.kind == 1)] 4)) d wv 74
  simpa using this

theorem below_drew1 {w w' : World} (h : Below w.heap.size w w') : Below w.heap.size w w'.drew := h.drew
theorem EnvF.drew {a : PAttr} {d : PDef} {wv : Value} {bf : ByteArray} {g h k q : Nat} {w : World} (e : EnvF a d wv bf g h k q w) : EnvF a d wv bf g h k q w.drew := e.below ((Below.refl _ _).drew)
theorem Rules.drew {w : World} {v : Value} {rs : List Rule} (h : Rules w v rs) : Rules w.drew v rs := h

theorem runF1 {a : PAttr} {d : PDef} {wv : Value} {bf : ByteArray} {g h n : Nat} {T : TypeId} {cs : Array Value} {w : World} (ha : AttrAt w g 0 a) (hb : w.cell? ⟨h, 0, none⟩ = some (.string bf)) (hs : Strs w wv d.words) (hl : d.words.length ≤ 1000)
    (hn : n = w.heap.size + 1 + 1) (hcs : cs = ((rulesF a d bf g h w.heap.size (w.heap.size + 1)).map ruleC).flatten.toArray) :
    Calls Tryd.prog 43 #[.slice (some ⟨n, 0, none⟩) 5 5] (((w.alloc (.cells #[.string d.name, .int .i64 d.kind, .int .i64 d.lo, .int .i64 d.hi, wv] 74)).alloc (.cells #[.bool (a.kind == 1)] 4)).alloc (.cells cs T)).drew (RetI w (firstE (fitR d bf a))) := by
  refine (runF ((EnvF.box1 ha hb hs _).drew) hl _ (Rules.drew (Rules.mk (rulesF a d bf _ _ _ _) (Nat.le_of_ble_eq_true rfl) (by simp [hn]) rfl hcs))).mono ?_
  rintro e w' ⟨rfl, hb'⟩
  exact ⟨rfl, blift (below_drew1 (below_three _ _ _ _)) hb'⟩
theorem runF2 {a : PAttr} {d : PDef} {wv : Value} {bf : ByteArray} {g h n : Nat} {T : TypeId} {cs : Array Value} {w : World} (ha : AttrAt w g 0 a) (hb : w.cell? ⟨h, 0, none⟩ = some (.string bf)) (hs : Strs w wv d.words) (hl : d.words.length ≤ 1000)
    (hn : n = w.heap.size + 1 + 1) (hcs : cs = ((rulesF a d bf g h (w.heap.size + 1) w.heap.size).map ruleC).flatten.toArray) :
    Calls Tryd.prog 43 #[.slice (some ⟨n, 0, none⟩) 5 5] (((w.alloc (.cells #[.bool (a.kind == 1)] 4)).alloc (.cells #[.string d.name, .int .i64 d.kind, .int .i64 d.lo, .int .i64 d.hi, wv] 74)).alloc (.cells cs T)).drew (RetI w (firstE (fitR d bf a))) := by
  refine (runF ((EnvF.box2 ha hb hs _).drew) hl _ (Rules.drew (Rules.mk (rulesF a d bf _ _ _ _) (Nat.le_of_ble_eq_true rfl) (by simp [hn]) rfl hcs))).mono ?_
  rintro e w' ⟨rfl, hb'⟩
  exact ⟨rfl, blift (below_drew1 (below_three _ _ _ _)) hb'⟩

set_option maxRecDepth 100000 in
set_option maxHeartbeats 1000000 in
theorem attrFits (v u : Value) (s : PSchema) (l : List PAttr) (w : World) (hv : SchemaV w v s) (hu : Attrs w u l) (hsm : SmallS s) (hl : l.length ≤ 1000000) :
    Calls Tryd.prog 23 #[v, u] w (RetI w (fitsGo s.defs ByteArray.empty false l)) := by
  obtain ⟨dv, rfl, hd⟩ := hv
  obtain ⟨s1, s2⟩ := hsm
  have S2 : Hid (∀ d ∈ s.defs, SmallD d) := s2
  have HB := Lib.hid (SchAt.box w s dv 43 hd)
  have hw0 : Below w.heap.size w (w.alloc (.cells #[.int .i64 s.dims, .int .i64 s.metric, dv] 43)) := below_alloc _ _
  have HU := Lib.hid (hu.below hw0)
  obtain ⟨a, cap, b, off, rfl, hcap, hm, ha, hc⟩ := HU.out.open
  clear s2 hd hu
  go_enter Tryd.func23, Tryd.ntmps23
  go_wp2
  generalize hw : w.alloc (.cells #[.int .i64 s.dims, .int .i64 s.metric, dv] 43) = w0 at *
  have hsz : w.heap.size + 1 = w0.heap.size := by rw [← hw]; simp
  simp only [hsz]
  have hsz' : w.heap.size < w0.heap.size := by omega
  clear hw hsz
  have hda := HB.out.2.2.2.open
  go_loopw [14] (fun i wr => ∃ (k : Nat) (bf : ByteArray), k ≤ l.length ∧ i = .int .i64 k ∧ Below w0.heap.size w0 wr ∧ w0.heap.size < wr.heap.size ∧ wr.cell? ⟨w0.heap.size, 0, none⟩ = some (.string bf) ∧ wr.frozen? ⟨w0.heap.size, 0, none⟩ = false ∧ Hid (fitsGo s.defs ByteArray.empty false l = fitsGo s.defs bf false (l.drop k))) (fun i _ => l.length - (intOf i).toNat)
  case atStart => exact ⟨0, ByteArray.empty, by omega, rfl, below_alloc _ _, by simp, by simp; rfl, by simp, rfl⟩
  case round =>
    obtain ⟨k, bf, hk, rfl, hb, hlt5, c5, f5, hh⟩ := hrel
    obtain ⟨a2, cap2, b2, off2, rfl, hcap2, hm2, ha2, hc2⟩ := hda
    have HS := Lib.hid (HB.out.below hb)
    have c2 := HS.out.2.2.1
    by_cases hlt : k < l.length
    · obtain ⟨y, hy⟩ := ints_get l k (by omega)
      have hy0 := hc.out k y hy
      have hbl : b < w0.heap.size := hy0.lt
      obtain ⟨d0, d1, d2, d3⟩ := hy0.below hb
      have hbw := hb.size
      have hlt6 : w.heap.size < wr.heap.size := by omega
      have hbl2 : b < wr.heap.size := by omega
      have H := Lib.hid (fitsGo_drop s.defs l k bf y hy)
      obtain rfl := ha (by omega)
      clear hc hy ha hy0
      go_wp2_with fail
      have hba := below_alloc wr (.cells #[.string y.name, .int .i64 y.kind, .int .i64 y.n, .string y.s] 50)
      have AT := Lib.hid (AttrAt.box wr y 50)
      have hga : wr.heap.size < (wr.alloc (.cells #[.string y.name, .int .i64 y.kind, .int .i64 y.n, .string y.s] 50)).heap.size := by simp
      clear d0 d1 d2 d3
      generalize wr.alloc (.cells #[.string y.name, .int .i64 y.kind, .int .i64 y.n, .string y.s] 50) = wa at *
      refine (indexDef _ s.defs _ _ (fun d => eqB d.name y.name) wa (HS.out.below hba).2.2.2 (by omega) cF1 (fun x hx wv w' hb' => fits1 _ x wv y w' (AT.out.below hb').1)).mono ?_
      rintro e w1 ⟨rfl, hb1⟩
      have hbr := blift hba hb1
      have hb2 := blift hb hbr
      have AT1 := Lib.hid (AT.out.below hb1)
      have c5' := below_cell hbr c5
      have f5' : w1.frozen? ⟨w0.heap.size, 0, none⟩ = false := by rw [hbr.frozen hlt5, f5]
      have c2' := below_cell hbr c2
      have hs1 := hb1.size
      have g1 : wr.heap.size < w1.heap.size := by omega
      clear c5 f5 c2 AT HS hba hb1 hbr hga hs1
      rcases findI_cases s.defs y.name with hf | ⟨q, d, hf, hd⟩
      · have F := Lib.hid (fitE_none s.defs bf false y (by omega))
        unfold findI at hf
        rw [hf]
        clear hf hc2 ha2
        go_wp2
        go_ret
        exact RetI.mk (by rw [hh.out, H.out, F.out]; rfl) (blift hw0 hb2)
      · have F := Lib.hid (fitE_some s.defs bf y q d hf hd)
        unfold findI at hf
        rw [hf]
        have hq : q < s.defs.length := (List.getElem?_eq_some_iff.1 hd).1
        obtain ⟨wv, hdd, hds⟩ := hc2.out q d hd
        obtain ⟨e0, e1, e2, e3, e4⟩ := hdd.below hb2
        have DS := Lib.hid (hds.below hb2)
        have hw := (S2.out d (List.mem_of_getElem? hd)).2.1
        have hb2l : b2 < w1.heap.size := World.block_lt_of_cell? _ _ e0
        obtain rfl := ha2 (by omega)
        obtain ⟨a0, a1, a2', a3⟩ := AT1.out
        clear hf hd hc2 ha2 hdd hds
        obtain ⟨a5, cap5, b5, off5, rfl, -, -, -, -⟩ := DS.out.open
        have g2 : w.heap.size < w1.heap.size := by omega
        have g3 : w0.heap.size < w1.heap.size := by omega
        have hq2 : decide ((q : Int) < 0) = false := by simp only [decide_eq_false_iff_not]; omega
        go_wp2
        go_region
        all_goals (try go_wp2_with fail)
        all_goals
          first
          | refine (runF1 AT1.out c5' DS.out hw rfl rfl).mono ?_
          | refine (runF2 AT1.out c5' DS.out hw rfl rfl).mono ?_
          rintro e w2 ⟨rfl, hb4⟩
          have hs4 := hb4.size
          have c6 := below_cell hb4 c5'
          have f6 : w2.frozen? ⟨w0.heap.size, 0, none⟩ = false := by rw [hb4.frozen g3, f5']
          have a6 := below_cell hb4 a0
          have hb5 := blift hb2 hb4
          clear hb4 c5' f5' a0 a1 a2' a3 e0 e1 e2 e3 e4 c2'
          by_cases hz : firstE (fitR d bf y) = 0
          · rw [hz] at F ⊢
            go_wp2
            go_roundw
            case rel =>
              refine ⟨k + 1, y.name, by omega, by go_num, hb5.setCell (Nat.le_refl _) _, ?_, ?_, ?_, by rw [Hid, hh.out, H.out, F.out]; rfl⟩
              · simp only [World.setCell, Array.size_modify]; omega
              · exact World.cell?_setCell_same _ _ _ c6
              · rw [World.frozen?_setCell]; exact f6
            case measure => simp [intOf]; omega
          · have hz' : (firstE (fitR d bf y) != 0) = true := by simp [hz]
            have HZ := Lib.hid hz
            generalize firstE (fitR d bf y) = x at *
            clear hz
            go_wp2
            go_ret
            exact RetI.mk (by rw [hh.out, H.out, F.out, if_pos HZ.out]) (blift hw0 hb5)
    · clear hc ha hc2 ha2
      go_wp2
      go_ret
      exact RetI.mk (by rw [hh.out, fitsGo_end _ _ _ _ _ (by omega)]) (blift hw0 hb)

end Go.Proofs.YtnjopfjmepbpoaaDoor

/- Walks: Valid of vector and antiquaryref04. -/
namespace Go.Proofs.YtnjopfjmepbpoaaDoor
set_option linter.unusedSimpArgs false
set_option linter.unusedVariables false
set_option linter.unnecessarySimpa false
open Go.RowKit

def inV (x : Int) : Bool := decide (-1000 ≤ x) && decide (x ≤ 1000)
theorem validV_eq (v : List Int) : validV v = (v.all inV && (decide (1 ≤ v.length) && decide (v.length ≤ 32))) := rfl

theorem all_drop {α : Type} (l : List α) (p : α → Bool) (k : Nat) (x : α) (h : l[k]? = some x) : (l.drop k).all p = (p x && (l.drop (k+1)).all p) := by
  obtain ⟨hk, rfl⟩ := List.getElem?_eq_some_iff.1 h
  rw [List.drop_eq_getElem_cons (by omega), List.all_cons]
theorem all_end {α : Type} (l : List α) (p : α → Bool) (k : Nat) (h : l.length ≤ k) : (l.drop k).all p = true := by
  rw [List.drop_eq_nil_of_le h]; rfl

theorem valid1 (b : Bool) (x : Int) (w : World) : Calls Tryd.prog 101 #[.bool b, .int .i64 x] w (fun e w' => e = .returned (.bool (b && inV x)) ∧ w = w') := by
  unfold inV
  cases b
  · go_enter Tryd.func101, Tryd.ntmps101
    go_wp2
    go_ret
    exact ⟨rfl, rfl⟩
  · cases e : decide (-1000 ≤ x)
    all_goals
      go_enter Tryd.func101, Tryd.ntmps101
      go_wp2
      go_ret
      exact ⟨ret_bool (by simp), rfl⟩

set_option maxRecDepth 100000 in
set_option maxHeartbeats 400000 in
theorem foldValid (v : Value) (l : List Int) (w : World) (hv : Ints w v l) (hl : l.length ≤ 1000000000) :
    Calls Tryd.prog 100 #[v, .bool true, .func (.func 101) #[] #[]] w (fun e w' => e = .returned (.bool (l.all inV)) ∧ w = w') := by
  obtain ⟨a, cap, b, off, rfl, hcap, hm, ha, hc⟩ := hv.open
  clear hv
  go_enter Tryd.func100, Tryd.ntmps100
  go_wp2
  go_loop [1, 11] (fun t i => ∃ (k : Nat) (b : Bool), k ≤ l.length ∧ t = .bool b ∧ i = .int .i64 k ∧ Hid (l.all inV = (b && (l.drop k).all inV))) (fun _ i => l.length - (intOf i).toNat)
  case atStart => exact ⟨0, true, by omega, rfl, rfl, by simp [Hid]⟩
  case round =>
    obtain ⟨k, b, hk, rfl, rfl, hh⟩ := hrel
    by_cases hlt : k < l.length
    · obtain ⟨y, hy⟩ := ints_get l k (by omega)
      have c0 := hc.out k y hy
      have H := Lib.hid (all_drop l inV k y hy)
      obtain rfl := ha (by omega)
      clear hy ha hc
      go_wp2_with fail
      refine (valid1 b y _).mono ?_
      rintro e w' ⟨rfl, rfl⟩
      go_wp2
      go_round
      case rel => exact ⟨k + 1, _, by omega, rfl, by go_num, by rw [Hid, hh.out, H.out, Bool.and_assoc]⟩
      case measure => simp [intOf]; omega
    · clear hc ha
      go_wp2
      go_ret
      exact ⟨ret_bool (by rw [hh.out, all_end _ _ _ (by omega)]; simp), rfl⟩

set_option maxRecDepth 100000 in
set_option maxHeartbeats 400000 in
theorem vectorValid (v : Value) (l : List Int) (w : World) (hv : Ints w v l) (hl : l.length ≤ 1000000000) :
    Calls Tryd.prog 65 #[v] w (fun e w' => e = .returned (.bool (validV l)) ∧ w = w') := by
  have HV := Lib.hid hv
  obtain ⟨a, cap, b, off, rfl, hcap, hm, ha, hc⟩ := hv.open
  unfold maxLen at hm
  clear hv ha hc
  rw [validV_eq]
  cases e : l.all inV
  · have E := Lib.hid e
    clear e
    go_enter Tryd.func65, Tryd.ntmps65
    go_wp2_with fail
    refine (foldValid _ l _ HV.out (by omega)).mono ?_
    rintro e w' ⟨rfl, rfl⟩
    rw [E.out]
    go_wp2
    go_ret
    exact ⟨ret_bool (by simp), rfl⟩
  · have E := Lib.hid e
    clear e
    have e1 : decide ((1 : Int) ≤ (l.length : Int)) = decide (1 ≤ l.length) := by rw [Bool.eq_iff_iff]; simp only [decide_eq_true_eq]; omega
    have e2 : decide ((l.length : Int) ≤ 32) = decide (l.length ≤ 32) := by rw [Bool.eq_iff_iff]; simp only [decide_eq_true_eq]; omega
    cases f1 : decide (1 ≤ l.length) <;> cases f2 : decide (l.length ≤ 32)
    all_goals
      rw [f1] at e1
      rw [f2] at e2
      clear f1 f2
      go_enter Tryd.func65, Tryd.ntmps65
      go_wp2_with fail
      refine (foldValid _ l _ HV.out (by omega)).mono ?_
      rintro e w' ⟨rfl, rfl⟩
      rw [E.out]
      go_wp2
      go_ret
      exact ⟨ret_bool (by simp), rfl⟩

end Go.Proofs.YtnjopfjmepbpoaaDoor

/- Walks: Fits of antiquaryref13. -/
namespace Go.Proofs.YtnjopfjmepbpoaaDoor
set_option linter.unusedSimpArgs false
set_option linter.unusedVariables false
set_option linter.unnecessarySimpa false
open Go.RowKit

/-- The name before place k; empty ahead of the first. -/
def befN (l : List PAttr) (k : Nat) : ByteArray := match k with | 0 => ByteArray.empty | j+1 => match l[j]? with | some a => a.name | none => ByteArray.empty

theorem fitsGo_dropT (ds : List PDef) (l : List PAttr) (k : Nat) (a : PAttr) (h : l[k]? = some a) : fitsGo ds (befN l k) (k == 0) (l.drop k) = if fitE ds (befN l k) (k == 0) a ≠ 0 then fitE ds (befN l k) (k == 0) a else fitsGo ds (befN l (k+1)) (k + 1 == 0) (l.drop (k+1)) := by
  obtain ⟨hk, rfl⟩ := List.getElem?_eq_some_iff.1 h
  have e : befN l (k+1) = l[k].name := by simp only [befN, h]
  rw [List.drop_eq_getElem_cons (by omega), fitsGo, e]; rfl

theorem fitE_first (ds : List PDef) (b : ByteArray) (a : PAttr) (k : Nat) (d : PDef) (h : findI ds a.name = k) (hd : ds[k]? = some d) : fitE ds b true a = valueE d a := by
  rw [fitE, if_neg (by omega), h, Int.toNat_natCast, hd]; simp
theorem fitE_later (ds : List PDef) (b : ByteArray) (a : PAttr) (k : Nat) (d : PDef) (h : findI ds a.name = k) (hd : ds[k]? = some d) : fitE ds b false a = if leqB a.name b then 6 else valueE d a := by
  rw [fitE, if_neg (by omega), h, Int.toNat_natCast, hd]; simp

end Go.Proofs.YtnjopfjmepbpoaaDoor

/- Walks: the rules of Entry, Entry of attr. -/
namespace Go.Proofs.YtnjopfjmepbpoaaDoor
set_option linter.unusedSimpArgs false
set_option linter.unusedVariables false
set_option linter.unnecessarySimpa false
open Go.RowKit

def idBad (e : PEntry) : Bool := decide (e.id < 1) || (decide (1073741824 < e.id) || (decide (e.owner < 1) || (decide (1073741824 < e.owner) || (decide (e.ver < 1) || (decide (1073741824 < e.ver))))))
theorem entry1 (g : Nat) (e : PEntry) (vv av : Value) (w : World) (h : EntAt w g e vv av) : Calls Tryd.prog 60 #[.pointer (some ⟨g, 0, none⟩)] w (RetB w (idBad e)) := by
  obtain ⟨c0, c1, c2, c3, c4, c5, c6, c7, c8, -, -⟩ := h
  cases h0 : decide (e.id < 1)
  case true =>
    go_enter Tryd.func60, Tryd.ntmps60
    go_wp2
    go_ret
    exact RetB.mk (by simp [idBad, h0]) (Below.refl _ _)
  cases h1 : decide (1073741824 < e.id)
  case true =>
    go_enter Tryd.func60, Tryd.ntmps60
    go_wp2
    go_ret
    exact RetB.mk (by simp [idBad, h0, h1]) (Below.refl _ _)
  cases h2 : decide (e.owner < 1)
  case true =>
    go_enter Tryd.func60, Tryd.ntmps60
    go_wp2
    go_ret
    exact RetB.mk (by simp [idBad, h0, h1, h2]) (Below.refl _ _)
  cases h3 : decide (1073741824 < e.owner)
  case true =>
    go_enter Tryd.func60, Tryd.ntmps60
    go_wp2
    go_ret
    exact RetB.mk (by simp [idBad, h0, h1, h2, h3]) (Below.refl _ _)
  cases h4 : decide (e.ver < 1)
  case true =>
    go_enter Tryd.func60, Tryd.ntmps60
    go_wp2
    go_ret
    exact RetB.mk (by simp [idBad, h0, h1, h2, h3, h4]) (Below.refl _ _)
  cases h5 : decide (1073741824 < e.ver)
  case true =>
    go_enter Tryd.func60, Tryd.ntmps60
    go_wp2
    go_ret
    exact RetB.mk (by simp [idBad, h0, h1, h2, h3, h4, h5]) (Below.refl _ _)
  go_enter Tryd.func60, Tryd.ntmps60
  go_wp2
  go_ret
  exact RetB.mk (by simp [idBad, h0, h1, h2, h3, h4, h5]) (Below.refl _ _)
theorem cE1 : CallOk 60 := fun _ _ => by kernel_rfl

def fromBad (e : PEntry) : Bool := decide (e.filed < 0) || (decide (e.frm < e.filed) || (decide (1048576 < e.frm)))
theorem entry2 (g : Nat) (e : PEntry) (vv av : Value) (w : World) (h : EntAt w g e vv av) : Calls Tryd.prog 61 #[.pointer (some ⟨g, 0, none⟩)] w (RetB w (fromBad e)) := by
  obtain ⟨c0, c1, c2, c3, c4, c5, c6, c7, c8, -, -⟩ := h
  cases h0 : decide (e.filed < 0)
  case true =>
    go_enter Tryd.func61, Tryd.ntmps61
    go_wp2
    go_ret
    exact RetB.mk (by simp [fromBad, h0]) (Below.refl _ _)
  cases h1 : decide (e.frm < e.filed)
  case true =>
    go_enter Tryd.func61, Tryd.ntmps61
    go_wp2
    go_ret
    exact RetB.mk (by simp [fromBad, h0, h1]) (Below.refl _ _)
  cases h2 : decide (1048576 < e.frm)
  case true =>
    go_enter Tryd.func61, Tryd.ntmps61
    go_wp2
    go_ret
    exact RetB.mk (by simp [fromBad, h0, h1, h2]) (Below.refl _ _)
  go_enter Tryd.func61, Tryd.ntmps61
  go_wp2
  go_ret
  exact RetB.mk (by simp [fromBad, h0, h1, h2]) (Below.refl _ _)
theorem cE2 : CallOk 61 := fun _ _ => by kernel_rfl

def toBad (e : PEntry) : Bool := decide (e.to ≤ e.frm) || (decide (1048577 < e.to))
theorem entry3 (g : Nat) (e : PEntry) (vv av : Value) (w : World) (h : EntAt w g e vv av) : Calls Tryd.prog 62 #[.pointer (some ⟨g, 0, none⟩)] w (RetB w (toBad e)) := by
  obtain ⟨c0, c1, c2, c3, c4, c5, c6, c7, c8, -, -⟩ := h
  cases h0 : decide (e.to ≤ e.frm)
  case true =>
    go_enter Tryd.func62, Tryd.ntmps62
    go_wp2
    go_ret
    exact RetB.mk (by simp [toBad, h0]) (Below.refl _ _)
  cases h1 : decide (1048577 < e.to)
  case true =>
    go_enter Tryd.func62, Tryd.ntmps62
    go_wp2
    go_ret
    exact RetB.mk (by simp [toBad, h0, h1]) (Below.refl _ _)
  go_enter Tryd.func62, Tryd.ntmps62
  go_wp2
  go_ret
  exact RetB.mk (by simp [toBad, h0, h1]) (Below.refl _ _)
theorem cE3 : CallOk 62 := fun _ _ => by kernel_rfl

def bornBad (e : PEntry) : Bool := decide (e.born < 1) || (decide (1073741824 < e.born))
theorem entry4 (g : Nat) (e : PEntry) (vv av : Value) (w : World) (h : EntAt w g e vv av) : Calls Tryd.prog 63 #[.pointer (some ⟨g, 0, none⟩)] w (RetB w (bornBad e)) := by
  obtain ⟨c0, c1, c2, c3, c4, c5, c6, c7, c8, -, -⟩ := h
  cases h0 : decide (e.born < 1)
  case true =>
    go_enter Tryd.func63, Tryd.ntmps63
    go_wp2
    go_ret
    exact RetB.mk (by simp [bornBad, h0]) (Below.refl _ _)
  cases h1 : decide (1073741824 < e.born)
  case true =>
    go_enter Tryd.func63, Tryd.ntmps63
    go_wp2
    go_ret
    exact RetB.mk (by simp [bornBad, h0, h1]) (Below.refl _ _)
  go_enter Tryd.func63, Tryd.ntmps63
  go_wp2
  go_ret
  exact RetB.mk (by simp [bornBad, h0, h1]) (Below.refl _ _)
theorem cE4 : CallOk 63 := fun _ _ => by kernel_rfl

def vecBad (s : PSchema) (e : PEntry) : Bool := ((e.vec.length : Int) != s.dims) || !validV e.vec
theorem entry5 (g h : Nat) (e : PEntry) (vv av : Value) (s : PSchema) (dv : Value) (w : World) (he : EntAt w g e vv av) (hs : SchAt w h s dv) (hl : e.vec.length ≤ 1000000) :
    Calls Tryd.prog 64 #[.pointer (some ⟨g, 0, none⟩), .pointer (some ⟨h, 0, none⟩)] w (RetB w (vecBad s e)) := by
  obtain ⟨c0, c1, c2, c3, c4, c5, c6, c7, c8, hi, -⟩ := he
  obtain ⟨s0, -, -, -⟩ := hs
  have HI := Lib.hid hi
  obtain ⟨a, cap, b, off, rfl, -⟩ := hi.open
  clear hi
  cases h0 : ((e.vec.length : Int) != s.dims)
  · go_enter Tryd.func64, Tryd.ntmps64
    go_wp2_with fail
    refine (vectorValid _ e.vec _ HI.out (by omega)).mono ?_
    rintro e w' ⟨rfl, rfl⟩
    go_wp2
    go_ret
    exact RetB.mk (by simp [vecBad, h0]) (Below.refl _ _)
  · go_enter Tryd.func64, Tryd.ntmps64
    go_wp2
    go_ret
    exact RetB.mk (by simp [vecBad, h0]) (Below.refl _ _)
theorem cE5 : CallOk 64 := fun _ _ => by kernel_rfl

def rulesE (s : PSchema) (e : PEntry) (g h : Nat) : List Rule := [⟨60, #[.pointer (some ⟨g, 0, none⟩)], idBad e, 1⟩, ⟨61, #[.pointer (some ⟨g, 0, none⟩)], fromBad e, 9⟩,
  ⟨62, #[.pointer (some ⟨g, 0, none⟩)], toBad e, 9⟩, ⟨63, #[.pointer (some ⟨g, 0, none⟩)], bornBad e, 9⟩, ⟨64, #[.pointer (some ⟨g, 0, none⟩), .pointer (some ⟨h, 0, none⟩)], vecBad s e, 40⟩]
def entR (s : PSchema) (e : PEntry) : List (Bool × Int) := [(idBad e, 1), (fromBad e, 9), (toBad e, 9), (bornBad e, 9), (vecBad s e, 40)]

theorem runE {s : PSchema} {e : PEntry} {vv av dv : Value} {g h : Nat} {w : World} (he : EntAt w g e vv av) (hs : SchAt w h s dv) (hl : e.vec.length ≤ 1000000) (v : Value) (hv : Rules w v (rulesE s e g h)) :
    Calls Tryd.prog 43 #[v] w (RetI w (firstE (entR s e))) := by
  refine attrFirst v (rulesE s e g h) w hv (Nat.le_of_ble_eq_true rfl) ?_ ?_
  · intro r hr
    simp only [rulesE, List.mem_cons, List.not_mem_nil, or_false] at hr
    rcases hr with rfl | rfl | rfl | rfl | rfl
    · exact cE1
    · exact cE2
    · exact cE3
    · exact cE4
    · exact cE5
  · intro r hr w' hb
    have he' := he.below hb
    have hs' := hs.below hb
    simp only [rulesE, List.mem_cons, List.not_mem_nil, or_false] at hr
    rcases hr with rfl | rfl | rfl | rfl | rfl
    · exact entry1 g e vv av w' he'
    · exact entry2 g e vv av w' he'
    · exact entry3 g e vv av w' he'
    · exact entry4 g e vv av w' he'
    · exact entry5 g h e vv av s dv w' he' hs' hl

/-- What attr.Entry answers. -/
def entryA (s : PSchema) (e : PEntry) : Int := if firstE (entR s e) ≠ 0 then firstE (entR s e) else fitsGo s.defs ByteArray.empty false e.attrs

set_option maxRecDepth 100000 in
set_option maxHeartbeats 1000000 in
theorem attrEntry (v u : Value) (s : PSchema) (x : PEntry) (w : World) (hv : SchemaV w v s) (hu : EntryV w u x) (hsm : SmallS s) (hl : x.vec.length ≤ 1000000) (hl2 : x.attrs.length ≤ 1000000) :
    Calls Tryd.prog 25 #[v, u] w (RetI w (entryA s x)) := by
  obtain ⟨dv, rfl, hd⟩ := hv
  obtain ⟨vv, av, rfl, hi, hatt⟩ := hu
  have HS := Lib.hid (SchAt.box w s dv 43 hd)
  have hw0 : Below w.heap.size w (w.alloc (.cells #[.int .i64 s.dims, .int .i64 s.metric, dv] 43)) := below_alloc _ _
  have HE := Lib.hid (EntAt.box _ x vv av 25 (hi.below hw0) (hatt.below hw0))
  have hw1 := below_two w (.cells #[.int .i64 s.dims, .int .i64 s.metric, dv] 43) (.cells #[.int .i64 x.id, .int .i64 x.ver, .int .i64 x.owner, .int .i64 x.filed, .int .i64 x.frm, .int .i64 x.to, .int .i64 x.born, vv, av] 25)
  have HS2 := Lib.hid (HS.out.below (below_alloc _ (.cells #[.int .i64 x.id, .int .i64 x.ver, .int .i64 x.owner, .int .i64 x.filed, .int .i64 x.frm, .int .i64 x.to, .int .i64 x.born, vv, av] 25)))
  have hsz : Hid ((w.alloc (.cells #[.int .i64 s.dims, .int .i64 s.metric, dv] 43)).heap.size = w.heap.size + 1) := by simp [Hid]
  have hsz2 : Hid (((w.alloc (.cells #[.int .i64 s.dims, .int .i64 s.metric, dv] 43)).alloc (.cells #[.int .i64 x.id, .int .i64 x.ver, .int .i64 x.owner, .int .i64 x.filed, .int .i64 x.frm, .int .i64 x.to, .int .i64 x.born, vv, av] 25)).heap.size = w.heap.size + 1 + 1) := by simp [Hid]
  rw [hsz.out] at HE
  have HSM := Lib.hid hsm
  clear HS hw0 hi hatt hd hsm hsz
  unfold entryVal
  go_enter Tryd.func25, Tryd.ntmps25
  go_wp2_with fail
  generalize (w.alloc (.cells #[.int .i64 s.dims, .int .i64 s.metric, dv] 43)).alloc (.cells #[.int .i64 x.id, .int .i64 x.ver, .int .i64 x.owner, .int .i64 x.filed, .int .i64 x.frm, .int .i64 x.to, .int .i64 x.born, vv, av] 25) = w0 at *
  refine (runE (HE.out.below (below_alloc _ _)) (HS2.out.below (below_alloc _ _)) (by omega) _ (Rules.mk (rulesE s x _ _) (Nat.le_of_ble_eq_true rfl) (hsz2.out.symm) rfl rfl)).mono ?_
  rintro e w1 ⟨rfl, hb⟩
  have hb1 := blift (below_alloc _ _) hb
  have hb2 := blift hw1 hb1
  have HE1 := Lib.hid (HE.out.below hb1)
  have HS1 := Lib.hid (HS2.out.below hb1)
  obtain ⟨-, -, -, -, -, -, -, -, c8, -, -⟩ := HE1.out
  obtain ⟨s0, s1, s2, -⟩ := HS1.out
  clear hb hb1 HE HS2 hsz2
  by_cases hz : firstE (entR s x) = 0
  · have F := Lib.hid (show entryA s x = fitsGo s.defs ByteArray.empty false x.attrs by rw [entryA, if_neg (by simp [hz])])
    rw [hz]
    go_wp2_with fail
    refine (attrFits _ _ s x.attrs w1 ⟨_, rfl, HS1.out.2.2.2⟩ HE1.out.2.2.2.2.2.2.2.2.2.2 HSM.out (by omega)).mono ?_
    rintro e w2 ⟨rfl, hb3⟩
    go_wp2
    go_ret
    exact RetI.mk F.out.symm (blift hb2 hb3)
  · have F := Lib.hid (show entryA s x = firstE (entR s x) by rw [entryA, if_pos hz])
    have hz' : (firstE (entR s x) != 0) = true := by simp [hz]
    generalize firstE (entR s x) = y at *
    clear hz
    go_wp2
    go_ret
    exact RetI.mk F.out.symm hb2

end Go.Proofs.YtnjopfjmepbpoaaDoor

/- Walks: Entry of antiquaryref13. -/
namespace Go.Proofs.YtnjopfjmepbpoaaDoor
set_option linter.unusedSimpArgs false
set_option linter.unusedVariables false
set_option linter.unnecessarySimpa false
open Go.RowKit

end Go.Proofs.YtnjopfjmepbpoaaDoor

/- Plain: an entry as numbers and strings. -/
namespace Go.Proofs.YtnjopfjmepbpoaaDoor
set_option linter.unusedSimpArgs false
set_option linter.unusedVariables false
set_option linter.unnecessarySimpa false

def headN (e : PEntry) : List Int := [e.id, e.ver, e.owner, e.filed, e.frm, e.to, e.born, (e.vec.length : Int)]
def attrN (l : List PAttr) : List Int := (l.map fun a => [a.kind, a.n]).flatten
def attrS (l : List PAttr) : List ByteArray := (l.map fun a => [a.name, a.s]).flatten
def encN (e : PEntry) : List Int := headN e ++ e.vec ++ [(e.attrs.length : Int)] ++ attrN e.attrs
def encE (e : PEntry) : List Int := intsB (encN e) ++ strsB (attrS e.attrs)

def Fit64 (n : Int) : Prop := -9223372036854775808 ≤ n ∧ n ≤ 9223372036854775807
structure FitE (e : PEntry) : Prop where
  id : Fit64 e.id
  ver : Fit64 e.ver
  owner : Fit64 e.owner
  filed : Fit64 e.filed
  frm : Fit64 e.frm
  to : Fit64 e.to
  born : Fit64 e.born
  vec : ∀ z ∈ e.vec, Fit64 z
  attrs : ∀ a ∈ e.attrs, Fit64 a.kind ∧ Fit64 a.n
/-- Sizes that the walks meet. -/
structure SmallE (e : PEntry) : Prop where
  vec : e.vec.length ≤ 100000
  attrs : e.attrs.length ≤ 499
  strs : ∀ a ∈ e.attrs, a.name.size ≤ 1000000 ∧ a.s.size ≤ 1000000

theorem attrN_len (l : List PAttr) : (attrN l).length = 2 * l.length := by
  induction l with
  | nil => rfl
  | cons a r ih => simp only [attrN, List.map_cons, List.flatten_cons, List.length_append, List.length_cons, List.length_nil] at *; omega
theorem attrS_len (l : List PAttr) : (attrS l).length = 2 * l.length := by
  induction l with
  | nil => rfl
  | cons a r ih => simp only [attrS, List.map_cons, List.flatten_cons, List.length_append, List.length_cons, List.length_nil] at *; omega
theorem attrN_take (l : List PAttr) (k : Nat) (a : PAttr) (h : l[k]? = some a) : attrN (l.take (k+1)) = attrN (l.take k) ++ [a.kind, a.n] := by
  rw [List.take_add_one, h]; simp [attrN]
theorem attrS_take (l : List PAttr) (k : Nat) (a : PAttr) (h : l[k]? = some a) : attrS (l.take (k+1)) = attrS (l.take k) ++ [a.name, a.s] := by
  rw [List.take_add_one, h]; simp [attrS]
theorem encN_len (e : PEntry) : (encN e).length = 9 + e.vec.length + 2 * e.attrs.length := by
  simp only [encN, headN, List.length_append, attrN_len, List.length_cons, List.length_nil]; omega
theorem encN_fit (e : PEntry) (h : FitE e) (hs : SmallE e) : ∀ z ∈ encN e, -9223372036854775808 ≤ z ∧ z ≤ 9223372036854775807 := by
  have hv := hs.vec
  have ha := hs.attrs
  intro z hz
  simp only [encN, headN, List.mem_append, List.mem_cons, List.not_mem_nil, or_false] at hz
  rcases hz with (((rfl | rfl | rfl | rfl | rfl | rfl | rfl | rfl) | hz) | rfl) | hz
  · exact h.id
  · exact h.ver
  · exact h.owner
  · exact h.filed
  · exact h.frm
  · exact h.to
  · exact h.born
  · omega
  · exact h.vec z hz
  · omega
  · simp only [attrN, List.mem_flatten, List.mem_map] at hz
    obtain ⟨_, ⟨a, ha, rfl⟩, hz⟩ := hz
    simp only [List.mem_cons, List.not_mem_nil, or_false] at hz
    rcases hz with rfl | rfl
    · exact (h.attrs a ha).1
    · exact (h.attrs a ha).2
theorem attrS_small (l : List PAttr) (h : ∀ a ∈ l, a.name.size ≤ 1000000 ∧ a.s.size ≤ 1000000) : SmallStrs (attrS l) := by
  intro s hs
  simp only [attrS, List.mem_flatten, List.mem_map] at hs
  obtain ⟨_, ⟨a, ha, rfl⟩, hs⟩ := hs
  simp only [List.mem_cons, List.not_mem_nil, or_false] at hs
  rcases hs with rfl | rfl
  · exact (h a ha).1
  · exact (h a ha).2

end Go.Proofs.YtnjopfjmepbpoaaDoor

/- A region that draws its order, by contracts: where what was there stays. -/
namespace Go.Proofs.YtnjopfjmepbpoaaDoor
set_option linter.unusedSimpArgs false
set_option linter.unusedVariables false
set_option linter.unnecessarySimpa false
open Go.RowKit

/-- What is known of a slot behind its operation: it stays true where what was there stays. -/
structure Spec where
  p : Value → World → Prop
  st : ∀ v w w', p v w → Below w.heap.size w w' → p v w'
def Spec.is (x : Value) : Spec := ⟨fun v _ => v = x, fun _ _ _ h _ => h⟩
def Spec.any : Spec := ⟨fun _ _ => True, fun _ _ _ h _ => h⟩
def Spec.rd (cs : List Value) : Spec := ⟨fun v w => Rd w v cs, fun _ _ _ h hb => h.below hb⟩
/-- A slot that holds x, and what holds of the world. -/
def Spec.holds (x : Value) (S : World → Prop) (h : ∀ w w', S w → Below w.heap.size w w' → S w') : Spec := ⟨fun v w => v = x ∧ S w, fun _ _ _ hh hb => ⟨hh.1, h _ _ hh.2 hb⟩⟩

def LeB (w w' : World) : Prop := Below w.heap.size w w'
theorem LeB.trans (x y z : World) (h : LeB x y) (k : LeB y z) : LeB x z := Below.trans h (Below.mono k h.size)

def specR (sp : List Spec) (i : Nat) : Value → World → Prop := (sp.getD i Spec.any).p

def AllFrom (F : Nat → Oper → Prop) : Nat → List Oper → Prop
  | _, [] => True
  | i, o :: os => F i o ∧ AllFrom F (i + 1) os
theorem AllFrom.get {F : Nat → Oper → Prop} : ∀ {l : List Oper} {k : Nat}, AllFrom F k l → ∀ (i : Nat) (o : Oper), l[i]? = some o → F (k + i) o
  | [], _, _, i, o, h => by simp at h
  | x :: xs, k, ⟨h1, h2⟩, 0, o, h => by simp at h; subst h; exact h1
  | x :: xs, k, ⟨h1, h2⟩, i+1, o, h => by
    have := AllFrom.get h2 i o (by simpa using h)
    rw [show k + (i + 1) = k + 1 + i by omega]; exact this
theorem AllFrom.of {F : Nat → Oper → Prop} : ∀ (l : List Oper) (k : Nat), (∀ (i : Nat) (o : Oper), l[i]? = some o → F (k + i) o) → AllFrom F k l
  | [], _, _ => trivial
  | x :: xs, k, h => ⟨h 0 x (by simp), AllFrom.of xs (k+1) (fun i o hi => by rw [show k + 1 + i = k + (i + 1) by omega]; exact h (i+1) o (by simpa using hi))⟩

def putAll : List Oper → (Nat → Value) → Nat → Act → Act
  | [], _, _, a => a
  | o :: os, vs, i, a => putAll os vs (i + 1) (a.put o.dst (vs i))

theorem putAll_size : ∀ (l : List Oper) (vs : Nat → Value) (k : Nat) (a : Act), (putAll l vs k a).tmps.size = a.tmps.size ∧ (putAll l vs k a).defers = a.defers
  | [], _, _, a => ⟨rfl, rfl⟩
  | o :: os, vs, k, a => by
    have h := putAll_size os vs (k+1) (a.put o.dst (vs k))
    rw [putAll]
    constructor
    · rw [h.1]; cases o.dst <;> simp [Act.put]
    · rw [h.2]; cases o.dst <;> simp [Act.put]

theorem putAll_idle : ∀ (l : List Oper) (vs : Nat → Value) (k : Nat) (a : Act) (t : Nat), (∀ o ∈ l, o.dst ≠ some t) → (∀ o ∈ l, ∀ d, o.dst = some d → d < a.tmps.size) → (putAll l vs k a).tmps.getD t undef = a.tmps.getD t undef
  | [], _, _, a, t, _, _ => rfl
  | o :: os, vs, k, a, t, h, hs => by
    rw [putAll, putAll_idle os vs (k+1) _ t (fun x hx => h x (by simp [hx])) (fun x hx d hd => by have := hs x (by simp [hx]) d hd; cases o.dst <;> simpa [Act.put] using this)]
    cases hd : o.dst with
    | none => rfl
    | some d =>
      rw [put_getD _ _ _ _ (hs o (by simp) d hd), if_neg]
      rintro rfl
      exact h o (by simp) hd

theorem putAll_at : ∀ (l : List Oper) (vs : Nat → Value) (k : Nat) (a : Act) (i t : Nat) (o : Oper), l[i]? = some o → o.dst = some t → (∀ (j : Nat) (oj : Oper), l[j]? = some oj → j ≠ i → oj.dst ≠ some t) → (∀ o ∈ l, ∀ d, o.dst = some d → d < a.tmps.size) → (putAll l vs k a).tmps.getD t undef = vs (k + i)
  | [], _, _, _, i, t, o, h, _, _, _ => by simp at h
  | x :: xs, vs, k, a, 0, t, o, h, hd, hne, hs => by
    simp at h; subst h
    rw [putAll, putAll_idle xs vs (k+1) _ t ?_ ?_, hd, put_getD _ _ _ _ (hs x (by simp) t hd)]
    · simp
    · intro y hy
      obtain ⟨j, hj⟩ := List.getElem?_of_mem hy
      exact hne (j+1) y (by simpa using hj) (by omega)
    · intro y hy d hdd
      have := hs y (by simp [hy]) d hdd
      cases x.dst <;> simpa [Act.put] using this
  | x :: xs, vs, k, a, i+1, t, o, h, hd, hne, hs => by
    rw [putAll, putAll_at xs vs (k+1) _ i t o (by simpa using h) hd ?_ ?_]
    · rw [show k + 1 + i = k + (i + 1) by omega]
    · intro j oj hj hji
      exact hne (j+1) oj (by simpa using hj) (by omega)
    · intro y hy d hdd
      have := hs y (by simp [hy]) d hdd
      cases x.dst <;> simpa [Act.put] using this

theorem act_ext {a b : Act} (h1 : a.defers = b.defers) (h2 : a.tmps.size = b.tmps.size) (h3 : ∀ t, t < b.tmps.size → a.tmps.getD t undef = b.tmps.getD t undef) : a = b := by
  cases a with | mk x dx => cases b with | mk y dy =>
    simp only at h1 h2 h3
    subst h1
    congr
    apply Array.ext h2
    intro i hi hi2
    have := h3 i hi2
    simpa [Array.getD_eq_getD_getElem?, hi, hi2] using this

theorem wp_region_B {P : Program} {l : List Oper} {Q : Exit → Act → World → Prop} {id : Nat} {a0 : Act} {w0 : World} (sp : List Spec) (hm : P.follows .mixedOrders = true) (hsh : shapeB l.toArray a0.tmps.size = true)
    (hstep : AllFrom (fun i o => ∀ a w, RCtx l.toArray a0 w0.drew (specR sp) LeB i a w → wpOp P l.toArray Q i (RPost (specR sp) LeB i o a w) a w) 0 l)
    (hend : ∀ (vs : Nat → Value) (w : World), Below w0.heap.size w0 w → AllFrom (fun i o => (sp.getD i Spec.any).p (match o.dst with | some _ => vs i | none => undef) w) 0 l → Q .normal (putAll l vs 0 a0) w) :
    (Code.region id l.toArray true).wp P Q a0 w0 := by
  refine wp_region_rel (specR sp) LeB hm hsh (Below.refl _ _) LeB.trans (fun i v w w' _ h hb => (sp.getD i Spec.any).st v w w' h hb) (fun i o ho a w hc => ?_) ?_
  · have := hstep.get i o (by simpa using ho) a w
    rw [Nat.zero_add] at this
    exact this hc
  · intro a w h1 h2 h3 h4 h5
    have hdlt : ∀ o ∈ l, ∀ d, o.dst = some d → d < a0.tmps.size := by
      intro o ho d hd
      obtain ⟨j, hj⟩ := List.getElem?_of_mem ho
      exact ((shape_spec hsh j o (by simpa using hj)).2 d hd).1
    have e : a = putAll l (valOf l.toArray a) 0 a0 := by
      refine act_ext (by rw [h1, (putAll_size l _ 0 a0).2]) (by rw [h2, (putAll_size l _ 0 a0).1]) (fun t ht => ?_)
      by_cases hw : ∃ (i : Nat) (o : Oper), l[i]? = some o ∧ o.dst = some t
      · obtain ⟨i, o, hi, hd⟩ := hw
        rw [putAll_at l _ 0 a0 i t o hi hd (fun j oj hj hji hc => dst_apart hsh (i := i) (j := j) (by simpa using hi) (by simpa using hj) (fun x => hji x.symm) hd hc) hdlt]
        simp [valOf, hi, hd]
      · rw [putAll_idle l _ 0 a0 t (fun o ho hd => hw (by obtain ⟨j, hj⟩ := List.getElem?_of_mem ho; exact ⟨j, o, hj, hd⟩)) hdlt]
        apply h5
        unfold idleB
        rw [List.all_eq_true]
        intro j hj
        simp only [List.mem_range, List.size_toArray] at hj
        have hj2 : l[j]? = some l[j] := by simp [hj]
        simp only [List.getElem?_toArray, hj2, Option.map_some, Option.getD_some, Bool.not_eq_true', beq_eq_false_iff_ne]
        exact fun hc => hw ⟨j, l[j], hj2, hc⟩
    rw [e]
    refine hend _ w ?_ ?_
    · exact Below.trans ((Below.refl _ _).drew) h3
    · refine AllFrom.of l 0 fun i o hi => ?_
      have hlt : i < l.length := (List.getElem?_eq_some_iff.1 hi).1
      have := h4 i (by simpa using hlt)
      rw [Nat.zero_add]
      simp only [valOf, List.getElem?_toArray, hi, Option.bind_some] at this ⊢
      cases hd : o.dst with
      | none => rw [hd] at this; exact this
      | some d => rw [hd] at this; exact this

theorem wpOp_at {P : Program} {ops : Array Oper} {Q : Exit → Act → World → Prop} {i : Nat} {K : Act → World → Prop} {a : Act} {w : World} {o : Oper} (ho : ops[i]? = some o) (hg : o.guard = none) (h : o.wp P a w K Q) : wpOp P ops Q i K a w := by
  unfold wpOp
  rw [ho]
  simp only [Region.wanted, hg, if_true]
  exact .inl h

/-- An operation that yields one value and leaves the world. -/
theorem rpost_val {R : Nat → Value → World → Prop} {i : Nat} {o : Oper} {a : Act} {w : World} (v : Value) (h : R i (match o.dst with | some _ => v | none => undef) w) : RPost R LeB i o a w (a.put o.dst v) w := ⟨v, rfl, h, Below.refl _ _⟩

end Go.Proofs.YtnjopfjmepbpoaaDoor

/- A region that draws its order, by what each operation relies on and what it does: each operation once. -/
namespace Go.Proofs.YtnjopfjmepbpoaaDoor
set_option linter.unusedSimpArgs false
set_option linter.unusedVariables false
set_option linter.unnecessarySimpa false
open Go.RowKit

structure GInv (ops : Array Oper) (a0 : Act) (C : Nat → World → Prop) (R : Nat → Value → World → Prop) (G : World → Prop) (listed : Array Bool) (a : Act) (w : World) : Prop where
  size : listed.size = ops.size
  defers : a.defers = a0.defers
  tmps : a.tmps.size = a0.tmps.size
  all : G w
  closed : ∀ (i : Nat) (o : Oper), ops[i]? = some o → listed.getD i false = true → ∀ j, depO o j = true → listed.getD j false = true
  rely : ∀ (i : Nat) (o : Oper), ops[i]? = some o → listed.getD i false = false → C i w
  vals : ∀ (i : Nat) (o : Oper), ops[i]? = some o → listed.getD i false = true → R i (valOf ops a i) w
  old : ∀ t : Nat, (∀ (i : Nat) (o : Oper), ops[i]? = some o → listed.getD i false = true → o.dst ≠ some t) → a.tmps.getD t undef = a0.tmps.getD t undef

/-- What operation i may rely on. -/
structure GCtx (ops : Array Oper) (a0 : Act) (C : Nat → World → Prop) (R : Nat → Value → World → Prop) (G : World → Prop) (i : Nat) (a : Act) (w : World) : Prop where
  defers : a.defers = a0.defers
  tmps : a.tmps.size = a0.tmps.size
  all : G w
  rely : C i w
  dep : ∀ j, depB ops i j = true → R j (valOf ops a j) w
  old : ∀ t, oldB ops i t = true → a.tmps.getD t undef = a0.tmps.getD t undef

/-- What operation i is to leave. -/
def GPost (R : Nat → Value → World → Prop) (E : Nat → World → World → Prop) (i : Nat) (o : Oper) (a : Act) (w : World) (a' : Act) (w' : World) : Prop :=
  ∃ v, a' = a.put o.dst v ∧ R i (match o.dst with | some _ => v | none => undef) w' ∧ E i w w'

section
variable {P : Program} {ops : Array Oper} {Q : Exit → Act → World → Prop} {a0 : Act} {C : Nat → World → Prop} {R : Nat → Value → World → Prop} {E : Nat → World → World → Prop} {G : World → Prop}

theorem ginv_step (hsh : shapeB ops a0.tmps.size = true)
    (hCE : ∀ i j w w', i < ops.size → j < ops.size → i ≠ j → depB ops j i = false → G w → C i w → E j w w' → C i w')
    (hRE : ∀ i j v w w', i < ops.size → j < ops.size → i ≠ j → depB ops i j = false → G w → R i v w → E j w w' → R i v w')
    (hGE : ∀ j w w', j < ops.size → G w → C j w → E j w w' → G w')
    {listed : Array Bool} {a : Act} {w : World} (h : GInv ops a0 C R G listed a w) {i : Nat} {o : Oper} (ho : ops[i]? = some o) (hni : listed.getD i false = false) (hdep : ∀ j, depO o j = true → listed.getD j false = true) {a' : Act} {w' : World} (hp : GPost R E i o a w a' w') :
    GInv ops a0 C R G (listed.setIfInBounds i true) a' w' := by
  have hio : i < ops.size := (Array.getElem?_eq_some_iff.1 ho).1
  have hi : i < listed.size := by rw [h.size]; exact hio
  obtain ⟨v, rfl, hv, hle⟩ := hp
  have hdst := (shape_spec hsh i o ho).2
  refine ⟨by simpa using h.size, ?_, ?_, hGE i _ _ hio h.all (h.rely i o ho hni) hle, ?_, ?_, ?_, ?_⟩
  · cases hd : o.dst <;> simp [Act.put, h.defers]
  · cases hd : o.dst <;> simp [Act.put, h.tmps]
  · intro k ok hok hk j hj
    rw [getD_set _ _ _ hi] at hk ⊢
    simp only [Bool.or_eq_true, decide_eq_true_eq] at hk ⊢
    rcases hk with rfl | hk
    · rw [ho] at hok; cases hok; exact .inr (hdep j hj)
    · exact .inr (h.closed k ok hok hk j hj)
  · intro k ok hok hk
    rw [getD_set _ _ _ hi] at hk
    simp only [Bool.or_eq_false_iff, decide_eq_false_iff_not] at hk
    refine hCE k i _ _ (Array.getElem?_eq_some_iff.1 hok).1 hio hk.1 ?_ h.all (h.rely k ok hok hk.2) hle
    cases hd : depB ops i k
    · rfl
    · simp only [depB, ho, Option.map_some, Option.getD_some] at hd
      rw [hdep k hd] at hk
      cases hk.2
  · intro k ok hok hk
    rw [getD_set _ _ _ hi] at hk
    simp only [Bool.or_eq_true, decide_eq_true_eq] at hk
    by_cases e : k = i
    · subst e
      rw [ho] at hok; cases hok
      cases hd : o.dst with
      | none =>
        rw [hd] at hv
        have : valOf ops (a.put none v) k = undef := by simp [valOf, ho, hd]
        rw [this]; exact hv
      | some d =>
        rw [hd] at hv
        have : valOf ops (a.put (some d) v) k = v := by
          simp only [valOf, ho, Option.bind_some, hd]
          rw [put_getD _ _ _ _ (by rw [h.tmps]; exact (hdst d hd).1)]
          simp
        rw [this]; exact hv
    · have hk' := hk.resolve_left e
      have : valOf ops (a.put o.dst v) k = valOf ops a k := by
        cases hd : o.dst with
        | none => rfl
        | some d =>
          simp only [valOf, hok, Option.bind_some]
          cases hdk : ok.dst with
          | none => rfl
          | some dk =>
            simp only
            rw [put_getD _ _ _ _ (by rw [h.tmps]; exact (hdst d hd).1), if_neg]
            rintro rfl
            exact dst_apart hsh ho hok (fun x => e x.symm) hd hdk
      rw [this]
      refine hRE k i _ _ _ (Array.getElem?_eq_some_iff.1 hok).1 hio e ?_ h.all (h.vals k ok hok hk') hle
      cases hd : depB ops k i
      · rfl
      · simp only [depB, hok, Option.map_some, Option.getD_some] at hd
        rw [h.closed k ok hok hk' i hd] at hni
        cases hni
  · intro t ht
    have h1 : o.dst ≠ some t := ht i o ho (by rw [getD_set _ _ _ hi]; simp)
    have h2 := h.old t (fun k ok hok hk => ht k ok hok (by rw [getD_set _ _ _ hi]; simp [hk]))
    rw [← h2]
    cases hd : o.dst with
    | none => rfl
    | some d =>
      rw [put_getD _ _ _ _ (by rw [h.tmps]; exact (hdst d hd).1), if_neg]
      rintro rfl
      exact h1 hd

theorem ginv_ctx {listed : Array Bool} {a : Act} {w : World} (h : GInv ops a0 C R G listed a w) {i : Nat} {o : Oper} (ho : ops[i]? = some o) (hni : listed.getD i false = false) (hdep : ∀ j, depO o j = true → listed.getD j false = true) (hall : ∀ j, depO o j = true → j < ops.size) :
    GCtx ops a0 C R G i a w := by
  refine ⟨h.defers, h.tmps, h.all, h.rely i o ho hni, fun j hj => ?_, fun t ht => h.old t fun k ok hok hk hc => ?_⟩
  · simp only [depB, ho, Option.map_some, Option.getD_some] at hj
    have hlt := hall j hj
    exact h.vals j ops[j] (by simp [hlt]) (hdep j hj)
  · have hk2 : k < ops.size := (Array.getElem?_eq_some_iff.1 hok).1
    have := List.all_eq_true.1 ht k (List.mem_range.2 hk2)
    rw [hok] at this
    simp only [Option.map_some, Option.getD_some, hc, beq_self_eq_true, Bool.not_true, Bool.false_or, Bool.or_eq_true, beq_iff_eq] at this
    rcases this with e | e
    · rw [h.closed k ok hok hk i e] at hni; cases hni
    · subst e; rw [hk] at hni; cases hni

theorem ginv_any (hsh : shapeB ops a0.tmps.size = true)
    (hCE : ∀ i j w w', i < ops.size → j < ops.size → i ≠ j → depB ops j i = false → G w → C i w → E j w w' → C i w')
    (hRE : ∀ i j v w w', i < ops.size → j < ops.size → i ≠ j → depB ops i j = false → G w → R i v w → E j w w' → R i v w')
    (hGE : ∀ j w w', j < ops.size → G w → C j w → E j w w' → G w')
    (hstep : ∀ (i : Nat) (o : Oper), ops[i]? = some o → ∀ a w, GCtx ops a0 C R G i a w → wpOp P ops Q i (GPost R E i o a w) a w)
    (hend : ∀ (a : Act) (w : World), a.defers = a0.defers → a.tmps.size = a0.tmps.size → G w → (∀ j, j < ops.size → R j (valOf ops a j) w) → (∀ t, idleB ops t = true → a.tmps.getD t undef = a0.tmps.getD t undef) → Q .normal a w) :
    ∀ (fuel : Nat) (listed : Array Bool) (a : Act) (w : World), unlisted listed ≤ fuel → GInv ops a0 C R G listed a w → wpAny P .any ops Q fuel listed a w := by
  have fin : ∀ (listed : Array Bool) (a : Act) (w : World), GInv ops a0 C R G listed a w → (∀ i, i < ops.size → listed.getD i false = true) → Q .normal a w := by
    intro listed a w h hall
    refine hend a w h.defers h.tmps h.all (fun j hj => h.vals j ops[j] (by simp [hj]) (hall j hj)) (fun t ht => h.old t fun k ok hok hk hc => ?_)
    have hk2 : k < ops.size := (Array.getElem?_eq_some_iff.1 hok).1
    have := List.all_eq_true.1 ht k (List.mem_range.2 hk2)
    rw [hok] at this
    simp [hc] at this
  intro fuel
  induction fuel with
  | zero =>
    intro listed a w hu h
    have hall := unlisted_zero (Nat.le_zero.1 hu)
    rw [h.size] at hall
    refine ⟨?_, fin listed a w h hall⟩
    apply List.eq_nil_iff_forall_not_mem.2
    intro i hi
    obtain ⟨o, ho, h1, _⟩ := (mem_ready h.size).1 hi
    rw [hall i (Array.getElem?_eq_some_iff.1 ho).1] at h1
    cases h1
  | succ fuel ih =>
    intro listed a w hu h
    refine ⟨fun hr => fin listed a w h (all_listed hsh h.size hr), fun i hi => ?_⟩
    obtain ⟨o, ho, h1, h2⟩ := (mem_ready h.size).1 hi
    have hlt : i < listed.size := by rw [h.size]; exact (Array.getElem?_eq_some_iff.1 ho).1
    have hall : ∀ j, depO o j = true → j < ops.size := fun j hj => by have := (shape_spec hsh i o ho).1 j hj; rw [h.size] at hlt; omega
    refine wpOp_mono (fun a' w' hp => ih _ a' w' ?_ (ginv_step hsh hCE hRE hGE h ho h1 h2 hp)) (hstep i o ho a w (ginv_ctx h ho h1 h2 hall))
    have := unlisted_set listed i hlt h1
    omega
end

/-- The region: each operation once. -/
theorem wp_region_G {P : Program} {l : List Oper} {Q : Exit → Act → World → Prop} {id : Nat} {a0 : Act} {w0 : World} (C : Nat → World → Prop) (R : Nat → Value → World → Prop) (E : Nat → World → World → Prop) (G : World → Prop)
    (hm : P.follows .mixedOrders = true) (hsh : shapeB l.toArray a0.tmps.size = true) (hG0 : G w0.drew) (hC0 : ∀ i, i < l.length → C i w0.drew)
    (hCE : ∀ i j w w', i < l.length → j < l.length → i ≠ j → depB l.toArray j i = false → G w → C i w → E j w w' → C i w')
    (hRE : ∀ i j v w w', i < l.length → j < l.length → i ≠ j → depB l.toArray i j = false → G w → R i v w → E j w w' → R i v w')
    (hGE : ∀ j w w', j < l.length → G w → C j w → E j w w' → G w')
    (hstep : AllFrom (fun i o => ∀ a w, GCtx l.toArray a0 C R G i a w → wpOp P l.toArray Q i (GPost R E i o a w) a w) 0 l)
    (hend : ∀ (vs : Nat → Value) (w : World), G w → AllFrom (fun i o => R i (match o.dst with | some _ => vs i | none => undef) w) 0 l → Q .normal (putAll l vs 0 a0) w) :
    (Code.region id l.toArray true).wp P Q a0 w0 := by
  refine wp_region_any hm (ginv_any (a0 := a0) (C := C) (R := R) (E := E) (G := G) hsh (fun i j w w' h1 h2 => hCE i j w w' (by simpa using h1) (by simpa using h2)) (fun i j v w w' h1 h2 => hRE i j v w w' (by simpa using h1) (by simpa using h2)) (fun j w w' h1 => hGE j w w' (by simpa using h1)) (fun i o ho a w hc => ?_) ?_ _ _ _ _ ?_ ⟨by simp, rfl, rfl, hG0, ?_, ?_, ?_, ?_⟩)
  · have := hstep.get i o (by simpa using ho) a w
    rw [Nat.zero_add] at this
    exact this hc
  · intro a w h1 h2 h3 h4 h5
    have hdlt : ∀ o ∈ l, ∀ d, o.dst = some d → d < a0.tmps.size := by
      intro o ho d hd
      obtain ⟨j, hj⟩ := List.getElem?_of_mem ho
      exact ((shape_spec hsh j o (by simpa using hj)).2 d hd).1
    have e : a = putAll l (valOf l.toArray a) 0 a0 := by
      refine act_ext (by rw [h1, (putAll_size l _ 0 a0).2]) (by rw [h2, (putAll_size l _ 0 a0).1]) (fun t ht => ?_)
      by_cases hw : ∃ (i : Nat) (o : Oper), l[i]? = some o ∧ o.dst = some t
      · obtain ⟨i, o, hi, hd⟩ := hw
        rw [putAll_at l _ 0 a0 i t o hi hd (fun j oj hj hji hc => dst_apart hsh (i := i) (j := j) (by simpa using hi) (by simpa using hj) (fun x => hji x.symm) hd hc) hdlt]
        simp [valOf, hi, hd]
      · rw [putAll_idle l _ 0 a0 t (fun o ho hd => hw (by obtain ⟨j, hj⟩ := List.getElem?_of_mem ho; exact ⟨j, o, hj, hd⟩)) hdlt]
        apply h5
        unfold idleB
        rw [List.all_eq_true]
        intro j hj
        simp only [List.mem_range, List.size_toArray] at hj
        have hj2 : l[j]? = some l[j] := by simp [hj]
        simp only [List.getElem?_toArray, hj2, Option.map_some, Option.getD_some, Bool.not_eq_true', beq_eq_false_iff_ne]
        exact fun hc => hw ⟨j, l[j], hj2, hc⟩
    rw [e]
    refine hend _ w h3 ?_
    refine AllFrom.of l 0 fun i o hi => ?_
    have hlt : i < l.length := (List.getElem?_eq_some_iff.1 hi).1
    have := h4 i (by simpa using hlt)
    rw [Nat.zero_add]
    simp only [valOf, List.getElem?_toArray, hi, Option.bind_some] at this ⊢
    cases hd : o.dst with
    | none => rw [hd] at this; exact this
    | some d => rw [hd] at this; exact this
  · unfold unlisted
    exact Nat.le_trans List.countP_le_length (by simp)
  · intro i o ho hl
    simp [Array.getD_eq_getD_getElem?, Array.getElem?_replicate] at hl
    split at hl <;> simp_all
  · intro i o ho _
    exact hC0 i (by simpa using (Array.getElem?_eq_some_iff.1 ho).1)
  · intro i o ho hl
    simp [Array.getD_eq_getD_getElem?, Array.getElem?_replicate] at hl
    split at hl <;> simp_all
  · intro t _; rfl

end Go.Proofs.YtnjopfjmepbpoaaDoor

/- Walks: Encode of attr. -/
namespace Go.Proofs.YtnjopfjmepbpoaaDoor
set_option linter.unusedSimpArgs false
set_option linter.unusedVariables false
set_option linter.unnecessarySimpa false
open Go.RowKit

theorem Rd.lit {w : World} {g n : Nat} {T : TypeId} {cs : Array Value} (l : List Value) (hg : g = w.heap.size) (hn : n = l.length) (hm : l.length ≤ 1000000) (hcs : cs = l.toArray) : Rd (w.alloc (.cells cs T)) (.slice (some ⟨g, 0, none⟩) n n) l := by
  subst hg hn hcs
  exact (Own.lit w l T 0 (Nat.zero_le _) (by unfold maxLen; omega)).rd

theorem concat3 {w : World} {u : Value} {g1 g2 g3 n1 n3 : Nat} {T1 T2 T3 : TypeId} {c1 c3 : Array Value} (l1 l2 l3 : List Int) (hu : Rd w u (l2.map (Value.int .i64))) (e1 : g1 = w.heap.size) (e2 : g2 = w.heap.size + 1) (e3 : g3 = w.heap.size + 1 + 1)
    (k1 : n1 = l1.length) (k3 : n3 = l3.length) (hc1 : c1 = (l1.map (Value.int .i64)).toArray) (hc3 : c3 = (l3.map (Value.int .i64)).toArray) (hl1 : l1.length ≤ 1000) (hl3 : l3.length ≤ 1000) (hl2 : l2.length ≤ 1000000) :
    Calls Tryd.prog 32 #[.slice (some ⟨g3, 0, none⟩) 3 3] (((w.alloc (.cells c1 T1)).alloc (.cells c3 T2)).alloc (.cells #[.slice (some ⟨g1, 0, none⟩) n1 n1, u, .slice (some ⟨g2, 0, none⟩) n3 n3] T3))
      (fun e w' => ∃ v, e = .returned v ∧ Own w.heap.size 3 w' v ((l1 ++ l2 ++ l3).map (Value.int .i64)) ∧ Below w.heap.size w w') := by
  have r1 : Rd (w.alloc (.cells c1 T1)) (.slice (some ⟨g1, 0, none⟩) n1 n1) (l1.map (Value.int .i64)) := Rd.lit _ e1 (by simp [k1]) (by simp; omega) hc1
  have r3 : Rd ((w.alloc (.cells c1 T1)).alloc (.cells c3 T2)) (.slice (some ⟨g2, 0, none⟩) n3 n3) (l3.map (Value.int .i64)) := Rd.lit _ (by simp [e2]) (by simp [k3]) (by simp; omega) hc3
  have r0 : Rd (((w.alloc (.cells c1 T1)).alloc (.cells c3 T2)).alloc (.cells #[.slice (some ⟨g1, 0, none⟩) n1 n1, u, .slice (some ⟨g2, 0, none⟩) n3 n3] T3)) (.slice (some ⟨g3, 0, none⟩) 3 3) [.slice (some ⟨g1, 0, none⟩) n1 n1, u, .slice (some ⟨g2, 0, none⟩) n3 n3] := Rd.lit _ (by simp [e3]) rfl (by simp) rfl
  refine (slicesConcatI _ _ [l1, l2, l3] _ r0 rfl (by simp) ?_ (by simp; omega)).mono ?_
  · intro i u' l h1 h2
    match i, h1, h2 with
    | 0, h1, h2 => simp at h1 h2; subst h1 h2; exact r1.below (below_two _ _ _)
    | 1, h1, h2 => simp at h1 h2; subst h1 h2; exact hu.below (below_three _ _ _ _)
    | 2, h1, h2 => simp at h1 h2; subst h1 h2; exact r3.below (below_alloc _ _)
  · rintro e w' ⟨v, rfl, ho, hb⟩
    refine ⟨v, rfl, ?_, blift (below_three _ _ _ _) hb⟩
    have := ho.lower (B' := w.heap.size) (below_three _ _ _ _).size
    simpa using this

theorem concat2 {w : World} {u1 u2 : Value} {g : Nat} {T : TypeId} (l1 l2 : List Int) (h1 : Rd w u1 (l1.map (Value.int .u8))) (h2 : Rd w u2 (l2.map (Value.int .u8))) (e : g = w.heap.size) (hl : l1.length + l2.length ≤ 1000000000) :
    Calls Tryd.prog 33 #[.slice (some ⟨g, 0, none⟩) 2 2] (w.alloc (.cells #[u1, u2] T)) (fun e w' => ∃ v, e = .returned v ∧ Own w.heap.size 5 w' v ((l1 ++ l2).map (Value.int .u8)) ∧ Below w.heap.size w w') := by
  have r0 : Rd (w.alloc (.cells #[u1, u2] T)) (.slice (some ⟨g, 0, none⟩) 2 2) [u1, u2] := Rd.lit _ e rfl (by simp) rfl
  refine (slicesConcatB _ _ [l1, l2] _ r0 rfl (by simp) ?_ (by simp; omega)).mono ?_
  · intro i u' l h3 h4
    match i, h3, h4 with
    | 0, h3, h4 => simp at h3 h4; subst h3 h4; exact h1.below (below_alloc _ _)
    | 1, h3, h4 => simp at h3 h4; subst h3 h4; exact h2.below (below_alloc _ _)
  · rintro e w' ⟨v, rfl, ho, hb⟩
    refine ⟨v, rfl, ?_, blift (below_alloc _ _) hb⟩
    have := ho.lower (B' := w.heap.size) (below_alloc _ _).size
    simpa using this
theorem intsB_len (l : List Int) (h : ∀ z ∈ l, -9223372036854775808 ≤ z ∧ z ≤ 9223372036854775807) : (intsB l).length ≤ 10 * l.length + (intB l.length).length := by
  have := flat_len l h
  rw [intsB, List.length_append]; omega
theorem strsB_len (l : List ByteArray) (h : SmallStrs l) (hl : l.length ≤ 1000) : (strsB l).length ≤ 1000010 * l.length + 10 := by
  have h1 := strs_len l h
  have h2 := intB_len l.length (by omega) (by omega)
  rw [strsB, List.length_append]; omega

/-- Two one-cell elements in a new block. -/
def Two (H : Nat) (x y : Value) (v : Value) (w : World) : Prop := ∃ g, v = .slice (some ⟨g, 0, none⟩) 2 2 ∧ H ≤ g ∧ w.cell? ⟨g, 0, none⟩ = some x ∧ w.cell? ⟨g, 1, none⟩ = some y
theorem Two.below {H : Nat} {x y v : Value} {w w' : World} (h : Two H x y v w) (hb : Below w.heap.size w w') : Two H x y v w' := by
  obtain ⟨g, h1, h2, h3, h4⟩ := h
  exact ⟨g, h1, h2, below_cell hb h3, below_cell hb h4⟩
theorem Two.grown {H : Nat} {x y v u : Value} {w w' : World} (h : Two H x y v w) (hg : w.grownBy w' u.ownBlock) (hu : ∀ k, u.ownBlock = some k → k < H) : Two H x y v w' := by
  obtain ⟨g, h1, h2, h3, h4⟩ := h
  have hne : some g ≠ u.ownBlock := fun e => by have := hu g e.symm; omega
  exact ⟨g, h1, h2, hg.cell h3 hne, hg.cell h4 hne⟩
theorem Two.rd {H : Nat} {x y v : Value} {w : World} (h : Two H x y v w) : Rd w v [x, y] := by
  obtain ⟨g, rfl, h2, h3, h4⟩ := h
  refine ⟨_, 2, g, 0, rfl, by simp, by simp [maxLen], fun _ => rfl, fun j u hu => ?_⟩
  match j, hu with
  | 0, hu => simp at hu; subst hu; exact h3
  | 1, hu => simp at hu; subst hu; exact h4
/-- Own slices of other types stay where one grows. -/
theorem Own.other {B E1 E2 : Nat} {w w' : World} {u v : Value} {cs ds : List Value} (h : Own B E1 w u cs) (h2 : Own B E2 w v ds) (hE : E1 ≠ E2) (hg : w.grownBy w' v.ownBlock) : Own B E1 w' u cs := by
  refine World.ownsRow.kept h hg ?_
  rcases h.2 with ⟨rfl, _⟩ | ⟨g, cap, cur, rfl, _, hgg, _⟩
  · exact .inl rfl
  · right
    intro e
    rcases h2.2 with ⟨rfl, _⟩ | ⟨g2, cap2, cur2, rfl, _, hgg2, _⟩
    · simp [Value.ownBlock] at e
    · simp [Value.ownBlock] at e
      subst e
      rw [hgg] at hgg2
      simp at hgg2
      exact hE hgg2.2
theorem Own.lt {B E : Nat} {w : World} {v : Value} {cs : List Value} (h : Own B E w v cs) : ∀ k, v.ownBlock = some k → B ≤ k ∧ k < w.heap.size := World.ownsRow.lt h
theorem AttrAt.grown {w w' : World} {b off : Nat} {x : PAttr} {u : Value} (h : AttrAt w b off x) (hg : w.grownBy w' u.ownBlock) (hu : ∀ k, u.ownBlock = some k → k < b) : AttrAt w' b off x := by
  have hne : some b ≠ u.ownBlock := fun e => by have := hu b e.symm; omega
  exact ⟨hg.cell h.1 hne, hg.cell h.2.1 hne, hg.cell h.2.2.1 hne, hg.cell h.2.2.2 hne⟩

section
variable (B H : Nat) (n s : Value) (cs ss : List Value) (y : PAttr) (wz : World)
def e6C (i : Nat) (w : World) : Prop := if i = 6 then Own B 3 w n cs else if i = 13 then Own B 9 w s ss else True
def e6L (ga : Nat) : List Value := [n, .pointer (some ⟨ga, 1, none⟩), .int .i64 y.kind, .pointer (some ⟨ga, 2, none⟩), .int .i64 y.n, undef, undef, s, .pointer (some ⟨ga, 0, none⟩), .string y.name, .pointer (some ⟨ga, 3, none⟩), .string y.s]
def e6R (i : Nat) (v : Value) (w : World) : Prop :=
  if i = 5 then Two H (.int .i64 y.kind) (.int .i64 y.n) v w else if i = 12 then Two H (.string y.name) (.string y.s) v w
  else if i = 6 ∨ i = 14 then Own B 3 w v (cs ++ [.int .i64 y.kind, .int .i64 y.n]) else if i = 13 ∨ i = 15 then Own B 9 w v (ss ++ [.string y.name, .string y.s])
  else v = (e6L n s y H).getD i undef
theorem e6R_imp {B H : Nat} {n s : Value} {cs ss : List Value} {y : PAttr} {i : Nat} {v : Value} {w w' : World} (f5 : ∀ x y, Two H x y v w → Two H x y v w') (f6 : i = 6 ∨ i = 14 → Own B 3 w v (cs ++ [.int .i64 y.kind, .int .i64 y.n]) → Own B 3 w' v (cs ++ [.int .i64 y.kind, .int .i64 y.n]))
    (f13 : i = 13 ∨ i = 15 → Own B 9 w v (ss ++ [.string y.name, .string y.s]) → Own B 9 w' v (ss ++ [.string y.name, .string y.s])) (h : e6R B H n s cs ss y i v w) : e6R B H n s cs ss y i v w' := by
  unfold e6R at h ⊢
  by_cases h5 : i = 5
  · rw [if_pos h5] at h ⊢; exact f5 _ _ h
  · rw [if_neg h5] at h ⊢
    by_cases h12 : i = 12
    · rw [if_pos h12] at h ⊢; exact f5 _ _ h
    · rw [if_neg h12] at h ⊢
      by_cases h6 : i = 6 ∨ i = 14
      · rw [if_pos h6] at h ⊢; exact f6 h6 h
      · rw [if_neg h6] at h ⊢
        by_cases h13 : i = 13 ∨ i = 15
        · rw [if_pos h13] at h ⊢; exact f13 h13 h
        · rw [if_neg h13] at h ⊢; exact h
def e6E (j : Nat) (w w' : World) : Prop := if j = 6 then Own B 3 w n cs ∧ w.grownBy w' n.ownBlock else if j = 13 then Own B 9 w s ss ∧ w.grownBy w' s.ownBlock else Below w.heap.size w w'
def e6G (w : World) : Prop := Below B wz w ∧ H ≤ w.heap.size ∧ AttrAt w H 0 y
end

set_option maxRecDepth 100000 in
set_option maxHeartbeats 1000000 in
theorem attrEncode (v : Value) (x : PEntry) (w : World) (hv : EntryV w v x) (hf : FitE x) (hs : SmallE x) : Calls Tryd.prog 9 #[v] w (MadeBytes w (encE x)) := by
  obtain ⟨vv, av, rfl, hi, hatt⟩ := hv
  have HB := Lib.hid (EntAt.box w x vv av 25 hi hatt)
  have hw0 : Below w.heap.size w (w.alloc (.cells #[.int .i64 x.id, .int .i64 x.ver, .int .i64 x.owner, .int .i64 x.filed, .int .i64 x.frm, .int .i64 x.to, .int .i64 x.born, vv, av] 25)) := below_alloc _ _
  obtain ⟨a1, cap1, b1, off1, rfl, -, hm1, -, -⟩ := hi.open
  obtain ⟨a, cap, b, off, rfl, hcap, hm, ha, hc⟩ := HB.out.2.2.2.2.2.2.2.2.2.2.open
  unfold maxLen at hm hm1
  have HF := Lib.hid hf
  obtain ⟨v1, v2, v3⟩ := hs
  have V3 := Lib.hid v3
  clear hi hatt hf v3
  unfold entryVal
  go_enter Tryd.func9, Tryd.ntmps9
  go_wp2_with fail
  generalize hw : w.alloc (.cells #[.int .i64 x.id, .int .i64 x.ver, .int .i64 x.owner, .int .i64 x.filed, .int .i64 x.frm, .int .i64 x.to, .int .i64 x.born, .slice a1 x.vec.length cap1, .slice a x.attrs.length cap] 25) = w0 at *
  have hsz : w.heap.size + 1 = w0.heap.size := by rw [← hw]; simp
  have hsz' : w.heap.size < w0.heap.size := by omega
  simp only [hsz]
  clear hw hsz
  refine (concat3 (headN x) x.vec [(x.attrs.length : Int)] HB.out.2.2.2.2.2.2.2.2.2.1 rfl rfl rfl rfl rfl rfl rfl (by simp [headN]) (by simp) (by omega)).mono ?_
  rintro e w1 ⟨v0, rfl, ho1, hb1⟩
  have HB1 := Lib.hid (HB.out.below hb1)
  obtain ⟨-, -, -, -, -, -, -, -, c8, -, -⟩ := HB1.out
  have hlo := ho1
  go_wp2
  go_loopw [3, 4, 36] (fun n s i wr => ∃ k : Nat, k ≤ x.attrs.length ∧ i = .int .i64 k ∧ Own w0.heap.size 3 wr n ((headN x ++ x.vec ++ [(x.attrs.length : Int)] ++ attrN (x.attrs.take k)).map (Value.int .i64)) ∧ Own w0.heap.size 9 wr s ((attrS (x.attrs.take k)).map Value.string) ∧ Below w0.heap.size w0 wr) (fun _ _ i _ => x.attrs.length - (intOf i).toNat)
  case atStart => exact ⟨0, by omega, rfl, by simpa [attrN] using ho1, by simpa [attrS] using Own.nil _ _ _, hb1⟩
  case round =>
    obtain ⟨k, hk, rfl, hn, hs, hb⟩ := hrel
    by_cases hlt : k < x.attrs.length
    · obtain ⟨y, hy⟩ := ints_get x.attrs k (by omega)
      have hy0 := hc.out k y hy
      have hbl : b < w0.heap.size := hy0.lt
      obtain ⟨d0, d1, d2, d3⟩ := hy0.below hb
      have HN := Lib.hid hn
      have HS := Lib.hid hs
      have hbw := hb.size
      have T1 := Lib.hid (attrN_take x.attrs k y hy)
      have T2 := Lib.hid (attrS_take x.attrs k y hy)
      obtain rfl := ha (by omega)
      clear hc hy ha hy0 hn hs
      go_wp2
      have hwa := below_alloc wr (.cells #[.string y.name, .int .i64 y.kind, .int .i64 y.n, .string y.s] 50)
      have AT := Lib.hid (AttrAt.box wr y 50)
      have hwas : wr.heap.size < (wr.alloc (.cells #[.string y.name, .int .i64 y.kind, .int .i64 y.n, .string y.s] 50)).heap.size := by simp
      generalize wr.alloc (.cells #[.string y.name, .int .i64 y.kind, .int .i64 y.n, .string y.s] 50) = wa at *
      obtain ⟨cs, hcs⟩ : ∃ cs : List Value, (headN x ++ x.vec ++ [(x.attrs.length : Int)] ++ attrN (x.attrs.take k)).map (Value.int .i64) = cs := ⟨_, rfl⟩
      obtain ⟨ss, hss⟩ : ∃ ss : List Value, (attrS (x.attrs.take k)).map Value.string = ss := ⟨_, rfl⟩
      have lcs : cs.length ≤ 1000000 := by rw [← hcs, List.length_map]; simp only [List.length_append, List.length_cons, List.length_nil, headN, attrN_len, List.length_take]; omega
      have lss : ss.length ≤ 1000000 := by rw [← hss, List.length_map]; simp only [attrS_len, List.length_take]; omega
      have HCS := Lib.hid hcs
      have HSS := Lib.hid hss
      rw [hcs] at HN
      rw [hss] at HS
      clear hcs hss
      have hu3 := fun k hk => (HN.out.lt k hk).2
      have hu4 := fun k hk => (HS.out.lt k hk).2
      have hu3' := fun k hk => (HN.out.lt k hk).1
      have hu4' := fun k hk => (HS.out.lt k hk).1
      refine wp_region_G (e6C w0.heap.size u3 u4 cs ss) (e6R w0.heap.size wr.heap.size u3 u4 cs ss y) (e6E w0.heap.size u3 u4 cs ss) (e6G w0.heap.size wr.heap.size y w0) (by kernel_rfl) (by kernel_rfl) ?_ ?_ ?_ ?_ ?_ ?_ ?_
      · exact ⟨(blift hb hwa).drew, Nat.le_of_lt hwas, AT.out.below ((Below.refl _ _).drew)⟩
      · intro i _
        unfold e6C
        split
        · exact (HN.out.kept hwa).drew
        · split
          · exact (HS.out.kept hwa).drew
          · trivial
      · intro i j w w' _ _ hij hd hG hC hE
        unfold e6E at hE
        unfold e6C at hC ⊢
        split at hE
        · subst j
          rw [if_neg hij]
          rw [if_neg hij] at hC
          split
          · rename_i h; rw [if_pos h] at hC; exact hC.other hE.1 (by decide) hE.2
          · trivial
        · split at hE
          · subst j
            split
            · rename_i h; rw [if_pos h] at hC; exact hC.other hE.1 (by decide) hE.2
            · first | trivial | (rw [if_neg hij]; trivial)
          · split
            · rename_i h; rw [if_pos h] at hC; exact hC.kept hE
            · rename_i h
              rw [if_neg h] at hC
              split
              · rename_i h2; rw [if_pos h2] at hC; exact hC.kept hE
              · trivial
      · intro i j v w w' _ _ hij hd hG hR hE
        unfold e6E at hE
        split at hE
        · subst j
          refine e6R_imp (fun _ _ h => h.grown hE.2 hu3) (fun h => ?_) (fun _ h => h.other hE.1 (by decide) hE.2) hR
          rcases h with rfl | rfl
          · exact absurd rfl hij
          · exact absurd (show depB _ 14 6 = true by kernel_rfl) (by rw [hd]; simp)
        · split at hE
          · subst j
            refine e6R_imp (fun _ _ h => h.grown hE.2 hu4) (fun _ h => h.other hE.1 (by decide) hE.2) (fun h => ?_) hR
            rcases h with rfl | rfl
            · exact absurd rfl hij
            · exact absurd (show depB _ 15 13 = true by kernel_rfl) (by rw [hd]; simp)
          · exact e6R_imp (fun _ _ h => h.below hE) (fun _ h => h.kept hE) (fun _ h => h.kept hE) hR
      · intro j w w' _ hG hC hE
        unfold e6E at hE
        split at hE
        · exact ⟨hG.1.grown hE.2 (Nat.le_trans hbw hG.2.1) hu3', Nat.le_trans hG.2.1 hE.2.size, hG.2.2.grown hE.2 hu3⟩
        · split at hE
          · exact ⟨hG.1.grown hE.2 (Nat.le_trans hbw hG.2.1) hu4', Nat.le_trans hG.2.1 hE.2.size, hG.2.2.grown hE.2 hu4⟩
          · exact ⟨hG.1.trans (hE.mono (Nat.le_trans hbw hG.2.1)), Nat.le_trans hG.2.1 hE.size, hG.2.2.below hE⟩
      · refine ⟨?_, ?_, ?_, ?_, ?_, ?_, ?_, ?_, ?_, ?_, ?_, ?_, ?_, ?_, ?_, ?_, trivial⟩
        · intro a w hc
          refine wpOp_at rfl rfl ?_
          have e3 : a.tmps.getD 3 undef = u3 := hc.old 3 (by kernel_rfl)
          have q3 : a.tmps[3]?.getD undef = u3 := by rw [← Array.getD_eq_getD_getElem?]; exact e3
          go_simp
          exact ⟨_, rfl, rfl, Below.refl _ _⟩
        · intro a w hc
          refine wpOp_at rfl rfl ?_
          have e6 : a.tmps.getD 6 undef = .pointer (some ⟨wr.heap.size, 0, none⟩) := hc.old 6 (by kernel_rfl)
          have q6 : a.tmps[6]?.getD undef = .pointer (some ⟨wr.heap.size, 0, none⟩) := by rw [← Array.getD_eq_getD_getElem?]; exact e6
          go_simp
          exact ⟨_, rfl, rfl, Below.refl _ _⟩
        · intro a w hc
          refine wpOp_at rfl rfl ?_
          have e41 : a.tmps.getD 41 undef = .pointer (some ⟨wr.heap.size, 1, none⟩) := hc.dep 1 (by kernel_rfl)
          have q41 : a.tmps[41]?.getD undef = .pointer (some ⟨wr.heap.size, 1, none⟩) := by rw [← Array.getD_eq_getD_getElem?]; exact e41
          obtain ⟨f0, f1, f2, f3⟩ := hc.all.2.2
          go_simp
          exact ⟨_, rfl, rfl, Below.refl _ _⟩
        · intro a w hc
          refine wpOp_at rfl rfl ?_
          have e6 : a.tmps.getD 6 undef = .pointer (some ⟨wr.heap.size, 0, none⟩) := hc.old 6 (by kernel_rfl)
          have q6 : a.tmps[6]?.getD undef = .pointer (some ⟨wr.heap.size, 0, none⟩) := by rw [← Array.getD_eq_getD_getElem?]; exact e6
          go_simp
          exact ⟨_, rfl, rfl, Below.refl _ _⟩
        · intro a w hc
          refine wpOp_at rfl rfl ?_
          have e43 : a.tmps.getD 43 undef = .pointer (some ⟨wr.heap.size, 2, none⟩) := hc.dep 3 (by kernel_rfl)
          have q43 : a.tmps[43]?.getD undef = .pointer (some ⟨wr.heap.size, 2, none⟩) := by rw [← Array.getD_eq_getD_getElem?]; exact e43
          obtain ⟨f0, f1, f2, f3⟩ := hc.all.2.2
          go_simp
          exact ⟨_, rfl, rfl, Below.refl _ _⟩
        · intro a w hc
          refine wpOp_at rfl rfl ?_
          have e42 : a.tmps.getD 42 undef = .int .i64 y.kind := hc.dep 2 (by kernel_rfl)
          have q42 : a.tmps[42]?.getD undef = .int .i64 y.kind := by rw [← Array.getD_eq_getD_getElem?]; exact e42
          have e44 : a.tmps.getD 44 undef = .int .i64 y.n := hc.dep 4 (by kernel_rfl)
          have q44 : a.tmps[44]?.getD undef = .int .i64 y.n := by rw [← Array.getD_eq_getD_getElem?]; exact e44
          go_simp
          exact ⟨_, rfl, ⟨_, rfl, hc.all.2.1, by simp, by simp⟩, below_alloc _ _⟩
        · intro a w hc
          refine wpOp_at rfl rfl ?_
          have e40 : a.tmps.getD 40 undef = u3 := hc.dep 0 (by kernel_rfl)
          have q40 : a.tmps[40]?.getD undef = u3 := by rw [← Array.getD_eq_getD_getElem?]; exact e40
          have hd : Two wr.heap.size (.int .i64 y.kind) (.int .i64 y.n) (a.tmps.getD 45 undef) w := hc.dep 5 (by kernel_rfl)
          have hcc : Own w0.heap.size 3 w u3 _ := hc.rely
          obtain ⟨g, hd1, hd2, hd3, hd4⟩ := hd
          obtain ⟨i0, hi0, hz0, hz1, hz2⟩ := info_parts (elemInt).info
          refine wp_append_own w (.tmp 40) (.tmp 45) 22 rfl w0.heap.size 3 i0 _ 1 8 Tryd.underlying22 hi0 hz0 hz1 hz2 rfl (by decide) u3 _ _ e40 hcc ⟨g, 0, none⟩ 2 2 [(.int .i64 y.kind), (.int .i64 y.n)] hd1 rfl ?_ ?_ (by unfold maxLen; omega) (by omega) ?_ ?_
          · intro j u' hj
            match j, hj with
            | 0, hj => simp at hj; subst hj; simpa [Addr.add] using hd3
            | 1, hj => simp at hj; subst hj; simpa [Addr.add] using hd4
          · intro u' hu'
            simp only [List.mem_cons, List.not_mem_nil, or_false] at hu'
            rcases hu' with rfl | rfl <;> rfl
          · exact Nat.le_trans (by omega) hc.all.2.1
          · intro v' w' ho' hg' _
            exact ⟨v', rfl, (show Own w0.heap.size 3 w' v' (cs ++ [.int .i64 y.kind, .int .i64 y.n]) from by simpa [Own] using ho'), hcc, hg'⟩
        · intro a w hc
          refine wpOp_at rfl rfl ?_
          have e4 : a.tmps.getD 4 undef = u4 := hc.old 4 (by kernel_rfl)
          have q4 : a.tmps[4]?.getD undef = u4 := by rw [← Array.getD_eq_getD_getElem?]; exact e4
          go_simp
          exact ⟨_, rfl, rfl, Below.refl _ _⟩
        · intro a w hc
          refine wpOp_at rfl rfl ?_
          have e6 : a.tmps.getD 6 undef = .pointer (some ⟨wr.heap.size, 0, none⟩) := hc.old 6 (by kernel_rfl)
          have q6 : a.tmps[6]?.getD undef = .pointer (some ⟨wr.heap.size, 0, none⟩) := by rw [← Array.getD_eq_getD_getElem?]; exact e6
          go_simp
          exact ⟨_, rfl, rfl, Below.refl _ _⟩
        · intro a w hc
          refine wpOp_at rfl rfl ?_
          have e48 : a.tmps.getD 48 undef = .pointer (some ⟨wr.heap.size, 0, none⟩) := hc.dep 8 (by kernel_rfl)
          have q48 : a.tmps[48]?.getD undef = .pointer (some ⟨wr.heap.size, 0, none⟩) := by rw [← Array.getD_eq_getD_getElem?]; exact e48
          obtain ⟨f0, f1, f2, f3⟩ := hc.all.2.2
          go_simp
          exact ⟨_, rfl, rfl, Below.refl _ _⟩
        · intro a w hc
          refine wpOp_at rfl rfl ?_
          have e6 : a.tmps.getD 6 undef = .pointer (some ⟨wr.heap.size, 0, none⟩) := hc.old 6 (by kernel_rfl)
          have q6 : a.tmps[6]?.getD undef = .pointer (some ⟨wr.heap.size, 0, none⟩) := by rw [← Array.getD_eq_getD_getElem?]; exact e6
          go_simp
          exact ⟨_, rfl, rfl, Below.refl _ _⟩
        · intro a w hc
          refine wpOp_at rfl rfl ?_
          have e50 : a.tmps.getD 50 undef = .pointer (some ⟨wr.heap.size, 3, none⟩) := hc.dep 10 (by kernel_rfl)
          have q50 : a.tmps[50]?.getD undef = .pointer (some ⟨wr.heap.size, 3, none⟩) := by rw [← Array.getD_eq_getD_getElem?]; exact e50
          obtain ⟨f0, f1, f2, f3⟩ := hc.all.2.2
          go_simp
          exact ⟨_, rfl, rfl, Below.refl _ _⟩
        · intro a w hc
          refine wpOp_at rfl rfl ?_
          have e49 : a.tmps.getD 49 undef = .string y.name := hc.dep 9 (by kernel_rfl)
          have q49 : a.tmps[49]?.getD undef = .string y.name := by rw [← Array.getD_eq_getD_getElem?]; exact e49
          have e51 : a.tmps.getD 51 undef = .string y.s := hc.dep 11 (by kernel_rfl)
          have q51 : a.tmps[51]?.getD undef = .string y.s := by rw [← Array.getD_eq_getD_getElem?]; exact e51
          go_simp
          exact ⟨_, rfl, ⟨_, rfl, hc.all.2.1, by simp, by simp⟩, below_alloc _ _⟩
        · intro a w hc
          refine wpOp_at rfl rfl ?_
          have e47 : a.tmps.getD 47 undef = u4 := hc.dep 7 (by kernel_rfl)
          have q47 : a.tmps[47]?.getD undef = u4 := by rw [← Array.getD_eq_getD_getElem?]; exact e47
          have hd : Two wr.heap.size (.string y.name) (.string y.s) (a.tmps.getD 52 undef) w := hc.dep 12 (by kernel_rfl)
          have hcc : Own w0.heap.size 9 w u4 _ := hc.rely
          obtain ⟨g, hd1, hd2, hd3, hd4⟩ := hd
          obtain ⟨i0, hi0, hz0, hz1, hz2⟩ := info_parts (elemStr).info
          refine wp_append_own w (.tmp 47) (.tmp 52) 58 rfl w0.heap.size 9 i0 _ 1 16 Tryd.underlying58 hi0 hz0 hz1 hz2 rfl (by decide) u4 _ _ e47 hcc ⟨g, 0, none⟩ 2 2 [(.string y.name), (.string y.s)] hd1 rfl ?_ ?_ (by unfold maxLen; omega) (by omega) ?_ ?_
          · intro j u' hj
            match j, hj with
            | 0, hj => simp at hj; subst hj; simpa [Addr.add] using hd3
            | 1, hj => simp at hj; subst hj; simpa [Addr.add] using hd4
          · intro u' hu'
            simp only [List.mem_cons, List.not_mem_nil, or_false] at hu'
            rcases hu' with rfl | rfl <;> rfl
          · exact Nat.le_trans (by omega) hc.all.2.1
          · intro v' w' ho' hg' _
            exact ⟨v', rfl, (show Own w0.heap.size 9 w' v' (ss ++ [.string y.name, .string y.s]) from by simpa [Own] using ho'), hcc, hg'⟩
        · intro a w hc
          refine wpOp_at rfl rfl ?_
          have hd : Own w0.heap.size _ w (a.tmps.getD 46 undef) _ := hc.dep 6 (by kernel_rfl)
          generalize hv : a.tmps.getD 46 undef = v at hd
          go_simp
          exact ⟨_, rfl, hd, Below.refl _ _⟩
        · intro a w hc
          refine wpOp_at rfl rfl ?_
          have hd : Own w0.heap.size _ w (a.tmps.getD 53 undef) _ := hc.dep 13 (by kernel_rfl)
          generalize hv : a.tmps.getD 53 undef = v at hd
          go_simp
          exact ⟨_, rfl, hd, Below.refl _ _⟩
      · rintro vs w2 ⟨hb2, -, -⟩ ⟨h0, h1, h2, h3, h4, h5, h6, h7, h8, h9, h10, h11, h12, h13, h14, h15, -⟩
        have o14 : Own w0.heap.size 3 w2 (vs 14) _ := h14
        have o15 : Own w0.heap.size 9 w2 (vs 15) _ := h15
        have O14 := Lib.hid o14
        have O15 := Lib.hid o15
        clear h0 h1 h2 h3 h4 h5 h6 h7 h8 h9 h10 h11 h12 h13 h14 h15 o14 o15
        simp only [putAll]
        go_wp2
        go_roundw
        case rel => exact ⟨k + 1, by omega, by go_num, by rw [T1.out, ← List.append_assoc, List.map_append, HCS.out]; exact O14.out, by rw [T2.out, List.map_append, HSS.out]; exact O15.out, hb2⟩
        case measure => simp [intOf]; omega
    · have e : x.attrs.take k = x.attrs := List.take_of_length_le (by omega)
      rw [e] at hn hs
      have HN := Lib.hid hn
      have HS := Lib.hid hs
      have FN := Lib.hid (encN_fit x HF.out ⟨v1, v2, V3.out⟩)
      have LN := encN_len x
      have FS := Lib.hid (attrS_small x.attrs V3.out)
      have LS := attrS_len x.attrs
      clear hc ha hn hs e
      go_wp2_with fail
      refine (wireInts _ (encN x) _ HN.out.rd FN.out (by omega)).mono ?_
      rintro e w2 ⟨v2', rfl, ho2, hb2⟩
      have HS2 := Lib.hid (HS.out.kept hb2)
      go_wp2_with fail
      refine (wireStrings _ (attrS x.attrs) _ HS2.out.rd FS.out (by omega)).mono ?_
      rintro e w3 ⟨v3', rfl, ho3, hb3⟩
      have h23 := Lib.hid (ho2.kept hb3)
      have h33 := Lib.hid ho3
      obtain ⟨p2, q2, rfl⟩ := ho2.form
      obtain ⟨p3, q3, rfl⟩ := ho3.form
      have hl2 := intsB_len (encN x) FN.out
      have hl2' := intB_len (encN x).length (by omega) (by omega)
      have hl3 := strsB_len (attrS x.attrs) FS.out (by omega)
      clear ho2 ho3
      simp only [List.length_map] at h23 h33
      go_wp2_with fail
      refine (concat2 (intsB (encN x)) (strsB (attrS x.attrs)) h23.out.rd h33.out.rd rfl (by omega)).mono ?_
      rintro e w4 ⟨v4', rfl, ho4, hb4⟩
      go_wp2
      go_ret
      have h13 := blift (blift (blift hb hb2) hb3) hb4
      exact ⟨_, rfl, ho4.lower (Nat.le_trans (Nat.le_trans (Nat.le_trans hw0.size hb.size) hb2.size) hb3.size), blift hw0 h13⟩

end Go.Proofs.YtnjopfjmepbpoaaDoor

/- Walks: words, def, Check of antiquaryref13. -/
namespace Go.Proofs.YtnjopfjmepbpoaaDoor
set_option linter.unusedSimpArgs false
set_option linter.unusedVariables false
set_option linter.unnecessarySimpa false
open Go.RowKit

theorem refMetric (n : Int) (w : World) : Calls Tryd.prog 47 #[.int .i64 n] w fun e w' => e = .returned (.bool (decide (1 ≤ n) && decide (n ≤ 3))) ∧ w = w' := by
  cases e : decide (1 ≤ n)
  all_goals
    go_enter Tryd.func47, Tryd.ntmps47
    go_wp2
    go_ret
    exact ⟨ret_bool (by simp), rfl⟩

theorem wordsE_long (l : List ByteArray) (h : l.length < 1 ∨ 50 < l.length) : wordsE l = 2 := by rw [wordsE, if_pos h]
theorem wordsE_name (l : List ByteArray) (h : ¬ (l.length < 1 ∨ 50 < l.length)) (h2 : l.any (fun s => !nameB s) = true) : wordsE l = 5 := by rw [wordsE, if_neg h, if_pos h2]
theorem wordsE_rise (l : List ByteArray) (h : ¬ (l.length < 1 ∨ 50 < l.length)) (h2 : l.any (fun s => !nameB s) = false) : wordsE l = if riseB l then 0 else 6 := by rw [wordsE, if_neg h, if_neg (by simp [h2])]

set_option maxRecDepth 100000 in
set_option maxHeartbeats 1000000 in
theorem refWords (v : Value) (l : List ByteArray) (w : World) (hv : Strs w v l) (hl : l.length ≤ 1000) (hsm : Hid (∀ s ∈ l, s.size ≤ 1000)) :
    Calls Tryd.prog 98 #[v] w (RetI w (wordsE l)) := by
  obtain ⟨a, cap, b, off, rfl, hcap, hm, ha, hc⟩ := hv.open
  have W1 := Lib.hid (wordsE_long l)
  have W2 := Lib.hid (wordsE_name l)
  have W3 := Lib.hid (wordsE_rise l)
  clear hv
  by_cases h1 : l.length < 1
  · have h1' : decide ((l.length : Int) < 1) = true := by simp only [decide_eq_true_eq]; omega
    go_enter Tryd.func98, Tryd.ntmps98
    go_wp2
    go_ret
    exact RetI.mk (W1.out (by omega)).symm (Below.refl _ _)
  · have h1' : decide ((l.length : Int) < 1) = false := by simp only [decide_eq_false_iff_not]; omega
    by_cases h2 : 50 < l.length
    · have h2' : decide ((50 : Int) < (l.length : Int)) = true := by simp only [decide_eq_true_eq]; omega
      go_enter Tryd.func98, Tryd.ntmps98
      go_wp2
      go_ret
      exact RetI.mk (W1.out (by omega)).symm (Below.refl _ _)
    · have h2' : decide ((50 : Int) < (l.length : Int)) = false := by simp only [decide_eq_false_iff_not]; omega
      obtain rfl := ha (by omega)
      have hpos : 1 ≤ l.length := by omega
      obtain ⟨x0, hx0⟩ := ints_get l 0 (by omega)
      have S0 : Hid (riseB l = riseGo x0 (l.drop 1)) := riseB_start l x0 hx0
      have X0 : Hid (l[0]? = some x0) := hx0
      clear hx0 ha
      go_enter Tryd.func98, Tryd.ntmps98
      go_wp2
      go_loopw [3] (fun i wr => ∃ k : Nat, k ≤ l.length ∧ i = .int .i64 k ∧ Below w.heap.size w wr ∧ Hid (l.any (fun s => !nameB s) = (l.drop k).any (fun s => !nameB s))) (fun i _ => l.length - (intOf i).toNat)
      case atStart => exact ⟨0, by omega, rfl, Below.refl _ _, rfl⟩
      case round =>
        obtain ⟨k, hk, rfl, hb, hh⟩ := hrel
        by_cases hlt : k < l.length
        · obtain ⟨y, hy⟩ := ints_get l k (by omega)
          have c0 := below_cell hb (hc.out k y hy)
          have H : Hid (_ = _) := any_drop l (fun s => !nameB s) k y hy
          have hs1 := hsm.out y (List.mem_of_getElem? hy)
          clear hy
          cases e : nameB y
          · have E := Lib.hid e
            clear e
            go_wp2_with fail
            refine (refName y _ (by omega)).mono ?_
            rintro e w2 ⟨rfl, hb2⟩
            rw [E.out]
            go_wp2
            go_ret
            exact RetI.mk (W2.out (by omega) (by rw [hh.out, H.out, E.out]; rfl)).symm (blift hb hb2)
          · have E := Lib.hid e
            clear e
            go_wp2_with fail
            refine (refName y _ (by omega)).mono ?_
            rintro e w2 ⟨rfl, hb2⟩
            rw [E.out]
            go_wp2
            go_roundw
            case rel => exact ⟨k + 1, by omega, by go_num, blift hb hb2, by rw [Hid, hh.out, H.out, E.out]; rfl⟩
            case measure => simp [intOf]; omega
        · have W4 := Lib.hid (W3.out (by omega) (by rw [hh.out, any_end _ _ _ (by omega)]))
          clear hh W1 W2 W3 hk
          go_wp2
          go_loopw [4] (fun i wr => ∃ k : Nat, ∃ p, k + 1 ≤ l.length ∧ i = .int .i64 ((k + 1 : Nat) : Int) ∧ Below w.heap.size w wr ∧ Hid (l[k]? = some p) ∧ Hid (riseB l = riseGo p (l.drop (k+1)))) (fun i _ => l.length - (intOf i).toNat)
          case atStart => exact ⟨0, x0, by omega, rfl, hb, X0, S0⟩
          case round =>
            obtain ⟨j, p, hk, rfl, hb, hp, hh⟩ := hrel
            by_cases hlt2 : j + 1 < l.length
            · obtain ⟨y, hy⟩ := ints_get l (j+1) (by omega)
              have c0 := below_cell hb (hc.out (j+1) y hy)
              have c1 := below_cell hb (hc.out j p hp.out)
              have H : Hid (_ = _) := riseGo_drop l j p y hy
              have Y : Hid (l[j+1]? = some y) := hy
              clear hy
              by_cases e : leqB y p = true
              · have e' : (Op.bytesLess y.toList p.toList || y.toList == p.toList) = true := e
                go_wp2
                go_quiet (fail)
                go_wp2
                go_ret
                exact RetI.mk (by rw [W4.out, hh.out, H.out, e]; rfl) (blift hb (below_drewN _ _))
              · have e2 : leqB y p = false := by simpa using e
                have e' : (Op.bytesLess y.toList p.toList || y.toList == p.toList) = false := e2
                go_wp2
                go_quiet (fail)
                go_wp2
                go_roundw
                case rel => exact ⟨j + 1, y, by omega, by go_num, blift hb (below_drewN _ _), Y, by rw [Hid, hh.out, H.out, e2]; rfl⟩
                case measure => simp [intOf]; omega
            · go_wp2
              go_ret
              exact RetI.mk (by rw [W4.out, hh.out, riseGo_end _ _ _ (by omega)]; rfl) hb

end Go.Proofs.YtnjopfjmepbpoaaDoor

/- Walks: def, Check of antiquaryref13. -/
namespace Go.Proofs.YtnjopfjmepbpoaaDoor
set_option linter.unusedSimpArgs false
set_option linter.unusedVariables false
set_option linter.unnecessarySimpa false
open Go.RowKit

theorem defE_r1 (d : PDef) (bf : ByteArray) (h : nameB d.name = false) : defE d bf = 5 := by simp [defE, h]
theorem defE_r2 (d : PDef) (bf : ByteArray) (h : nameB d.name = true) (h2 : leqB d.name bf = true) : defE d bf = 6 := by simp [defE, h, h2]
theorem defE_r3 (d : PDef) (bf : ByteArray) (h : nameB d.name = true) (h2 : leqB d.name bf = false) (h3 : d.kind = 1) : defE d bf = if rangeBad d then 131 else if 0 < d.words.length then 3 else 0 := by
  simp [defE, h, h2, h3, rangeBad]
theorem defE_r4 (d : PDef) (bf : ByteArray) (h : nameB d.name = true) (h2 : leqB d.name bf = false) (h3 : d.kind = 2) : defE d bf = if formBad d then 3 else wordsE d.words := by
  simp [defE, h, h2, h3, formBad]
theorem defE_r5 (d : PDef) (bf : ByteArray) (h : nameB d.name = true) (h2 : leqB d.name bf = false) (h3 : d.kind ≠ 1) (h4 : d.kind ≠ 2) : defE d bf = 130 := by
  simp [defE, h, h2, h3, h4]

set_option maxRecDepth 100000 in
set_option maxHeartbeats 2000000 in
theorem refDef (d : PDef) (wv : Value) (bf : ByteArray) (w : World) (hs : Strs w wv d.words) (hsm : SmallD d) :
    Calls Tryd.prog 48 #[defV d wv, .string bf] w (RetI w (defE d bf)) := by
  have HB := Lib.hid (DefAt.box w d wv 74)
  have HS := Lib.hid (hs.below (below_alloc w (.cells #[.string d.name, .int .i64 d.kind, .int .i64 d.lo, .int .i64 d.hi, wv] 74)))
  have hw0 : Below w.heap.size w (w.alloc (.cells #[.string d.name, .int .i64 d.kind, .int .i64 d.lo, .int .i64 d.hi, wv] 74)) := below_alloc _ _
  obtain ⟨s1, s2, s3⟩ := hsm
  have S3 : Hid (∀ s ∈ d.words, s.size ≤ 1000) := s3
  obtain ⟨a, cap, b, off, rfl, -⟩ := hs.open
  clear s3 hs
  unfold defV
  cases e1 : nameB d.name
  · have F := Lib.hid (defE_r1 d bf e1)
    have E1 := Lib.hid e1
    clear e1
    go_enter Tryd.func48, Tryd.ntmps48
    go_wp2_with fail
    refine (refName d.name _ (by omega)).mono ?_
    rintro e w2 ⟨rfl, hb2⟩
    rw [E1.out]
    go_wp2
    go_ret
    exact RetI.mk F.out.symm (blift hw0 hb2)
  · cases e2 : leqB d.name bf
    · have e2' : (Op.bytesLess d.name.toList bf.toList || d.name.toList == bf.toList) = false := e2
      by_cases e3 : d.kind = 1
      · have F := Lib.hid (defE_r3 d bf e1 e2 e3)
        have E1 := Lib.hid e1
        have e3' : (d.kind == 1) = true := by simpa using e3
        clear e1 e2 e3
        cases r1 : decide (d.lo < -1099511627776) <;> cases r2 : decide (1099511627776 < d.hi) <;> cases r3 : decide (d.hi < d.lo) <;> cases r4 : decide (0 < d.words.length)
        all_goals
          have F2 := F.out
          simp only [rangeBad, r1, r2, r3] at F2
          have F3 := Lib.hid F2
          have r4' : decide ((0 : Int) < (d.words.length : Int)) = decide (0 < d.words.length) := by rw [Bool.eq_iff_iff]; simp only [decide_eq_true_eq]; omega
          rw [r4] at r4'
          have R4 := Lib.hid r4
          clear F F2
          go_enter Tryd.func48, Tryd.ntmps48
          go_wp2_with fail
          refine (refName d.name _ (by omega)).mono ?_
          rintro e w2 ⟨rfl, hb2⟩
          obtain ⟨c0, c1, c2, c3, c4⟩ := HB.out.below hb2
          simp only [Nat.zero_add] at c1 c2 c3 c4
          rw [E1.out]
          go_wp2
          go_ret
          refine RetI.mk ?_ (blift hw0 hb2)
          rw [F3.out]
          have r5 := R4.out
          simp_all
      · have e3' : (d.kind == 1) = false := by simpa using e3
        by_cases e4 : d.kind = 2
        · have F := Lib.hid (defE_r4 d bf e1 e2 e4)
          have E1 := Lib.hid e1
          have e4' : (d.kind == 2) = true := by simpa using e4
          clear e1 e2 e3 e4
          cases r1 : d.lo != 0 <;> cases r2 : d.hi != 0
          · have F2 := F.out
            simp only [formBad, r1, r2] at F2
            have F3 := Lib.hid F2
            clear F F2
            go_enter Tryd.func48, Tryd.ntmps48
            go_wp2_with fail
            refine (refName d.name _ (by omega)).mono ?_
            rintro e w2 ⟨rfl, hb2⟩
            obtain ⟨c0, c1, c2, c3, c4⟩ := HB.out.below hb2
            simp only [Nat.zero_add] at c1 c2 c3 c4
            rw [E1.out]
            go_wp2_with fail
            refine (refWords _ d.words _ (HS.out.below hb2) (by omega) S3).mono ?_
            rintro e w3 ⟨rfl, hb3⟩
            go_wp2
            go_ret
            refine RetI.mk ?_ (blift (blift hw0 hb2) hb3)
            rw [F3.out]; rfl
          all_goals
            have F2 := F.out
            simp only [formBad, r1, r2] at F2
            have F3 := Lib.hid F2
            clear F F2
            go_enter Tryd.func48, Tryd.ntmps48
            go_wp2_with fail
            refine (refName d.name _ (by omega)).mono ?_
            rintro e w2 ⟨rfl, hb2⟩
            obtain ⟨c0, c1, c2, c3, c4⟩ := HB.out.below hb2
            simp only [Nat.zero_add] at c1 c2 c3 c4
            rw [E1.out]
            go_wp2
            go_ret
            refine RetI.mk ?_ (blift hw0 hb2)
            rw [F3.out]; rfl
        · have F := Lib.hid (defE_r5 d bf e1 e2 e3 e4)
          have E1 := Lib.hid e1
          have e4' : (d.kind == 2) = false := by simpa using e4
          clear e1 e2 e3 e4
          go_enter Tryd.func48, Tryd.ntmps48
          go_wp2_with fail
          refine (refName d.name _ (by omega)).mono ?_
          rintro e w2 ⟨rfl, hb2⟩
          obtain ⟨c0, c1, c2, c3, c4⟩ := HB.out.below hb2
          simp only [Nat.zero_add] at c1 c2 c3 c4
          rw [E1.out]
          go_wp2
          go_ret
          exact RetI.mk F.out.symm (blift hw0 hb2)
    · have e2' : (Op.bytesLess d.name.toList bf.toList || d.name.toList == bf.toList) = true := e2
      have F := Lib.hid (defE_r2 d bf e1 e2)
      have E1 := Lib.hid e1
      clear e1 e2
      go_enter Tryd.func48, Tryd.ntmps48
      go_wp2_with fail
      refine (refName d.name _ (by omega)).mono ?_
      rintro e w2 ⟨rfl, hb2⟩
      obtain ⟨c0, c1, c2, c3, c4⟩ := HB.out.below hb2
      rw [E1.out]
      go_wp2
      go_ret
      exact RetI.mk F.out.symm (blift hw0 hb2)

end Go.Proofs.YtnjopfjmepbpoaaDoor

/- Walks: Check, FewDefs, Few, Find of antiquaryref13. -/
namespace Go.Proofs.YtnjopfjmepbpoaaDoor
set_option linter.unusedSimpArgs false
set_option linter.unusedVariables false
set_option linter.unnecessarySimpa false
open Go.RowKit

theorem defsE_drop (l : List PDef) (k : Nat) (b : ByteArray) (d : PDef) (h : l[k]? = some d) : defsE b (l.drop k) = if defE d b ≠ 0 then defE d b else defsE d.name (l.drop (k+1)) := by
  obtain ⟨hk, rfl⟩ := List.getElem?_eq_some_iff.1 h
  rw [List.drop_eq_getElem_cons (by omega), defsE]
theorem defsE_end (l : List PDef) (k : Nat) (b : ByteArray) (h : l.length ≤ k) : defsE b (l.drop k) = 0 := by
  rw [List.drop_eq_nil_of_le h, defsE]

set_option maxRecDepth 100000 in
set_option maxHeartbeats 1000000 in
theorem refCheck (v : Value) (s : PSchema) (w : World) (hv : SchemaV w v s) (hsm : SmallS s) : Calls Tryd.prog 17 #[v] w (RetI w (checkE s)) := by
  obtain ⟨dv, rfl, hd⟩ := hv
  obtain ⟨s1, s2⟩ := hsm
  have S2 : Hid (∀ d ∈ s.defs, SmallD d) := s2
  have HB := Lib.hid (SchAt.box w s dv 43 hd)
  have hw0 : Below w.heap.size w (w.alloc (.cells #[.int .i64 s.dims, .int .i64 s.metric, dv] 43)) := below_alloc _ _
  obtain ⟨a, cap, b, off, rfl, -, -, ha, hc⟩ := HB.out.2.2.2.open
  have C1 : Hid ((s.dims < 1 ∨ 32 < s.dims ∨ s.metric < 1 ∨ 3 < s.metric) → checkE s = 1) := fun h => by rw [checkE, if_pos h]
  have C2 : Hid (¬ (s.dims < 1 ∨ 32 < s.dims ∨ s.metric < 1 ∨ 3 < s.metric) → 16 < s.defs.length → checkE s = 2) := fun h h2 => by rw [checkE, if_neg h, if_pos h2]
  have C3 : Hid (¬ (s.dims < 1 ∨ 32 < s.dims ∨ s.metric < 1 ∨ 3 < s.metric) → ¬ 16 < s.defs.length → checkE s = defsE ByteArray.empty s.defs) := fun h h2 => by rw [checkE, if_neg h, if_neg h2]
  clear s2 hd
  cases e1 : decide (s.dims < 1) <;> cases e2 : decide (32 < s.dims) <;> cases e3 : decide (1 ≤ s.metric) <;> cases e4 : decide (s.metric ≤ 3)
  case false.false.true.true =>
    have hno := Lib.hid (show ¬ (s.dims < 1 ∨ 32 < s.dims ∨ s.metric < 1 ∨ 3 < s.metric) by simp at e1 e2 e3 e4; omega)
    by_cases h16 : 16 < s.defs.length
    · have h16' : decide ((16 : Int) < (s.defs.length : Int)) = true := by simp only [decide_eq_true_eq]; omega
      have F := Lib.hid (C2.out hno.out h16)
      clear C1 C2 C3 hc ha
      go_enter Tryd.func17, Tryd.ntmps17
      go_wp2_with (go_at_call 47; refine (refMetric _ _).mono ?_; rintro e w' ⟨rfl, rfl⟩)
      go_ret
      exact RetI.mk F.out.symm hw0
    · have h16' : decide ((16 : Int) < (s.defs.length : Int)) = false := by simp only [decide_eq_false_iff_not]; omega
      have F := Lib.hid (C3.out hno.out h16)
      clear C1 C2 C3
      go_enter Tryd.func17, Tryd.ntmps17
      go_wp2_with (go_at_call 47; refine (refMetric _ _).mono ?_; rintro e w' ⟨rfl, rfl⟩)
      generalize hw : w.alloc (.cells #[.int .i64 s.dims, .int .i64 s.metric, .slice a s.defs.length cap] 43) = w0 at *
      clear hw
      go_loopw [3, 4] (fun b i wr => ∃ (k : Nat) (bf : ByteArray), k ≤ s.defs.length ∧ i = .int .i64 k ∧ b = .string bf ∧ Below w0.heap.size w0 wr ∧ Hid (checkE s = defsE bf (s.defs.drop k))) (fun _ i _ => s.defs.length - (intOf i).toNat)
      case atStart => exact ⟨0, _, by omega, rfl, rfl, Below.refl _ _, F.out⟩
      case round =>
        obtain ⟨k, bf, hk, rfl, rfl, hb, hh⟩ := hrel
        have HS := Lib.hid (HB.out.below hb)
        have c2 := HS.out.2.2.1
        by_cases hlt : k < s.defs.length
        · obtain ⟨y, hy⟩ := ints_get s.defs k (by omega)
          obtain ⟨wv, hd, hs⟩ := hc.out k y hy
          obtain ⟨d0, d1, d2, d3, d4⟩ := hd.below hb
          have H := Lib.hid (defsE_drop s.defs k bf y hy)
          have hs' := Lib.hid (hs.below hb)
          have hsm := Lib.hid (S2.out y (List.mem_of_getElem? hy))
          obtain rfl := ha (by omega)
          clear hs hd hc hy ha
          cases e5 : (defE y bf != 0)
          all_goals
            have E5 := Lib.hid e5
            clear e5
            go_wp2_with fail
            refine (refDef y wv bf _ hs'.out hsm.out).mono ?_
            rintro e w2 ⟨rfl, hb2⟩
            have d0' := below_cell hb2 d0
            have c2' := below_cell hb2 c2
            have hb3 := blift hb hb2
            clear hb hb2 d0 d1 d2 d3 d4 c2 hs'
            have e5 := E5.out
            generalize defE y bf = x at *
          · go_wp2
            go_roundw
            case rel => exact ⟨k + 1, _, by omega, by go_num, rfl, hb3, by rw [Hid, hh.out, H.out, if_neg (by simpa using E5.out)]⟩
            case measure => simp [intOf]; omega
          · go_wp2
            go_ret
            exact RetI.mk (by rw [hh.out, H.out, if_pos (by simpa using E5.out)]) (blift hw0 hb3)
        · have F := Lib.hid (defsE_end s.defs k bf (by omega))
          clear hc ha
          go_wp2
          go_ret
          exact RetI.mk (by rw [hh.out, F.out]) (blift hw0 hb)
  all_goals
    have F := Lib.hid (C1.out (by simp at e1 e2 e3 e4; omega))
    clear C1 C2 C3 hc ha
    go_enter Tryd.func17, Tryd.ntmps17
    go_wp2_with (go_at_call 47; refine (refMetric _ _).mono ?_; rintro e w' ⟨rfl, rfl⟩)
    go_ret
    exact RetI.mk F.out.symm hw0

end Go.Proofs.YtnjopfjmepbpoaaDoor

/- Plain: an entry, decoded. -/
namespace Go.Proofs.YtnjopfjmepbpoaaDoor
set_option linter.unusedSimpArgs false
set_option linter.unusedVariables false
set_option linter.unnecessarySimpa false

def attrsOf : List Int → List ByteArray → List PAttr
  | k :: n :: r, nm :: s :: t => ⟨nm, k, n, s⟩ :: attrsOf r t
  | _, _ => []

theorem attrsOf_enc : ∀ l : List PAttr, attrsOf (attrN l) (attrS l) = l
  | [] => rfl
  | a :: r => by
    have h1 : attrN (a :: r) = a.kind :: a.n :: attrN r := rfl
    have h2 : attrS (a :: r) = a.name :: a.s :: attrS r := rfl
    rw [h1, h2, attrsOf, attrsOf_enc r]

theorem attrsOf_back : ∀ (m : Nat) (r : List Int) (t : List ByteArray), r.length = 2 * m → t.length = 2 * m → attrN (attrsOf r t) = r ∧ attrS (attrsOf r t) = t ∧ (attrsOf r t).length = m
  | 0, r, t, h1, h2 => by
    obtain rfl : r = [] := List.eq_nil_of_length_eq_zero (by omega)
    obtain rfl : t = [] := List.eq_nil_of_length_eq_zero (by omega)
    exact ⟨rfl, rfl, rfl⟩
  | m+1, k :: n :: r, nm :: s :: t, h1, h2 => by
    obtain ⟨i1, i2, i3⟩ := attrsOf_back m r t (by simp at h1; omega) (by simp at h2; omega)
    have e1 : attrN (attrsOf (k :: n :: r) (nm :: s :: t)) = k :: n :: attrN (attrsOf r t) := rfl
    have e2 : attrS (attrsOf (k :: n :: r) (nm :: s :: t)) = nm :: s :: attrS (attrsOf r t) := rfl
    rw [e1, e2, i1, i2]
    exact ⟨rfl, rfl, by simp [attrsOf, i3]⟩
  | m+1, [], _, h1, _ => by simp at h1
  | m+1, [_], _, h1, _ => by simp at h1; omega
  | m+1, _ :: _ :: _, [], _, h2 => by simp at h2
  | m+1, _ :: _ :: _, [_], _, h2 => by simp at h2; omega

theorem attrsOf_get : ∀ (j : Nat) (r : List Int) (t : List ByteArray) (k n : Int) (nm s : ByteArray), r[2*j]? = some k → r[2*j+1]? = some n → t[2*j]? = some nm → t[2*j+1]? = some s → (attrsOf r t)[j]? = some ⟨nm, k, n, s⟩
  | 0, r, t, k, n, nm, s, h1, h2, h3, h4 => by
    match r, t, h1, h2, h3, h4 with
    | a :: b :: r, c :: d :: t, h1, h2, h3, h4 =>
      simp at h1 h2 h3 h4
      subst h1 h2 h3 h4
      rfl
    | [], _, h1, _, _, _ => simp at h1
    | [_], _, _, h2, _, _ => simp at h2
    | _ :: _ :: _, [], _, _, h3, _ => simp at h3
    | _ :: _ :: _, [_], _, _, _, h4 => simp at h4
  | j+1, r, t, k, n, nm, s, h1, h2, h3, h4 => by
    match r, t, h1, h2, h3, h4 with
    | a :: b :: r, c :: d :: t, h1, h2, h3, h4 =>
      rw [show 2 * (j+1) = 2 * j + 1 + 1 by omega] at h1 h3
      rw [show 2 * (j+1) + 1 = 2 * j + 1 + 1 + 1 by omega] at h2 h4
      simp only [List.getElem?_cons_succ] at h1 h2 h3 h4
      rw [attrsOf, List.getElem?_cons_succ]
      exact attrsOf_get j r t k n nm s h1 h2 h3 h4
    | [], _, h1, _, _, _ => simp at h1
    | [_], _, h1, _, _, _ => rw [show 2 * (j+1) = 2 * j + 1 + 1 by omega] at h1; simp at h1
    | _ :: _ :: _, [], _, _, h3, _ => simp at h3
    | _ :: _ :: _, [_], _, _, h3, _ => rw [show 2 * (j+1) = 2 * j + 1 + 1 by omega] at h3; simp at h3

def zeroE : PEntry := ⟨0, 0, 0, 0, 0, 0, 0, [], []⟩

/-- The entry of numbers and strings: none, where they do not fit. -/
def entOf (n : List Int) (s : List ByteArray) : Option PEntry :=
  match n with
  | i :: v :: o :: f :: a :: t :: b :: c :: r =>
    if c < 0 ∨ (r.length : Int) - 1 < c then none
    else match r.drop c.toNat with
      | m :: q => if s.length % 2 ≠ 0 ∨ m ≠ (s.length : Int) / 2 ∨ q.length ≠ s.length then none else some ⟨i, v, o, f, a, t, b, r.take c.toNat, attrsOf q s⟩
      | [] => none
  | _ => none

def decE (bs : List Int) : PEntry × Int :=
  if (getInts bs).2.2 ≠ 0 then (zeroE, (getInts bs).2.2)
  else if (getStrs (bs.drop (getInts bs).2.1.toNat)).2.2 ≠ 0 then (zeroE, (getStrs (bs.drop (getInts bs).2.1.toNat)).2.2)
  else if (getInts bs).2.1 + (getStrs (bs.drop (getInts bs).2.1.toNat)).2.1 ≠ bs.length then (zeroE, 11)
  else match entOf (getInts bs).1 (getStrs (bs.drop (getInts bs).2.1.toNat)).1 with
    | some e => (e, 0)
    | none => (zeroE, 11)

theorem entOf_enc (x : PEntry) : entOf (encN x) (attrS x.attrs) = some x := by
  have e : encN x = x.id :: x.ver :: x.owner :: x.filed :: x.frm :: x.to :: x.born :: (x.vec.length : Int) :: (x.vec ++ (x.attrs.length : Int) :: attrN x.attrs) := by
    simp [encN, headN]
  have hl := attrS_len x.attrs
  have hn := attrN_len x.attrs
  rw [e, entOf]
  rw [if_neg (by simp only [List.length_append, List.length_cons]; omega)]
  simp only [Int.toNat_natCast, List.drop_left, List.take_left]
  rw [if_neg (by omega), attrsOf_enc]

theorem decE_enc (x : PEntry) (h : FitE x) (hs : SmallE x) : decE (encE x) = (x, 0) := by
  have hl := encN_len x
  have hv := hs.vec
  have ha := hs.attrs
  have h1 : getInts (encE x) = (encN x, ((intsB (encN x)).length : Int), 0) := getInts_rest _ _ (encN_fit x h hs) (by omega)
  have h2 : (encE x).drop (intsB (encN x)).length = strsB (attrS x.attrs) ++ [] := by rw [encE, List.drop_left]; simp
  have hl2 := attrS_len x.attrs
  have h3 := getStrs_rest (attrS x.attrs) [] (attrS_small x.attrs hs.strs) (by omega)
  rw [decE, h1]
  simp only [ne_eq, not_true_eq_false, if_false, Int.toNat_natCast]
  rw [h2, h3]
  simp only [not_true_eq_false, if_false]
  rw [if_neg (by simp [encE]), entOf_enc]

theorem entOf_back (n : List Int) (s : List ByteArray) (x : PEntry) (h : entOf n s = some x) : encN x = n ∧ attrS x.attrs = s := by
  unfold entOf at h
  split at h
  · rename_i i v o f a t b c r
    split at h
    · cases h
    · rename_i hc
      split at h
      · rename_i m q hd
        split at h
        · cases h
        · rename_i hm
          cases h
          obtain ⟨b1, b2, b3⟩ := attrsOf_back (s.length / 2) q s (by omega) (by omega)
          refine ⟨?_, b2⟩
          have hr : r = r.take c.toNat ++ m :: q := by rw [← hd, List.take_append_drop]
          have hlen : (r.take c.toNat).length = c.toNat := by rw [List.length_take]; omega
          simp only [encN, headN, b1, b3, hlen]
          rw [show ((c.toNat : Nat) : Int) = c by omega, show (((s.length / 2 : Nat)) : Int) = m by omega]
          simp only [List.cons_append, List.nil_append, List.append_assoc]
          rw [← hr]
      · cases h
  · cases h

theorem enc_decE (bs : List Int) (x : PEntry) (hby : ∀ c ∈ bs, 0 ≤ c ∧ c < 256) (h : decE bs = (x, 0)) : encE x = bs := by
  obtain ⟨n, u, e, h1⟩ : ∃ n u e, getInts bs = (n, u, e) := ⟨_, _, _, rfl⟩
  rw [decE, h1] at h
  simp only at h
  by_cases g : e ≠ 0
  · rw [if_pos g] at h; simp only [Prod.mk.injEq] at h; exact absurd h.2 g
  · rw [if_neg g] at h
    have g' : e = 0 := by simpa using g
    subst g'
    obtain ⟨t1, t2, t3⟩ := getInts_take bs n u hby h1
    obtain ⟨s, u2, e2, h2⟩ : ∃ s u2 e2, getStrs (bs.drop u.toNat) = (s, u2, e2) := ⟨_, _, _, rfl⟩
    rw [h2] at h
    simp only at h
    by_cases g2 : e2 ≠ 0
    · rw [if_pos g2] at h; simp only [Prod.mk.injEq] at h; exact absurd h.2 g2
    · rw [if_neg g2] at h
      have g2' : e2 = 0 := by simpa using g2
      subst g2'
      obtain ⟨q1, q2, q3⟩ := getStrs_take (bs.drop u.toNat) s u2 (fun c hc => hby c (List.mem_of_mem_drop hc)) h2
      rw [List.length_drop] at q3
      by_cases g3 : u + u2 ≠ bs.length
      · rw [if_pos g3] at h; simp at h
      · rw [if_neg g3] at h
        have g3' : u + u2 = bs.length := by simpa using g3
        cases he : entOf n s with
        | none => rw [he] at h; simp at h
        | some y =>
          rw [he] at h
          simp only [Prod.mk.injEq, and_true] at h
          subst h
          obtain ⟨b1, b2⟩ := entOf_back n s y he
          rw [encE, b1, b2, ← t1, ← q1, List.take_of_length_le (i := u2.toNat) (by rw [List.length_drop]; omega), List.take_append_drop]

end Go.Proofs.YtnjopfjmepbpoaaDoor

/- Contracts over pure values: wire, slices, attr and the specification. -/
namespace Go.Proofs.YtnjopfjmepbpoaaDoor
set_option linter.unusedSimpArgs false
set_option linter.unusedVariables false
set_option linter.unnecessarySimpa false
open Go.RowKit

theorem plain_int (k : IntKind) (z : Int) : plainV (.int k z) = true := rfl

theorem pcGetInts (bs : List Int) (hby : Byte bs) (hl : bs.length ≤ 1000000000) : PCalls Tryd.prog 26 [pbytes bs] (· = .tup [pints (getInts bs).1, pint (getInts bs).2.1, pint (getInts bs).2.2]) :=
  pcalls1 (by kernel_rfl) fun Φ μ w v himm hr => (wireGetInts v bs w (bytes_of_rep himm hr) hby hl).mono (by
    rintro e w' ⟨u, rfl, ho, hb⟩
    exact post_tup3 himm (plain_int _) ho hb)

theorem pcGetStrs (bs : List Int) (hby : Byte bs) (hl : bs.length ≤ 1000000000) : PCalls Tryd.prog 27 [pbytes bs] (· = .tup [pstrs (getStrs bs).1, pint (getStrs bs).2.1, pint (getStrs bs).2.2]) :=
  pcalls1 (by kernel_rfl) fun Φ μ w v himm hr => (wireGetStrings v bs w (bytes_of_rep himm hr) hby hl).mono (by
    rintro e w' ⟨u, rfl, ho, hb⟩
    exact post_tup3 himm (fun _ => rfl) ho hb)

theorem pcClone (zs : List Int) (hl : zs.length ≤ 1000000000) : PCalls Tryd.prog 28 [pints zs] (· = pintsO zs) :=
  pcalls1 (by kernel_rfl) fun Φ μ w v himm hr => (slicesCloneI v zs w (ints_of_rep himm hr) hl).mono (by
    rintro e w' ⟨u, rfl, ho, hb⟩
    exact post_own himm (plain_int _) ho hb)

theorem pcInts (zs : List Int) (hf : Fit zs) (hl : zs.length ≤ 1000000000) : PCalls Tryd.prog 34 [pints zs] (· = pbytesO (intsB zs)) :=
  pcalls1 (by kernel_rfl) fun Φ μ w v himm hr => (wireInts v zs w (ints_of_rep himm hr) hf hl).mono (by
    rintro e w' ⟨u, rfl, ho, hb⟩
    exact post_own himm (plain_int _) ho hb)

theorem pcRefInts (zs : List Int) (hf : Fit zs) (hl : zs.length ≤ 1000000000) : PCalls Tryd.prog 36 [pints zs] (· = pbytesO (intsB zs)) :=
  pcalls1 (by kernel_rfl) fun Φ μ w v himm hr => (refInts v zs w (ints_of_rep himm hr) hf hl).mono (by
    rintro e w' ⟨u, rfl, ho, hb⟩
    exact post_own himm (plain_int _) ho hb)

theorem pcRefStrings (zs : List ByteArray) (hf : SmallStrs zs) (hl : zs.length ≤ 1000000) : PCalls Tryd.prog 37 [pstrs zs] (· = pbytesO (strsB zs)) :=
  pcalls1 (by kernel_rfl) fun Φ μ w v himm hr => (refStrings v zs w (strs_of_rep himm hr) hf hl).mono (by
    rintro e w' ⟨u, rfl, ho, hb⟩
    exact post_own himm (plain_int _) ho hb)

theorem pcEncode (x : PEntry) (hf : FitE x) (hs : SmallE x) : PCalls Tryd.prog 9 [pentry x] (· = pbytesO (encE x)) :=
  pcalls1 (by kernel_rfl) fun Φ μ w v himm hr => (attrEncode v x w (entry_of_rep himm hr) hf hs).mono (by
    rintro e w' ⟨u, rfl, ho, hb⟩
    exact post_own himm (plain_int _) ho hb)

theorem pcCheck (s : PSchema) (hs : SmallS s) : PCalls Tryd.prog 16 [pschema s] (· = pint (checkE s)) :=
  pcalls1 (by kernel_rfl) fun Φ μ w v himm hr => (attrCheck v s w (schema_of_rep himm hr) hs).mono (by
    rintro e w' ⟨rfl, hb⟩
    exact post_flat himm (.val _ rfl) rfl rfl hb)

theorem pcRefCheck (s : PSchema) (hs : SmallS s) : PCalls Tryd.prog 17 [pschema s] (· = pint (checkE s)) :=
  pcalls1 (by kernel_rfl) fun Φ μ w v himm hr => (refCheck v s w (schema_of_rep himm hr) hs).mono (by
    rintro e w' ⟨rfl, hb⟩
    exact post_flat himm (.val _ rfl) rfl rfl hb)

theorem pcFits (s : PSchema) (l : List PAttr) (hs : SmallS s) (hl : l.length ≤ 1000000) : PCalls Tryd.prog 23 [pschema s, pattrs l] (· = pint (fitsGo s.defs ByteArray.empty false l)) :=
  pcalls2 (by kernel_rfl) fun Φ μ w v u himm hr hr2 => (attrFits v u s l w (schema_of_rep himm hr) (attrs_of_rep himm hr2) hs hl).mono (by
    rintro e w' ⟨rfl, hb⟩
    exact post_flat himm (.val _ rfl) rfl rfl hb)

theorem pcEntry (s : PSchema) (x : PEntry) (hs : SmallS s) (hl : x.vec.length ≤ 1000000) (hl2 : x.attrs.length ≤ 1000000) : PCalls Tryd.prog 25 [pschema s, pentry x] (· = pint (entryA s x)) :=
  pcalls2 (by kernel_rfl) fun Φ μ w v u himm hr hr2 => (attrEntry v u s x w (schema_of_rep himm hr) (entry_of_rep himm hr2) hs hl hl2).mono (by
    rintro e w' ⟨rfl, hb⟩
    exact post_flat himm (.val _ rfl) rfl rfl hb)

theorem pcName (s : ByteArray) (hs : s.size ≤ 1000000000) : PCalls Tryd.prog 18 [pstr s] (· = pbool (nameB s)) :=
  pcalls1 (by kernel_rfl) fun Φ μ w v himm hr => by
    obtain ⟨rfl, -⟩ := hr.val_inv
    exact (attrName s w hs).mono (by
      rintro e w' ⟨rfl, hb⟩
      exact post_flat himm (.val _ rfl) rfl rfl hb)

theorem pcRefName (s : ByteArray) (hs : s.size ≤ 1000000000) : PCalls Tryd.prog 19 [pstr s] (· = pbool (nameB s)) :=
  pcalls1 (by kernel_rfl) fun Φ μ w v himm hr => by
    obtain ⟨rfl, -⟩ := hr.val_inv
    exact (refName s w hs).mono (by
      rintro e w' ⟨rfl, hb⟩
      exact post_flat himm (.val _ rfl) rfl rfl hb)

theorem pcRefHas (l : List ByteArray) (s : ByteArray) (hl : l.length ≤ 1000000000) : PCalls Tryd.prog 50 [pstrs l, pstr s] (· = pbool (hasB l s)) :=
  pcalls2 (by kernel_rfl) fun Φ μ w v u himm hr hr2 => by
    obtain ⟨rfl, -⟩ := hr2.val_inv
    exact (refHasS v l s w (strs_of_rep himm hr) hl).mono (by
      rintro e w' ⟨rfl, hb⟩
      exact post_flat himm (.val _ rfl) rfl rfl (by first | exact hb | exact hb.below _ | (subst hb; exact Below.refl _ _)))

theorem pcGet (l : List PAttr) (nm : ByteArray) (hl : l.length ≤ 1000000) : PCalls Tryd.prog 24 [pattrs l, pstr nm] (· = .tup [.agg (pattrL (getA l nm).1), pbool (getA l nm).2]) :=
  pcalls2 (by kernel_rfl) fun Φ μ w v u himm hr hr2 => by
    obtain ⟨rfl, -⟩ := hr2.val_inv
    exact (attrGet v l nm w (attrs_of_rep himm hr) hl).mono (by
      rintro e w' ⟨rfl, hb⟩
      exact post_flat himm (RepL.cons (RepL.cons (.val _ rfl) (RepL.cons (.val _ rfl) (RepL.cons (.val _ rfl) (RepL.cons (.val _ rfl) RepL.nil)))).agg (RepL.cons (.val _ rfl) RepL.nil)).tup rfl rfl hb)

end Go.Proofs.YtnjopfjmepbpoaaDoor

/- Pure walks: Few. -/
namespace Go.Proofs.YtnjopfjmepbpoaaDoor
set_option linter.unusedSimpArgs false
set_option linter.unusedVariables false
set_option linter.unnecessarySimpa false
open Go.RowKit

def smallA (a : PAttr) : Bool := decide (a.name.size ≤ 300) && decide (a.s.size ≤ 300)
def fewB (e : PEntry) : Bool := (e.attrs.take 21).all smallA && (decide (e.vec.length ≤ 40) && decide (e.attrs.length ≤ 20))

def entCellsP (e : PEntry) : List PV := [pint e.id, pint e.ver, pint e.owner, pint e.filed, pint e.frm, pint e.to, pint e.born, pints e.vec, pattrs e.attrs]

theorem low_entCells (e : PEntry) : ∀ c ∈ entCellsP e, Low c := low_agg.1 ((low_pentry e).2 trivial)

theorem attr_cell {l : List PAttr} {k : Nat} {a : PAttr} (h : l[k]? = some a) : (l.flatMap pattrL)[k * 4 + 0]? = some (pstr a.name) ∧ (l.flatMap pattrL)[k * 4 + 1]? = some (pint a.kind) ∧ (l.flatMap pattrL)[k * 4 + 2]? = some (pint a.n) ∧ (l.flatMap pattrL)[k * 4 + 3]? = some (pstr a.s) :=
  ⟨flatMap_get (f := pattrL) (k := 4) (fun _ => rfl) h rfl, flatMap_get (f := pattrL) (k := 4) (fun _ => rfl) h rfl, flatMap_get (f := pattrL) (k := 4) (fun _ => rfl) h rfl, flatMap_get (f := pattrL) (k := 4) (fun _ => rfl) h rfl⟩

set_option maxRecDepth 10000 in
set_option maxHeartbeats 1000000 in
theorem pw_few (e : PEntry) (hl : e.attrs.length ≤ 20000000000000) (hv : e.vec.length ≤ 20000000000000) : PCalls Tryd.prog 5 [pentry e] (· = pbool (fewB e)) := by
  refine pcalls_of_pw typeTab_ok Tryd.func5 rfl (by kernel_rfl) (by exact lw) (by simp [pentry, PV.ownB]) (by rw [Tryd.ntmps5]; simp) ?_
  rw [Tryd.ntmps5, Tryd.results5]
  refine wk ?_
  refine PW.loop (fun k : Nat => (((bot.setb 0 (entCellsP e)).put 1 (.ptr 0 0)).put 2 (pbool false)).put 3 (pint k)) (fun k => k ≤ e.attrs.length ∧ k ≤ 21 ∧ (e.attrs.take k).all smallA = true) (fun k => e.attrs.length - k) 0 ⟨by omega, by omega, by simp⟩ ?_ ?_
  · exact sb
  · rintro k ⟨hk, hk2, hall⟩
    by_cases hlt : k < e.attrs.length
    · by_cases h20 : k ≤ 20
      · obtain ⟨a, ha⟩ := ints_get e.attrs k hlt
        obtain ⟨c0, c1, c2, c3⟩ := attr_cell ha
        have hbad : smallA a = false → fewB e = false := by
          intro hs
          have : (e.attrs.take 21).all smallA = false := by
            rw [List.all_eq_false]
            exact ⟨a, by rw [List.mem_take_iff_getElem]; obtain ⟨h3, h4⟩ := List.getElem?_eq_some_iff.1 ha; exact ⟨k, by omega, h4⟩, by simp [hs]⟩
          simp [fewB, this]
        by_cases h1 : 300 < a.name.size
        · refine wk ?_
          refine retP rfl (by exact lw) ?_
          rw [hbad (by simp [smallA]; omega)]; rfl
        · by_cases h2 : 300 < a.s.size
          · refine wk ?_
            refine retP rfl (by exact lw) ?_
            rw [hbad (by simp [smallA]; omega)]; rfl
          · refine wk ?_
            refine loopP (k + 1) ⟨by omega, by omega, ?_⟩ (by omega) ?_
            · rw [List.take_add_one, List.all_append, hall, ha]
              simp [smallA]; omega
            · exact sb
      · have e21 : (e.attrs.take 21).all smallA = true := by rw [show k = 21 by omega] at hall; exact hall
        have hr : fewB e = false := by simp [fewB]; omega
        by_cases hv40 : e.vec.length ≤ 40
        · have : ¬ e.attrs.length ≤ 20 := by omega
          refine wk ?_
          refine retP rfl (by exact lw) ?_
          rw [hr]; rfl
        · refine wk ?_
          refine retP rfl (by exact lw) ?_
          rw [hr]; rfl
    · have e21 : (e.attrs.take 21).all smallA = true := by
        rw [List.take_of_length_le (by omega)] at hall
        rw [List.all_eq_true] at hall ⊢
        exact fun x hx => hall x (List.mem_of_mem_take hx)
      by_cases hv40 : e.vec.length ≤ 40
      · by_cases ha20 : e.attrs.length ≤ 20
        · refine wk ?_
          refine retP rfl (by exact lw) ?_
          simp [fewB, e21, hv40, ha20, pbool]
        · refine wk ?_
          refine retP rfl (by exact lw) ?_
          simp [fewB, ha20, pbool]
      · refine wk ?_
        refine retP rfl (by exact lw) ?_
        simp [fewB, hv40, pbool]

theorem fewB_few {e : PEntry} (h : fewB e = true) : FewE e := by
  simp only [fewB, Bool.and_eq_true, decide_eq_true_eq, List.all_eq_true] at h
  obtain ⟨h1, h2, h3⟩ := h
  refine ⟨h2, h3, fun a ha => ?_⟩
  rw [List.take_of_length_le (by omega)] at h1
  have := h1 a ha
  simpa [smallA, FewA] using this
end Go.Proofs.YtnjopfjmepbpoaaDoor

/- Pure walks: Encode and Same of the specification. -/
namespace Go.Proofs.YtnjopfjmepbpoaaDoor
set_option linter.unusedSimpArgs false
set_option linter.unusedVariables false
set_option linter.unnecessarySimpa false
open Go.RowKit

set_option maxRecDepth 10000 in
set_option maxHeartbeats 1000000 in
theorem pw_refEncode (x : PEntry) (hf : FitE x) (hs : SmallE x) : PCalls Tryd.prog 10 [pentry x] (· = pbytesO (encE x)) := by
  refine pcalls_of_pw typeTab_ok Tryd.func10 rfl (by kernel_rfl) (by exact lw) (by simp [pentry, PV.ownB]) (by rw [Tryd.ntmps10]; simp) ?_
  rw [Tryd.ntmps10, Tryd.results10]
  have v1 := hs.vec
  have v2 := hs.attrs
  have F1 : ∀ k y, x.attrs[k]? = some y → attrN (x.attrs.take (k+1)) = attrN (x.attrs.take k) ++ [y.kind, y.n] := fun k y h => attrN_take x.attrs k y h
  have F2 : ∀ k y, x.attrs[k]? = some y → attrS (x.attrs.take (k+1)) = attrS (x.attrs.take k) ++ [y.name, y.s] := fun k y h => attrS_take x.attrs k y h
  refine wk ?_
  refine PW.loop (fun k : Nat => ((((bot.setb 0 (entCellsP x)).put 1 (.ptr 0 0)).put 2 .nilsl).put 3 (.sl (9 + x.vec.length + 2 * k) 1 ((headN x ++ x.vec ++ [(x.attrs.length : Int)] ++ attrN (x.attrs.take k)).map pint) (some 3))).put 4 (.sl (2 * k) 1 ((attrS (x.attrs.take k)).map pstr) (some 9)) |>.put 5 (pint k)) (fun k => k ≤ x.attrs.length) (fun k => x.attrs.length - k) 0 (by omega) ?_ ?_
  · (refine Sub.same ?_ ; (repeat (first | exact SubR.bot | ((with_reducible refine SubR.isp ?_) ; refine SubR.put ?_ (by (first | exact .inl (.ptr _ _ rfl) | exact .inl (.msl _ _ _ _ rfl) | exact .inl (.mref _ rfl) | exact .inl (.low _ (by (first | exact low_mapI | exact low_mapS | exact low_mapB | assumption | exact hlow _ | exact hlow _ _ | exact Low.agg _ (low_map (fun _ => Low.val _) _) | (simp [low_pu32, low_pu64, low_val, low_nilsl, low_sl, low_ep, low_agg, low_tup, low_fn, low_pint, low_pstr, low_pbool, low_pints, low_pstrs, low_pbyte, low_pbytes, hlow] ; done) | (simp [low_pu32, low_pu64, low_val, low_nilsl, low_sl, low_ep, low_agg, low_tup, low_fn, low_pint, low_pstr, low_pbool, low_pints, low_pstrs, low_pbyte, low_pbytes] ; done) | simp [low_pu32, low_pu64, low_val, low_nilsl, low_sl, low_ep, low_agg, low_tup, low_fn, low_pint, low_pstr, low_pbool, low_pints, low_pstrs, low_pbyte, low_pbytes, low_pattrs, low_pdefs, low_pschema, low_pentry]))) | exact .inr (.inl (.low _ (by (first | exact low_mapI | exact low_mapS | exact low_mapB | assumption | exact hlow _ | exact hlow _ _ | exact Low.agg _ (low_map (fun _ => Low.val _) _) | (simp [low_pu32, low_pu64, low_val, low_nilsl, low_sl, low_ep, low_agg, low_tup, low_fn, low_pint, low_pstr, low_pbool, low_pints, low_pstrs, low_pbyte, low_pbytes, hlow] ; done) | (simp [low_pu32, low_pu64, low_val, low_nilsl, low_sl, low_ep, low_agg, low_tup, low_fn, low_pint, low_pstr, low_pbool, low_pints, low_pstrs, low_pbyte, low_pbytes] ; done) | simp [low_pu32, low_pu64, low_val, low_nilsl, low_sl, low_ep, low_agg, low_tup, low_fn, low_pint, low_pstr, low_pbool, low_pints, low_pstrs, low_pbyte, low_pbytes, low_pattrs, low_pdefs, low_pschema, low_pentry])))) | exact .inr (.inr ⟨_, _, rfl, rfl⟩)))) | ((with_reducible refine SubR.isb ?_) ; refine SubR.setb ?_ rfl rfl (by (first | exact RenQL.low (by first | assumption | exact hlow _ | exact hlow _ _ | exact low_map (fun _ => Low.val _) _) | exact RenQL.lowE (by assumption) (low_map (fun _ => Low.val _) _) | ((repeat (refine RenQL.cons (by (first | exact .inl (.ptr _ _ rfl) | exact .inl (.msl _ _ _ _ rfl) | exact .inl (.mref _ rfl) | exact .inl (.low _ (by (first | exact low_mapI | exact low_mapS | exact low_mapB | assumption | exact hlow _ | exact hlow _ _ | exact Low.agg _ (low_map (fun _ => Low.val _) _) | (simp [low_pu32, low_pu64, low_val, low_nilsl, low_sl, low_ep, low_agg, low_tup, low_fn, low_pint, low_pstr, low_pbool, low_pints, low_pstrs, low_pbyte, low_pbytes, hlow] ; done) | (simp [low_pu32, low_pu64, low_val, low_nilsl, low_sl, low_ep, low_agg, low_tup, low_fn, low_pint, low_pstr, low_pbool, low_pints, low_pstrs, low_pbyte, low_pbytes] ; done) | simp [low_pu32, low_pu64, low_val, low_nilsl, low_sl, low_ep, low_agg, low_tup, low_fn, low_pint, low_pstr, low_pbool, low_pints, low_pstrs, low_pbyte, low_pbytes, low_pattrs, low_pdefs, low_pschema, low_pentry]))) | exact .inr (.inl (.low _ (by (first | exact low_mapI | exact low_mapS | exact low_mapB | assumption | exact hlow _ | exact hlow _ _ | exact Low.agg _ (low_map (fun _ => Low.val _) _) | (simp [low_pu32, low_pu64, low_val, low_nilsl, low_sl, low_ep, low_agg, low_tup, low_fn, low_pint, low_pstr, low_pbool, low_pints, low_pstrs, low_pbyte, low_pbytes, hlow] ; done) | (simp [low_pu32, low_pu64, low_val, low_nilsl, low_sl, low_ep, low_agg, low_tup, low_fn, low_pint, low_pstr, low_pbool, low_pints, low_pstrs, low_pbyte, low_pbytes] ; done) | simp [low_pu32, low_pu64, low_val, low_nilsl, low_sl, low_ep, low_agg, low_tup, low_fn, low_pint, low_pstr, low_pbool, low_pints, low_pstrs, low_pbyte, low_pbytes, low_pattrs, low_pdefs, low_pschema, low_pentry])))) | exact .inr (.inr ⟨_, _, rfl, rfl⟩))) ?_)) ; exact RenQL.nil)))) | ((with_reducible refine SubR.ism ?_) ; refine SubR.setm ?_ rfl rfl (by (first | exact ⟨rfl, rfl, rfl, rfl, rfl⟩ | exact RenM.low (by first | assumption | exact hlowm _ | exact hlowm _ _)))) | refine SubR.put ?_ (.inl (ren_eqlow (sl_eq ?_ ?_) (by (first | exact low_mapI | exact low_mapS | exact low_mapB | assumption | exact hlow _ | exact hlow _ _ | exact Low.agg _ (low_map (fun _ => Low.val _) _) | (simp [low_pu32, low_pu64, low_val, low_nilsl, low_sl, low_ep, low_agg, low_tup, low_fn, low_pint, low_pstr, low_pbool, low_pints, low_pstrs, low_pbyte, low_pbytes, hlow] ; done) | (simp [low_pu32, low_pu64, low_val, low_nilsl, low_sl, low_ep, low_agg, low_tup, low_fn, low_pint, low_pstr, low_pbool, low_pints, low_pstrs, low_pbyte, low_pbytes] ; done) | simp [low_pu32, low_pu64, low_val, low_nilsl, low_sl, low_ep, low_agg, low_tup, low_fn, low_pint, low_pstr, low_pbool, low_pints, low_pstrs, low_pbyte, low_pbytes, low_pattrs, low_pdefs, low_pschema, low_pentry])))))))
    · omega
    · simp [headN, attrN, pint]
  · intro k hk
    by_cases hlt : k < x.attrs.length
    · obtain ⟨y, hy⟩ := ints_get x.attrs k hlt
      obtain ⟨c0, c1, c2, c3⟩ := attr_cell hy
      refine wk ?_
      refine loopP (k + 1) (by omega) (by omega) ?_
      (refine Sub.same ?_ ; (repeat (first | exact SubR.bot | ((with_reducible refine SubR.isp ?_) ; refine SubR.put ?_ (by (first | exact .inl (.ptr _ _ rfl) | exact .inl (.msl _ _ _ _ rfl) | exact .inl (.mref _ rfl) | exact .inl (.low _ (by (first | exact low_mapI | exact low_mapS | exact low_mapB | assumption | exact hlow _ | exact hlow _ _ | exact Low.agg _ (low_map (fun _ => Low.val _) _) | (simp [low_pu32, low_pu64, low_val, low_nilsl, low_sl, low_ep, low_agg, low_tup, low_fn, low_pint, low_pstr, low_pbool, low_pints, low_pstrs, low_pbyte, low_pbytes, hlow] ; done) | (simp [low_pu32, low_pu64, low_val, low_nilsl, low_sl, low_ep, low_agg, low_tup, low_fn, low_pint, low_pstr, low_pbool, low_pints, low_pstrs, low_pbyte, low_pbytes] ; done) | simp [low_pu32, low_pu64, low_val, low_nilsl, low_sl, low_ep, low_agg, low_tup, low_fn, low_pint, low_pstr, low_pbool, low_pints, low_pstrs, low_pbyte, low_pbytes, low_pattrs, low_pdefs, low_pschema, low_pentry]))) | exact .inr (.inl (.low _ (by (first | exact low_mapI | exact low_mapS | exact low_mapB | assumption | exact hlow _ | exact hlow _ _ | exact Low.agg _ (low_map (fun _ => Low.val _) _) | (simp [low_pu32, low_pu64, low_val, low_nilsl, low_sl, low_ep, low_agg, low_tup, low_fn, low_pint, low_pstr, low_pbool, low_pints, low_pstrs, low_pbyte, low_pbytes, hlow] ; done) | (simp [low_pu32, low_pu64, low_val, low_nilsl, low_sl, low_ep, low_agg, low_tup, low_fn, low_pint, low_pstr, low_pbool, low_pints, low_pstrs, low_pbyte, low_pbytes] ; done) | simp [low_pu32, low_pu64, low_val, low_nilsl, low_sl, low_ep, low_agg, low_tup, low_fn, low_pint, low_pstr, low_pbool, low_pints, low_pstrs, low_pbyte, low_pbytes, low_pattrs, low_pdefs, low_pschema, low_pentry])))) | exact .inr (.inr ⟨_, _, rfl, rfl⟩)))) | ((with_reducible refine SubR.isb ?_) ; refine SubR.setb ?_ rfl rfl (by (first | exact RenQL.low (by first | assumption | exact hlow _ | exact hlow _ _ | exact low_map (fun _ => Low.val _) _) | exact RenQL.lowE (by assumption) (low_map (fun _ => Low.val _) _) | ((repeat (refine RenQL.cons (by (first | exact .inl (.ptr _ _ rfl) | exact .inl (.msl _ _ _ _ rfl) | exact .inl (.mref _ rfl) | exact .inl (.low _ (by (first | exact low_mapI | exact low_mapS | exact low_mapB | assumption | exact hlow _ | exact hlow _ _ | exact Low.agg _ (low_map (fun _ => Low.val _) _) | (simp [low_pu32, low_pu64, low_val, low_nilsl, low_sl, low_ep, low_agg, low_tup, low_fn, low_pint, low_pstr, low_pbool, low_pints, low_pstrs, low_pbyte, low_pbytes, hlow] ; done) | (simp [low_pu32, low_pu64, low_val, low_nilsl, low_sl, low_ep, low_agg, low_tup, low_fn, low_pint, low_pstr, low_pbool, low_pints, low_pstrs, low_pbyte, low_pbytes] ; done) | simp [low_pu32, low_pu64, low_val, low_nilsl, low_sl, low_ep, low_agg, low_tup, low_fn, low_pint, low_pstr, low_pbool, low_pints, low_pstrs, low_pbyte, low_pbytes, low_pattrs, low_pdefs, low_pschema, low_pentry]))) | exact .inr (.inl (.low _ (by (first | exact low_mapI | exact low_mapS | exact low_mapB | assumption | exact hlow _ | exact hlow _ _ | exact Low.agg _ (low_map (fun _ => Low.val _) _) | (simp [low_pu32, low_pu64, low_val, low_nilsl, low_sl, low_ep, low_agg, low_tup, low_fn, low_pint, low_pstr, low_pbool, low_pints, low_pstrs, low_pbyte, low_pbytes, hlow] ; done) | (simp [low_pu32, low_pu64, low_val, low_nilsl, low_sl, low_ep, low_agg, low_tup, low_fn, low_pint, low_pstr, low_pbool, low_pints, low_pstrs, low_pbyte, low_pbytes] ; done) | simp [low_pu32, low_pu64, low_val, low_nilsl, low_sl, low_ep, low_agg, low_tup, low_fn, low_pint, low_pstr, low_pbool, low_pints, low_pstrs, low_pbyte, low_pbytes, low_pattrs, low_pdefs, low_pschema, low_pentry])))) | exact .inr (.inr ⟨_, _, rfl, rfl⟩))) ?_)) ; exact RenQL.nil)))) | ((with_reducible refine SubR.ism ?_) ; refine SubR.setm ?_ rfl rfl (by (first | exact ⟨rfl, rfl, rfl, rfl, rfl⟩ | exact RenM.low (by first | assumption | exact hlowm _ | exact hlowm _ _)))) | refine SubR.put ?_ (.inl (ren_eqlow (sl_eq ?_ ?_) (by (first | exact low_mapI | exact low_mapS | exact low_mapB | assumption | exact hlow _ | exact hlow _ _ | exact Low.agg _ (low_map (fun _ => Low.val _) _) | (simp [low_pu32, low_pu64, low_val, low_nilsl, low_sl, low_ep, low_agg, low_tup, low_fn, low_pint, low_pstr, low_pbool, low_pints, low_pstrs, low_pbyte, low_pbytes, hlow] ; done) | (simp [low_pu32, low_pu64, low_val, low_nilsl, low_sl, low_ep, low_agg, low_tup, low_fn, low_pint, low_pstr, low_pbool, low_pints, low_pstrs, low_pbyte, low_pbytes] ; done) | simp [low_pu32, low_pu64, low_val, low_nilsl, low_sl, low_ep, low_agg, low_tup, low_fn, low_pint, low_pstr, low_pbool, low_pints, low_pstrs, low_pbyte, low_pbytes, low_pattrs, low_pdefs, low_pschema, low_pentry])))))))
      · omega
      · rw [F1 k y hy, ← List.append_assoc, List.map_append]; rfl
      · omega
      · rw [F2 k y hy, List.map_append]; rfl
    · have e : x.attrs.take k = x.attrs := List.take_of_length_le (by omega)
      have hk' : k = x.attrs.length := by omega
      have FN := encN_fit x hf hs
      have LN := encN_len x
      have FS := attrS_small x.attrs hs.strs
      have LS := attrS_len x.attrs
      have hc1 := pcRefInts (encN x) FN (by omega)
      have hc2 := pcRefStrings (attrS x.attrs) FS (by omega)
      have e1 : PV.sl (9 + x.vec.length + 2 * k) 1 ((headN x ++ x.vec ++ [(x.attrs.length : Int)] ++ attrN (x.attrs.take k)).map pint) none = pints (encN x) := sl_eq (by rw [LN]; omega) (by rw [e]; rfl)
      have e2 : PV.sl (2 * k) 1 ((attrS (x.attrs.take k)).map pstr) none = pstrs (attrS x.attrs) := sl_eq (by rw [LS]; omega) (by rw [e])
      have hl2 := intsB_len (encN x) FN
      have hl2' := intB_len (encN x).length (by omega) (by omega)
      have hl3 := strsB_len (attrS x.attrs) FS (by omega)
      refine wk ?_
      refine PWops.call rfl rfl rfl (by first | (rw [e1]; exact hc1) | exact hc1) ?_
      refine wk ?_
      refine PWops.call rfl rfl rfl (by first | (rw [e2]; exact hc2) | exact hc2) ?_
      refine wk ?_
      refine retP rfl (.sl _ _ _ _ (fun c hc => by simp at hc; rcases hc with ⟨z, -, rfl⟩ | ⟨z, -, rfl⟩ <;> exact .val _)) ?_
      exact sl_eq (by simp [encE]) (by simp [encE])

set_option maxRecDepth 10000 in
set_option maxHeartbeats 1000000 in
theorem pw_refSame (x y : PEntry) (hf : FitE x) (hs : SmallE x) (hf2 : FitE y) (hs2 : SmallE y) : PCalls Tryd.prog 11 [pentry x, pentry y] (· = pbool ((strI (encE x)).toList == (strI (encE y)).toList)) := by
  refine pcalls_of_pw typeTab_ok Tryd.func11 rfl (by kernel_rfl) (by exact lw) (by simp [pentry, PV.ownB]) (by rw [Tryd.ntmps11]; simp) ?_
  rw [Tryd.ntmps11, Tryd.results11]
  have hc1 := pw_refEncode x hf hs
  have hc2 := pw_refEncode y hf2 hs2
  refine wk ?_
  refine PWops.val rfl rfl rfl rfl ?_
  refine wk ?_
  refine retP rfl (by exact lw) rfl
end Go.Proofs.YtnjopfjmepbpoaaDoor

/- Pure walks: Decode of attr. -/
namespace Go.Proofs.YtnjopfjmepbpoaaDoor
set_option linter.unusedSimpArgs false
set_option linter.unusedVariables false
set_option linter.unnecessarySimpa false
open Go.RowKit

theorem getInts_pos (bs ds : List Int) (u : Int) (hby : ∀ c ∈ bs, 0 ≤ c ∧ c < 256) (h : getInts bs = (ds, u, 0)) : 1 ≤ u := by
  obtain ⟨h1, h2, h3⟩ := getInts_take bs ds u hby h
  have h4 := congrArg List.length h1
  rw [intsB, List.length_append, List.length_take] at h4
  have h5 : 1 ≤ (intB ds.length).length := leb_pos _
  omega

theorem entOf_eight (n : List Int) (h : 8 ≤ n.length) : ∃ i v o f a t b c r, n = i :: v :: o :: f :: a :: t :: b :: c :: r := by
  match n, h with
  | i :: v :: o :: f :: a :: t :: b :: c :: r, _ => exact ⟨i, v, o, f, a, t, b, c, r, rfl⟩
theorem entOf_short (n : List Int) (s : List ByteArray) (h : n.length < 9) : entOf n s = none := by
  unfold entOf
  split
  · rename_i i v o f a t b c r
    simp only [List.length_cons] at h
    have : r.length = 0 := by omega
    rw [if_pos (by omega)]
  · rfl

def nilE : PV := .agg [pint 0, pint 0, pint 0, pint 0, pint 0, pint 0, pint 0, .nilsl, .nilsl]
theorem weak_nilE (c : Int) : Weak (.tup [nilE, pint c]) (.tup [pentry zeroE, pint c]) :=
  .tup (.cons (.agg (.cons (.refl _) (.cons (.refl _) (.cons (.refl _) (.cons (.refl _) (.cons (.refl _) (.cons (.refl _) (.cons (.refl _) (.cons (.nil 1) (.cons (.nil 4) .nil)))))))))) (.cons (.refl _) .nil))
theorem low_nilE (c : Int) : Low (.tup [nilE, pint c]) := by simp [nilE, low_tup, low_agg, low_pint, low_nilsl]

def zeroEC : List PV := [pint 0, pint 0, pint 0, pint 0, pint 0, pint 0, pint 0, .nilsl, .nilsl]
theorem low_zeroEC : ∀ c ∈ zeroEC, Low c := by simp [zeroEC, low_pint, low_nilsl]

def fldA (L : List PAttr) : Nat → PV
  | 0 => .nilsl
  | k + 1 => .sl (k + 1) 4 ((L.take (k + 1)).flatMap pattrL) (some 50)
def entC (i v o f a t b : Int) (vec : List Int) (p : PV) : List PV := [pint i, pint v, pint o, pint f, pint a, pint t, pint b, pints vec, p]
theorem fldA_succ {L : List PAttr} {k : Nat} {x : PAttr} (h : L[k]? = some x) : fldA L (k + 1) = .sl (k + 1) 4 ((L.take k).flatMap pattrL ++ pattrL x) (some 50) := by
  rw [fldA, List.take_add_one, h]
  simp [List.flatMap_append]
theorem fldA_low (L : List PAttr) (k : Nat) : Low (.sl k 4 ((L.take k).flatMap pattrL) none) := .sl _ _ _ _ fun c hc => by
  obtain ⟨x, -, hx⟩ := List.mem_flatMap.1 hc
  exact low_pattrL x c hx
theorem low_entC {i v o f a t b : Int} {vec : List Int} {L : List PAttr} (k : Nat) : ∀ c ∈ entC i v o f a t b vec (fldA L k), Low c := by
  have : Low (fldA L k) := by
    cases k with
    | zero => exact .nilsl
    | succ k =>
      refine .sl _ _ _ _ fun c hc => ?_
      obtain ⟨x, -, hx⟩ := List.mem_flatMap.1 hc
      exact low_pattrL x c hx
  simp [entC, low_pint, low_pints, this]

set_option maxRecDepth 10000 in
set_option maxHeartbeats 2000000 in
theorem pw_decode (bs : List Int) (hby : Byte bs) (hl : bs.length ≤ 1000000000) : PCalls Tryd.prog 7 [pbytes bs] (· = .tup [pentry (decE bs).1, pint (decE bs).2]) := by
  refine PCalls.weak ?_
  refine pcalls_of_pw typeTab_ok Tryd.func7 rfl (by kernel_rfl) (by exact lw) (by simp [pbytes, PV.ownB]) (by rw [Tryd.ntmps7]; simp) ?_
  rw [Tryd.ntmps7, Tryd.results7]
  have cg := pcGetInts bs hby (by omega)
  obtain ⟨n, u, er, h1⟩ : ∃ n u er, getInts bs = (n, u, er) := ⟨_, _, _, rfl⟩
  rw [h1] at cg
  simp only at cg
  refine wk ?_
  by_cases g1 : er = 0
  case neg =>
    refine wk ?_
    refine retP (r := .tup [nilE, pint er]) rfl (low_nilE _) ?_
    have hD : decE bs = (zeroE, er) := by rw [decE, h1, if_pos g1]
    rw [hD]; exact weak_nilE _
  subst g1
  obtain ⟨t1, t2, t3⟩ := getInts_take bs n u hby.all h1
  have t4 := getInts_pos bs n u hby.all h1
  obtain ⟨U, rfl⟩ : ∃ N : Nat, u = N := ⟨u.toNat, by omega⟩
  obtain ⟨s, u2, er2, h2⟩ : ∃ s u2 er2, getStrs (bs.drop U) = (s, u2, er2) := ⟨_, _, _, rfl⟩
  have cs := pcGetStrs (bs.drop U) (hby.drop U) (by rw [List.length_drop]; omega)
  rw [h2] at cs
  simp only at cs
  have hD : decE bs = if er2 ≠ 0 then (zeroE, er2) else if (U : Int) + u2 ≠ bs.length then (zeroE, 11) else match entOf n s with | some e => (e, 0) | none => (zeroE, 11) := by
    rw [decE, h1]; simp only [ne_eq, not_true_eq_false, if_false, Int.toNat_natCast]; first | (rw [h2]; done) | (rw [h2]; rfl)
  refine wk ?_
  by_cases g2 : er2 = 0
  case neg =>
    refine wk ?_
    refine retP (r := .tup [nilE, pint er2]) rfl (low_nilE _) ?_
    rw [hD, if_pos g2]; exact weak_nilE _
  subst g2
  obtain ⟨t5, t6, t7⟩ := getStrs_take (bs.drop U) s u2 (hby.drop U).all h2
  have t8 := getInts_short bs n U hby.all h1
  have t9 := (getStrs_len (bs.drop U) s u2 (hby.drop U).all h2).1
  rw [List.length_drop] at t7 t9
  refine wk ?_
  by_cases g3 : (U : Int) + u2 = bs.length
  case neg =>
    refine wk ?_
    refine retP (r := .tup [nilE, pint 11]) rfl (low_nilE _) ?_
    rw [hD, if_neg (by simp), if_pos g3]; exact weak_nilE _
  have hD2 : decE bs = match entOf n s with | some e => (e, 0) | none => (zeroE, 11) := by rw [hD, if_neg (by simp), if_neg (by simp [g3])]
  refine wk ?_
  by_cases g4 : n.length < 9
  · have hN : entOf n s = none := entOf_short n s g4
    refine wk ?_
    refine retP (r := .tup [nilE, pint 11]) rfl (low_nilE _) ?_
    rw [hD2, hN]; exact weak_nilE _
  obtain ⟨i, v, o, f, a, t, b, c, r, rfl⟩ := entOf_eight n (by omega)
  have hlr : (i :: v :: o :: f :: a :: t :: b :: c :: r).length = r.length + 8 := rfl
  clear hD h1 t1
  refine wk ?_
  by_cases g5 : c < 0
  · have hN : entOf (i :: v :: o :: f :: a :: t :: b :: c :: r) s = none := by rw [entOf, if_pos (.inl g5)]
    refine wk ?_
    refine retP (r := .tup [nilE, pint 11]) rfl (low_nilE _) ?_
    rw [hD2, hN]; exact weak_nilE _
  obtain ⟨C, rfl⟩ : ∃ N : Nat, c = N := ⟨c.toNat, by omega⟩
  refine wk ?_
  by_cases g6 : (r.length : Int) - 1 < C
  · have hN : entOf (i :: v :: o :: f :: a :: t :: b :: (C : Int) :: r) s = none := by rw [entOf, if_pos (.inr g6)]
    refine wk ?_
    refine retP (r := .tup [nilE, pint 11]) rfl (low_nilE _) ?_
    rw [hD2, hN]; exact weak_nilE _
  obtain ⟨m, q, hmq⟩ : ∃ m q, r.drop C = m :: q := by
    cases hh : r.drop C with
    | nil => have := congrArg List.length hh; rw [List.length_drop, List.length_nil] at this; omega
    | cons m q => exact ⟨m, q, rfl⟩
  have hlq : r.length = C + 1 + q.length := by have := congrArg List.length hmq; rw [List.length_drop, List.length_cons] at this; omega
  have e1 : ((i :: v :: o :: f :: a :: t :: b :: (C : Int) :: r).drop (8 : Int).toNat).take ((8 + (C : Int)).toNat - (8 : Int).toNat) = r.take C := by
    rw [show (8 + (C : Int)).toNat - (8 : Int).toNat = C by omega]; rfl
  have e2 : (i :: v :: o :: f :: a :: t :: b :: (C : Int) :: r).drop (8 + (C : Int)).toNat = m :: q := by
    rw [← hmq, show (8 + (C : Int)).toNat = C + 8 by omega]; rfl
  have hz := low_zeroEC
  have cc := pcClone (r.take C) (by rw [List.length_take]; omega)
  refine wg ?_
  refine PW.sub (σ' := (((((bot.setb 0 zeroEC).put 2 (.ptr 0 0)).put 3 (pint 0)).put 4 (pints (i :: v :: o :: f :: a :: t :: b :: (C : Int) :: r))).put 7 (pstrs s))) ?_ (by exact sb)
  refine wk ?_
  rw [e1]
  refine wk ?_
  rw [e2]
  refine wk ?_
  have hE0 : entOf (i :: v :: o :: f :: a :: t :: b :: (C : Int) :: r) s = if s.length % 2 ≠ 0 ∨ m ≠ (s.length : Int) / 2 ∨ q.length ≠ s.length then none else some ⟨i, v, o, f, a, t, b, r.take C, attrsOf q s⟩ := by
    rw [entOf, if_neg (by omega)]
    simp only [Int.toNat_natCast, hmq]
  have hbad : (s.length % 2 ≠ 0 ∨ m ≠ (s.length : Int) / 2 ∨ q.length ≠ s.length) → Weak (.tup [nilE, pint 11]) (.tup [pentry (decE bs).1, pint (decE bs).2]) := by
    intro h; rw [hD2, hE0, if_pos h]; exact weak_nilE _
  have hmq2 : (m :: q).length = q.length + 1 := rfl
  by_cases g7 : (s.length : Int) % 2 = 0
  case neg =>
    refine wk ?_
    exact retP (r := .tup [nilE, pint 11]) rfl (low_nilE _) (hbad (by omega))
  refine wk ?_
  by_cases g8 : m = (s.length : Int) / 2
  case neg =>
    refine wk ?_
    exact retP (r := .tup [nilE, pint 11]) rfl (low_nilE _) (hbad (by omega))
  refine wk ?_
  by_cases g9 : q.length = s.length
  case neg =>
    refine wk ?_
    exact retP (r := .tup [nilE, pint 11]) rfl (low_nilE _) (hbad (by omega))
  refine wk ?_
  obtain ⟨L, hL⟩ : ∃ L, attrsOf q s = L := ⟨_, rfl⟩
  obtain ⟨b1, b2, b3⟩ := attrsOf_back (s.length / 2) q s (by omega) (by omega)
  rw [hL] at b1 b2 b3
  have hfin : decE bs = (⟨i, v, o, f, a, t, b, r.take C, L⟩, 0) := by
    rw [hD2, hE0, if_neg (by omega), hL]
  have hget : ∀ k, k < s.length / 2 → L[k]? = some ⟨s.getD (2 * (k : Int)).toNat default, (m :: q).getD (1 + 2 * (k : Int)).toNat default, (m :: q).getD (2 + 2 * (k : Int)).toNat default, s.getD (2 * (k : Int) + 1).toNat default⟩ := by
    intro k hk
    rw [← hL]
    refine attrsOf_get k q s _ _ _ _ ?_ ?_ ?_ ?_
    · rw [show (1 + 2 * (k : Int)).toNat = 2 * k + 1 by omega, List.getD_cons_succ]; exact getD_get _ (by omega)
    · rw [show (2 + 2 * (k : Int)).toNat = (2 * k + 1) + 1 by omega, List.getD_cons_succ]; exact getD_get _ (by omega)
    · rw [show (2 * (k : Int)).toNat = 2 * k by omega]; exact getD_get _ (by omega)
    · rw [show (2 * (k : Int) + 1).toNat = 2 * k + 1 by omega]; exact getD_get _ (by omega)
  have hlow : ∀ k, ∀ c ∈ entC i v o f a t b (r.take C) (fldA L k), Low c := fun k => low_entC k
  clear hbad hD2 hE0 cg cs cc e1 e2
  refine PW.loop (fun k : Nat => ((((((((bot.setb 0 zeroEC).setb 9029 (entC i v o f a t b (r.take C) (fldA L k))).put 2 (.ptr 0 0)).put 3 (pint 0)).put 7 (pstrs s)).put 9 (.ptr 9029 0)).put 10 (pints (m :: q))).put 120 (pint m)).put 121 (pint k)) (fun k => k ≤ s.length / 2) (fun k => s.length / 2 - k) 0 (by omega) ?_ ?_
  · exact sb
  · intro k hk
    by_cases hlt : k < s.length / 2
    · have hx := hget k hlt
      cases k with
      | zero =>
        refine wk ?_
        refine loopP 1 (by omega) (by omega) ?_
        show Sub _ _ (((((((((bot.setb 0 zeroEC).setb 9029 (entC i v o f a t b (r.take C) (fldA L 1))).put 2 (.ptr 0 0)).put 3 (pint 0)).put 7 (pstrs s)).put 9 (.ptr 9029 0)).put 10 (pints (m :: q))).put 120 (pint m)).put 121 (pint ((1 : Nat) : Int)))
        have hl2 := hlow 1
        rw [fldA_succ hx] at hl2 ⊢
        exact sb
      | succ k =>
        refine wk ?_
        refine loopP (k + 1 + 1) (by omega) (by omega) ?_
        have hl2 := hlow (k + 1 + 1)
        simp only [fldA_succ hx] at hl2 ⊢
        exact sb
    · have e : L.take k = L := List.take_of_length_le (by omega)
      cases k with
      | zero =>
        refine wk ?_
        refine retP (r := .tup [.agg [pint i, pint v, pint o, pint f, pint a, pint t, pint b, pints (r.take C), .nilsl], pint 0]) rfl (by simp [low_tup, low_agg, low_pint, low_pints, low_nilsl]) ?_
        have : L = [] := List.eq_nil_of_length_eq_zero (by omega)
        rw [hfin, this]
        exact .tup (.cons (.agg (.cons (.refl _) (.cons (.refl _) (.cons (.refl _) (.cons (.refl _) (.cons (.refl _) (.cons (.refl _) (.cons (.refl _) (.cons (.refl _) (.cons (.nil 4) .nil)))))))))) (.cons (.refl _) .nil))
      | succ k =>
        refine wk ?_
        refine retP (r := .tup [.agg [pint i, pint v, pint o, pint f, pint a, pint t, pint b, pints (r.take C), .sl (k + 1) 4 ((L.take (k + 1)).flatMap pattrL) none], pint 0]) rfl (by simp [low_tup, low_agg, low_pint, low_pints]; exact (fldA_low L (k + 1))) ?_
        have : k + 1 = L.length := by omega
        rw [hfin, e, this]
        exact .refl _
end Go.Proofs.YtnjopfjmepbpoaaDoor

/- Pure walks: FewDefs. -/
namespace Go.Proofs.YtnjopfjmepbpoaaDoor
set_option linter.unusedSimpArgs false
set_option linter.unusedVariables false
set_option linter.unnecessarySimpa false
open Go.RowKit
def smallDefB (d : PDef) : Bool := decide (d.words.length ≤ 60) && (decide (d.name.size ≤ 100) && d.words.all (fun s => decide (s.size ≤ 100)))
def fewDefsB (s : PSchema) : Bool := (s.defs.take 21).all smallDefB && decide (s.defs.length ≤ 20)
def schCellsP (s : PSchema) : List PV := [pint s.dims, pint s.metric, pdefs s.defs]
theorem low_schCells (s : PSchema) : ∀ c ∈ schCellsP s, Low c := low_agg.1 ((low_pschema s).2 trivial)

set_option maxRecDepth 10000 in
set_option maxHeartbeats 1000000 in
theorem pw_fewDefs (s : PSchema) (hl : s.defs.length ≤ 20000000000000) (hw : ∀ d ∈ s.defs, d.words.length ≤ 20000000000000) : PCalls Tryd.prog 15 [pschema s, pint 20] (· = pbool (fewDefsB s)) := by
  refine pcalls_of_pw typeTab_ok Tryd.func15 rfl (by kernel_rfl) (by exact lw) (by simp [pschema, pint, PV.ownB]) (by rw [Tryd.ntmps15]; simp) ?_
  rw [Tryd.ntmps15, Tryd.results15]
  refine wk ?_
  refine PW.loop (fun k : Nat => ((((bot.setb 0 (schCellsP s)).put 1 (pint 20)).put 2 (.ptr 0 0)).put 4 (pbool false)).put 5 (pint k)) (fun k => k ≤ s.defs.length ∧ k ≤ 21 ∧ (s.defs.take k).all smallDefB = true) (fun k => s.defs.length - k) 0 ⟨by omega, by omega, by simp⟩ ?_ ?_
  · exact sb
  · rintro k ⟨hk, hk2, hall⟩
    by_cases hlt : k < s.defs.length
    · by_cases h20 : k ≤ 20
      · obtain ⟨d, hd⟩ := ints_get s.defs k hlt
        have hrow := flatMap_row (f := pdefL) (k := 5) (fun _ => rfl) hd
        have hlen := flatMap_len (f := pdefL) (k := 5) (fun _ => rfl) s.defs
        have hbad : smallDefB d = false → fewDefsB s = false := by
          intro hs
          have : (s.defs.take 21).all smallDefB = false := by
            rw [List.all_eq_false]
            exact ⟨d, by rw [List.mem_take_iff_getElem]; obtain ⟨h3, h4⟩ := List.getElem?_eq_some_iff.1 hd; exact ⟨k, by omega, h4⟩, by simp [hs]⟩
          simp [fewDefsB, this]
        have hwl := hw d (mem_of_get hd)
        have hrow' : (((s.defs.flatMap pdefL).drop (k * 5)).take 5).map PV.bare = pdefL d := by rw [hrow]; rfl
        by_cases h60 : 60 < d.words.length
        · refine wk ?_
          refine retP rfl (by exact lw) ?_
          rw [hbad (by simp [smallDefB]; omega)]; rfl
        · by_cases h100 : 100 < d.name.size
          · refine wk ?_
            refine retP rfl (by exact lw) ?_
            rw [hbad (by simp [smallDefB]; omega)]; rfl
          · refine wk ?_
            refine PW.loop (fun j : Nat => ((((((bot.setb 0 (schCellsP s)).setb 4005 (pdefL d)).put 1 (pint 20)).put 2 (.ptr 0 0)).put 4 (pbool false)).put 5 (pint k)).put 6 (.ptr 4005 0) |>.put 7 (pint j)) (fun j => j ≤ d.words.length ∧ (d.words.take j).all (fun s => decide (s.size ≤ 100)) = true) (fun j => d.words.length - j) 0 ⟨by omega, by simp⟩ ?_ ?_
            · exact sb
            · rintro j ⟨hj, hja⟩
              by_cases hjl : j < d.words.length
              · obtain ⟨x, hx⟩ := ints_get d.words j hjl
                have hx' := map_get (f := pstr) hx
                by_cases hx100 : 100 < x.size
                · refine wk ?_
                  refine retP rfl (by exact lw) ?_
                  rw [hbad ?_]
                  · rfl
                  · have : d.words.all (fun s => decide (s.size ≤ 100)) = false := by
                      rw [List.all_eq_false]; exact ⟨x, mem_of_get hx, by simp; omega⟩
                    simp [smallDefB, this]
                · refine wk ?_
                  refine loopP (j + 1) ⟨by omega, ?_⟩ (by omega) ?_
                  · rw [List.take_add_one, List.all_append, hja, hx]
                    simp; omega
                  · exact sb
              · have hwa : d.words.all (fun s => decide (s.size ≤ 100)) = true := by rw [List.take_of_length_le (by omega)] at hja; exact hja
                refine wk ?_
                refine loopP (k + 1) ⟨by omega, by omega, ?_⟩ (by omega) ?_
                · rw [List.take_add_one, List.all_append, hall, hd]
                  simp only [Option.toList_some, List.all_cons, List.all_nil, Bool.and_true, Bool.true_and]
                  simp only [smallDefB, hwa, Bool.and_true, Bool.and_eq_true, decide_eq_true_eq]; omega
                · exact sb
      · have hr : fewDefsB s = false := by simp [fewDefsB]; omega
        have h20' : ¬ s.defs.length ≤ 20 := by omega
        refine wk ?_
        refine retP rfl (by exact lw) ?_
        rw [hr]; rfl
    · have e21 : (s.defs.take 21).all smallDefB = true := by
        rw [List.take_of_length_le (by omega)] at hall
        rw [List.all_eq_true] at hall ⊢
        exact fun x hx => hall x (List.mem_of_mem_take hx)
      by_cases h20 : s.defs.length ≤ 20
      · refine wk ?_
        refine retP rfl (by exact lw) ?_
        simp [fewDefsB, e21, h20, pbool]
      · refine wk ?_
        refine retP rfl (by exact lw) ?_
        simp [fewDefsB, h20, pbool]

theorem fewDefsB_few {s : PSchema} (h : fewDefsB s = true) : FewS s := by
  simp only [fewDefsB, Bool.and_eq_true, decide_eq_true_eq, List.all_eq_true] at h
  obtain ⟨h1, h2⟩ := h
  refine ⟨h2, fun d hd => ?_⟩
  rw [List.take_of_length_le (by omega)] at h1
  have := h1 d hd
  simpa [smallDefB, FewD] using this
end Go.Proofs.YtnjopfjmepbpoaaDoor

/- Pure walks: Compare and Same of vectors, equal of entries. -/
namespace Go.Proofs.YtnjopfjmepbpoaaDoor
set_option linter.unusedSimpArgs false
set_option linter.unusedVariables false
set_option linter.unnecessarySimpa false
open Go.RowKit

def cmpGo : List Int → List Int → Int
  | x :: xs, y :: ys => if x < y then -1 else if y < x then 1 else cmpGo xs ys
  | _, _ => 0
def cmpI (l r : List Int) : Int := if l.length < r.length then -1 else if r.length < l.length then 1 else cmpGo l r
theorem cmpGo_eq : ∀ (l r : List Int), l.length = r.length → (cmpGo l r = 0 ↔ l = r)
  | [], [], _ => by simp [cmpGo]
  | [], _ :: _, h => by simp at h
  | _ :: _, [], h => by simp at h
  | x :: l, y :: r, h => by
    simp only [cmpGo]
    by_cases h1 : x < y
    · simp [h1]; intro e; omega
    · by_cases h2 : y < x
      · simp [h1, h2]; intro e; omega
      · have : x = y := by omega
        subst this
        simp [cmpGo_eq l r (by simpa using h)]
theorem cmpI_eq (l r : List Int) : cmpI l r = 0 ↔ l = r := by
  unfold cmpI
  by_cases h1 : l.length < r.length
  · simp [h1]; rintro rfl; omega
  · by_cases h2 : r.length < l.length
    · simp [h1, h2]; rintro rfl; omega
    · simp only [h1, h2, if_false]; exact cmpGo_eq l r (by omega)
theorem cmpGo_step {l r : List Int} {k : Nat} {x y : Int} (hx : l[k]? = some x) (hy : r[k]? = some y) : cmpGo (l.drop k) (r.drop k) = if x < y then -1 else if y < x then 1 else cmpGo (l.drop (k+1)) (r.drop (k+1)) := by
  obtain ⟨h1, h2⟩ := List.getElem?_eq_some_iff.1 hx
  obtain ⟨h3, h4⟩ := List.getElem?_eq_some_iff.1 hy
  rw [List.drop_eq_getElem_cons h1, List.drop_eq_getElem_cons h3, cmpGo, h2, h4]

theorem ba_beq (a b : ByteArray) : (a == b) = true ↔ a = b := by
  obtain ⟨a⟩ := a
  obtain ⟨b⟩ := b
  have : ((⟨a⟩ : ByteArray) == ⟨b⟩) = (a == b) := rfl
  rw [this, ByteArray.mk.injEq, beq_iff_eq]

/-- Attributes are compared by their fields. -/
theorem eqs_attr (a b : PAttr) : peqs [.str, .int, .int, .str] (pattrL a) (pattrL b) = some (a.name == b.name && (a.kind == b.kind && (a.n == b.n && (a.s == b.s && true)))) := rfl
def eqAttrB (a b : PAttr) : Bool := a.name == b.name && (a.kind == b.kind && (a.n == b.n && (a.s == b.s && true)))
theorem eqAttrB_iff (a b : PAttr) : eqAttrB a b = true ↔ a = b := by
  obtain ⟨n1, k1, x1, s1⟩ := a
  obtain ⟨n2, k2, x2, s2⟩ := b
  simp [eqAttrB, ba_beq]
instance : DecidableEq PAttr := fun a b => decidable_of_iff _ (eqAttrB_iff a b)
theorem bare_attrL (a : PAttr) : (pattrL a).map PV.bare = pattrL a := rfl
end Go.Proofs.YtnjopfjmepbpoaaDoor
