/- Merged: AttrH, AttrI, PlainV, Pa, PwU, PwV, PwW, Pb, Pd, Pe, Pf. -/
import Derived.Test.YtnjopfjmepbpoaaC3
/- Walks: def, Check of antiquaryref13. -/
namespace Go.Proofs.Ytnjopfjmepbpoaa
set_option linter.unusedSimpArgs false
set_option linter.unusedVariables false
set_option linter.unnecessarySimpa false
open Go.RowKit

theorem defE_r1 (d : PDef) (bf : ByteArray) (h : nameB d.name = false) : defE d bf = 5 := by simp [defE, h]
theorem defE_r2 (d : PDef) (bf : ByteArray) (h : nameB d.name = true) (h2 : leqB d.name bf = true) : defE d bf = 6 := by simp [defE, h, h2]
theorem defE_r3 (d : PDef) (bf : ByteArray) (h : nameB d.name = true) (h2 : leqB d.name bf = false) (h3 : d.kind = 1) : defE d bf = if rangeBad d then 131 else if 0 < d.words.length then 3 else 0 := by
  simp [defE, h, h2, h3, rangeBad]
theorem defE_r4 (d : PDef) (bf : ByteArray) (h : nameB d.name = true) (h2 : leqB d.name bf = false) (h3 : d.kind = 2) : defE d bf = if formBad d then 3 else wordsE d.words := by
  simp [defE, h, h2, h3, formBad]
theorem defE_r5 (d : PDef) (bf : ByteArray) (h : nameB d.name = true) (h2 : leqB d.name bf = false) (h3 : d.kind ≠ 1) (h4 : d.kind ≠ 2) : defE d bf = 130 := by
  simp [defE, h, h2, h3, h4]

set_option maxRecDepth 100000 in
set_option maxHeartbeats 2000000 in
theorem refDef (d : PDef) (wv : Value) (bf : ByteArray) (w : World) (hs : Strs w wv d.words) (hsm : SmallD d) :
    Calls Try.prog 23 #[defV d wv, .string bf] w (RetI w (defE d bf)) := by
  have HB := Lib.hid (DefAt.box w d wv 53)
  have HS := Lib.hid (hs.below (below_alloc w (.cells #[.string d.name, .int .i64 d.kind, .int .i64 d.lo, .int .i64 d.hi, wv] 53)))
  have hw0 : Below w.heap.size w (w.alloc (.cells #[.string d.name, .int .i64 d.kind, .int .i64 d.lo, .int .i64 d.hi, wv] 53)) := below_alloc _ _
  obtain ⟨s1, s2, s3⟩ := hsm
  have S3 : Hid (∀ s ∈ d.words, s.size ≤ 1000) := s3
  obtain ⟨a, cap, b, off, rfl, -⟩ := hs.open
  clear s3 hs
  unfold defV
  cases e1 : nameB d.name
  · have F := Lib.hid (defE_r1 d bf e1)
    have E1 := Lib.hid e1
    clear e1
    go_enter Try.func23, Try.ntmps23
    go_wp2_with fail
    refine (refName d.name _ (by omega)).mono ?_
    rintro e w2 ⟨rfl, hb2⟩
    rw [E1.out]
    go_wp2
    go_ret
    exact RetI.mk F.out.symm (blift hw0 hb2)
  · cases e2 : leqB d.name bf
    · have e2' : (Op.bytesLess d.name.toList bf.toList || d.name.toList == bf.toList) = false := e2
      by_cases e3 : d.kind = 1
      · have F := Lib.hid (defE_r3 d bf e1 e2 e3)
        have E1 := Lib.hid e1
        have e3' : (d.kind == 1) = true := by simpa using e3
        clear e1 e2 e3
        cases r1 : decide (d.lo < -1099511627776) <;> cases r2 : decide (1099511627776 < d.hi) <;> cases r3 : decide (d.hi < d.lo) <;> cases r4 : decide (0 < d.words.length)
        all_goals
          have F2 := F.out
          simp only [rangeBad, r1, r2, r3] at F2
          have F3 := Lib.hid F2
          have r4' : decide ((0 : Int) < (d.words.length : Int)) = decide (0 < d.words.length) := by rw [Bool.eq_iff_iff]; simp only [decide_eq_true_eq]; omega
          rw [r4] at r4'
          have R4 := Lib.hid r4
          clear F F2
          go_enter Try.func23, Try.ntmps23
          go_wp2_with fail
          refine (refName d.name _ (by omega)).mono ?_
          rintro e w2 ⟨rfl, hb2⟩
          obtain ⟨c0, c1, c2, c3, c4⟩ := HB.out.below hb2
          simp only [Nat.zero_add] at c1 c2 c3 c4
          rw [E1.out]
          go_wp2
          go_ret
          refine RetI.mk ?_ (blift hw0 hb2)
          rw [F3.out]
          have r5 := R4.out
          simp_all
      · have e3' : (d.kind == 1) = false := by simpa using e3
        by_cases e4 : d.kind = 2
        · have F := Lib.hid (defE_r4 d bf e1 e2 e4)
          have E1 := Lib.hid e1
          have e4' : (d.kind == 2) = true := by simpa using e4
          clear e1 e2 e3 e4
          cases r1 : d.lo != 0 <;> cases r2 : d.hi != 0
          · have F2 := F.out
            simp only [formBad, r1, r2] at F2
            have F3 := Lib.hid F2
            clear F F2
            go_enter Try.func23, Try.ntmps23
            go_wp2_with fail
            refine (refName d.name _ (by omega)).mono ?_
            rintro e w2 ⟨rfl, hb2⟩
            obtain ⟨c0, c1, c2, c3, c4⟩ := HB.out.below hb2
            simp only [Nat.zero_add] at c1 c2 c3 c4
            rw [E1.out]
            go_wp2_with fail
            refine (refWords _ d.words _ (HS.out.below hb2) (by omega) S3).mono ?_
            rintro e w3 ⟨rfl, hb3⟩
            go_wp2
            go_ret
            refine RetI.mk ?_ (blift (blift hw0 hb2) hb3)
            rw [F3.out]; rfl
          all_goals
            have F2 := F.out
            simp only [formBad, r1, r2] at F2
            have F3 := Lib.hid F2
            clear F F2
            go_enter Try.func23, Try.ntmps23
            go_wp2_with fail
            refine (refName d.name _ (by omega)).mono ?_
            rintro e w2 ⟨rfl, hb2⟩
            obtain ⟨c0, c1, c2, c3, c4⟩ := HB.out.below hb2
            simp only [Nat.zero_add] at c1 c2 c3 c4
            rw [E1.out]
            go_wp2
            go_ret
            refine RetI.mk ?_ (blift hw0 hb2)
            rw [F3.out]; rfl
        · have F := Lib.hid (defE_r5 d bf e1 e2 e3 e4)
          have E1 := Lib.hid e1
          have e4' : (d.kind == 2) = false := by simpa using e4
          clear e1 e2 e3 e4
          go_enter Try.func23, Try.ntmps23
          go_wp2_with fail
          refine (refName d.name _ (by omega)).mono ?_
          rintro e w2 ⟨rfl, hb2⟩
          obtain ⟨c0, c1, c2, c3, c4⟩ := HB.out.below hb2
          simp only [Nat.zero_add] at c1 c2 c3 c4
          rw [E1.out]
          go_wp2
          go_ret
          exact RetI.mk F.out.symm (blift hw0 hb2)
    · have e2' : (Op.bytesLess d.name.toList bf.toList || d.name.toList == bf.toList) = true := e2
      have F := Lib.hid (defE_r2 d bf e1 e2)
      have E1 := Lib.hid e1
      clear e1 e2
      go_enter Try.func23, Try.ntmps23
      go_wp2_with fail
      refine (refName d.name _ (by omega)).mono ?_
      rintro e w2 ⟨rfl, hb2⟩
      obtain ⟨c0, c1, c2, c3, c4⟩ := HB.out.below hb2
      rw [E1.out]
      go_wp2
      go_ret
      exact RetI.mk F.out.symm (blift hw0 hb2)

end Go.Proofs.Ytnjopfjmepbpoaa

/- Walks: Check, FewDefs, Few, Find of antiquaryref13. -/
namespace Go.Proofs.Ytnjopfjmepbpoaa
set_option linter.unusedSimpArgs false
set_option linter.unusedVariables false
set_option linter.unnecessarySimpa false
open Go.RowKit

theorem defsE_drop (l : List PDef) (k : Nat) (b : ByteArray) (d : PDef) (h : l[k]? = some d) : defsE b (l.drop k) = if defE d b ≠ 0 then defE d b else defsE d.name (l.drop (k+1)) := by
  obtain ⟨hk, rfl⟩ := List.getElem?_eq_some_iff.1 h
  rw [List.drop_eq_getElem_cons (by omega), defsE]
theorem defsE_end (l : List PDef) (k : Nat) (b : ByteArray) (h : l.length ≤ k) : defsE b (l.drop k) = 0 := by
  rw [List.drop_eq_nil_of_le h, defsE]

set_option maxRecDepth 100000 in
set_option maxHeartbeats 1000000 in
theorem refCheck (v : Value) (s : PSchema) (w : World) (hv : SchemaV w v s) (hsm : SmallS s) : Calls Try.prog 8 #[v] w (RetI w (checkE s)) := by
  obtain ⟨dv, rfl, hd⟩ := hv
  obtain ⟨s1, s2⟩ := hsm
  have S2 : Hid (∀ d ∈ s.defs, SmallD d) := s2
  have HB := Lib.hid (SchAt.box w s dv 24 hd)
  have hw0 : Below w.heap.size w (w.alloc (.cells #[.int .i64 s.dims, .int .i64 s.metric, dv] 24)) := below_alloc _ _
  obtain ⟨a, cap, b, off, rfl, -, -, ha, hc⟩ := HB.out.2.2.2.open
  have C1 : Hid ((s.dims < 1 ∨ 32 < s.dims ∨ s.metric < 1 ∨ 3 < s.metric) → checkE s = 1) := fun h => by rw [checkE, if_pos h]
  have C2 : Hid (¬ (s.dims < 1 ∨ 32 < s.dims ∨ s.metric < 1 ∨ 3 < s.metric) → 16 < s.defs.length → checkE s = 2) := fun h h2 => by rw [checkE, if_neg h, if_pos h2]
  have C3 : Hid (¬ (s.dims < 1 ∨ 32 < s.dims ∨ s.metric < 1 ∨ 3 < s.metric) → ¬ 16 < s.defs.length → checkE s = defsE ByteArray.empty s.defs) := fun h h2 => by rw [checkE, if_neg h, if_neg h2]
  clear s2 hd
  cases e1 : decide (s.dims < 1) <;> cases e2 : decide (32 < s.dims) <;> cases e3 : decide (1 ≤ s.metric) <;> cases e4 : decide (s.metric ≤ 3)
  case false.false.true.true =>
    have hno := Lib.hid (show ¬ (s.dims < 1 ∨ 32 < s.dims ∨ s.metric < 1 ∨ 3 < s.metric) by simp at e1 e2 e3 e4; omega)
    by_cases h16 : 16 < s.defs.length
    · have h16' : decide ((16 : Int) < (s.defs.length : Int)) = true := by simp only [decide_eq_true_eq]; omega
      have F := Lib.hid (C2.out hno.out h16)
      clear C1 C2 C3 hc ha
      go_enter Try.func8, Try.ntmps8
      go_wp2_with (go_at_call 22; refine (refMetric _ _).mono ?_; rintro e w' ⟨rfl, rfl⟩)
      go_ret
      exact RetI.mk F.out.symm hw0
    · have h16' : decide ((16 : Int) < (s.defs.length : Int)) = false := by simp only [decide_eq_false_iff_not]; omega
      have F := Lib.hid (C3.out hno.out h16)
      clear C1 C2 C3
      go_enter Try.func8, Try.ntmps8
      go_wp2_with (go_at_call 22; refine (refMetric _ _).mono ?_; rintro e w' ⟨rfl, rfl⟩)
      generalize hw : w.alloc (.cells #[.int .i64 s.dims, .int .i64 s.metric, .slice a s.defs.length cap] 24) = w0 at *
      clear hw
      go_loopw [3, 4] (fun b i wr => ∃ (k : Nat) (bf : ByteArray), k ≤ s.defs.length ∧ i = .int .i64 k ∧ b = .string bf ∧ Below w0.heap.size w0 wr ∧ Hid (checkE s = defsE bf (s.defs.drop k))) (fun _ i _ => s.defs.length - (intOf i).toNat)
      case atStart => exact ⟨0, _, by omega, rfl, rfl, Below.refl _ _, F.out⟩
      case round =>
        obtain ⟨k, bf, hk, rfl, rfl, hb, hh⟩ := hrel
        have HS := Lib.hid (HB.out.below hb)
        have c2 := HS.out.2.2.1
        by_cases hlt : k < s.defs.length
        · obtain ⟨y, hy⟩ := ints_get s.defs k (by omega)
          obtain ⟨wv, hd, hs⟩ := hc.out k y hy
          obtain ⟨d0, d1, d2, d3, d4⟩ := hd.below hb
          have H := Lib.hid (defsE_drop s.defs k bf y hy)
          have hs' := Lib.hid (hs.below hb)
          have hsm := Lib.hid (S2.out y (List.mem_of_getElem? hy))
          obtain rfl := ha (by omega)
          clear hs hd hc hy ha
          cases e5 : (defE y bf != 0)
          all_goals
            have E5 := Lib.hid e5
            clear e5
            go_wp2_with fail
            refine (refDef y wv bf _ hs'.out hsm.out).mono ?_
            rintro e w2 ⟨rfl, hb2⟩
            have d0' := below_cell hb2 d0
            have c2' := below_cell hb2 c2
            have hb3 := blift hb hb2
            clear hb hb2 d0 d1 d2 d3 d4 c2 hs'
            have e5 := E5.out
            generalize defE y bf = x at *
          · go_wp2
            go_roundw
            case rel => exact ⟨k + 1, _, by omega, by go_num, rfl, hb3, by rw [Hid, hh.out, H.out, if_neg (by simpa using E5.out)]⟩
            case measure => simp [intOf]; omega
          · go_wp2
            go_ret
            exact RetI.mk (by rw [hh.out, H.out, if_pos (by simpa using E5.out)]) (blift hw0 hb3)
        · have F := Lib.hid (defsE_end s.defs k bf (by omega))
          clear hc ha
          go_wp2
          go_ret
          exact RetI.mk (by rw [hh.out, F.out]) (blift hw0 hb)
  all_goals
    have F := Lib.hid (C1.out (by simp at e1 e2 e3 e4; omega))
    clear C1 C2 C3 hc ha
    go_enter Try.func8, Try.ntmps8
    go_wp2_with (go_at_call 22; refine (refMetric _ _).mono ?_; rintro e w' ⟨rfl, rfl⟩)
    go_ret
    exact RetI.mk F.out.symm hw0

end Go.Proofs.Ytnjopfjmepbpoaa

/- Plain: an entry, decoded. -/
namespace Go.Proofs.Ytnjopfjmepbpoaa
set_option linter.unusedSimpArgs false
set_option linter.unusedVariables false
set_option linter.unnecessarySimpa false

def attrsOf : List Int → List ByteArray → List PAttr
  | k :: n :: r, nm :: s :: t => ⟨nm, k, n, s⟩ :: attrsOf r t
  | _, _ => []

theorem attrsOf_enc : ∀ l : List PAttr, attrsOf (attrN l) (attrS l) = l
  | [] => rfl
  | a :: r => by
    have h1 : attrN (a :: r) = a.kind :: a.n :: attrN r := rfl
    have h2 : attrS (a :: r) = a.name :: a.s :: attrS r := rfl
    rw [h1, h2, attrsOf, attrsOf_enc r]

theorem attrsOf_back : ∀ (m : Nat) (r : List Int) (t : List ByteArray), r.length = 2 * m → t.length = 2 * m → attrN (attrsOf r t) = r ∧ attrS (attrsOf r t) = t ∧ (attrsOf r t).length = m
  | 0, r, t, h1, h2 => by
    obtain rfl : r = [] := List.eq_nil_of_length_eq_zero (by omega)
    obtain rfl : t = [] := List.eq_nil_of_length_eq_zero (by omega)
    exact ⟨rfl, rfl, rfl⟩
  | m+1, k :: n :: r, nm :: s :: t, h1, h2 => by
    obtain ⟨i1, i2, i3⟩ := attrsOf_back m r t (by simp at h1; omega) (by simp at h2; omega)
    have e1 : attrN (attrsOf (k :: n :: r) (nm :: s :: t)) = k :: n :: attrN (attrsOf r t) := rfl
    have e2 : attrS (attrsOf (k :: n :: r) (nm :: s :: t)) = nm :: s :: attrS (attrsOf r t) := rfl
    rw [e1, e2, i1, i2]
    exact ⟨rfl, rfl, by simp [attrsOf, i3]⟩
  | m+1, [], _, h1, _ => by simp at h1
  | m+1, [_], _, h1, _ => by simp at h1; omega
  | m+1, _ :: _ :: _, [], _, h2 => by simp at h2
  | m+1, _ :: _ :: _, [_], _, h2 => by simp at h2; omega

theorem attrsOf_get : ∀ (j : Nat) (r : List Int) (t : List ByteArray) (k n : Int) (nm s : ByteArray), r[2*j]? = some k → r[2*j+1]? = some n → t[2*j]? = some nm → t[2*j+1]? = some s → (attrsOf r t)[j]? = some ⟨nm, k, n, s⟩
  | 0, r, t, k, n, nm, s, h1, h2, h3, h4 => by
    match r, t, h1, h2, h3, h4 with
    | a :: b :: r, c :: d :: t, h1, h2, h3, h4 =>
      simp at h1 h2 h3 h4
      subst h1 h2 h3 h4
      rfl
    | [], _, h1, _, _, _ => simp at h1
    | [_], _, _, h2, _, _ => simp at h2
    | _ :: _ :: _, [], _, _, h3, _ => simp at h3
    | _ :: _ :: _, [_], _, _, _, h4 => simp at h4
  | j+1, r, t, k, n, nm, s, h1, h2, h3, h4 => by
    match r, t, h1, h2, h3, h4 with
    | a :: b :: r, c :: d :: t, h1, h2, h3, h4 =>
      rw [show 2 * (j+1) = 2 * j + 1 + 1 by omega] at h1 h3
      rw [show 2 * (j+1) + 1 = 2 * j + 1 + 1 + 1 by omega] at h2 h4
      simp only [List.getElem?_cons_succ] at h1 h2 h3 h4
      rw [attrsOf, List.getElem?_cons_succ]
      exact attrsOf_get j r t k n nm s h1 h2 h3 h4
    | [], _, h1, _, _, _ => simp at h1
    | [_], _, h1, _, _, _ => rw [show 2 * (j+1) = 2 * j + 1 + 1 by omega] at h1; simp at h1
    | _ :: _ :: _, [], _, _, h3, _ => simp at h3
    | _ :: _ :: _, [_], _, _, h3, _ => rw [show 2 * (j+1) = 2 * j + 1 + 1 by omega] at h3; simp at h3

def zeroE : PEntry := ⟨0, 0, 0, 0, 0, 0, 0, [], []⟩

/-- The entry of numbers and strings: none, where they do not fit. -/
def entOf (n : List Int) (s : List ByteArray) : Option PEntry :=
  match n with
  | i :: v :: o :: f :: a :: t :: b :: c :: r =>
    if c < 0 ∨ (r.length : Int) - 1 < c then none
    else match r.drop c.toNat with
      | m :: q => if s.length % 2 ≠ 0 ∨ m ≠ (s.length : Int) / 2 ∨ q.length ≠ s.length then none else some ⟨i, v, o, f, a, t, b, r.take c.toNat, attrsOf q s⟩
      | [] => none
  | _ => none

def decE (bs : List Int) : PEntry × Int :=
  if (getInts bs).2.2 ≠ 0 then (zeroE, (getInts bs).2.2)
  else if (getStrs (bs.drop (getInts bs).2.1.toNat)).2.2 ≠ 0 then (zeroE, (getStrs (bs.drop (getInts bs).2.1.toNat)).2.2)
  else if (getInts bs).2.1 + (getStrs (bs.drop (getInts bs).2.1.toNat)).2.1 ≠ bs.length then (zeroE, 11)
  else match entOf (getInts bs).1 (getStrs (bs.drop (getInts bs).2.1.toNat)).1 with
    | some e => (e, 0)
    | none => (zeroE, 11)

theorem entOf_enc (x : PEntry) : entOf (encN x) (attrS x.attrs) = some x := by
  have e : encN x = x.id :: x.ver :: x.owner :: x.filed :: x.frm :: x.to :: x.born :: (x.vec.length : Int) :: (x.vec ++ (x.attrs.length : Int) :: attrN x.attrs) := by
    simp [encN, headN]
  have hl := attrS_len x.attrs
  have hn := attrN_len x.attrs
  rw [e, entOf]
  rw [if_neg (by simp only [List.length_append, List.length_cons]; omega)]
  simp only [Int.toNat_natCast, List.drop_left, List.take_left]
  rw [if_neg (by omega), attrsOf_enc]

theorem decE_enc (x : PEntry) (h : FitE x) (hs : SmallE x) : decE (encE x) = (x, 0) := by
  have hl := encN_len x
  have hv := hs.vec
  have ha := hs.attrs
  have h1 : getInts (encE x) = (encN x, ((intsB (encN x)).length : Int), 0) := getInts_rest _ _ (encN_fit x h hs) (by omega)
  have h2 : (encE x).drop (intsB (encN x)).length = strsB (attrS x.attrs) ++ [] := by rw [encE, List.drop_left]; simp
  have hl2 := attrS_len x.attrs
  have h3 := getStrs_rest (attrS x.attrs) [] (attrS_small x.attrs hs.strs) (by omega)
  rw [decE, h1]
  simp only [ne_eq, not_true_eq_false, if_false, Int.toNat_natCast]
  rw [h2, h3]
  simp only [not_true_eq_false, if_false]
  rw [if_neg (by simp [encE]), entOf_enc]

theorem entOf_back (n : List Int) (s : List ByteArray) (x : PEntry) (h : entOf n s = some x) : encN x = n ∧ attrS x.attrs = s := by
  unfold entOf at h
  split at h
  · rename_i i v o f a t b c r
    split at h
    · cases h
    · rename_i hc
      split at h
      · rename_i m q hd
        split at h
        · cases h
        · rename_i hm
          cases h
          obtain ⟨b1, b2, b3⟩ := attrsOf_back (s.length / 2) q s (by omega) (by omega)
          refine ⟨?_, b2⟩
          have hr : r = r.take c.toNat ++ m :: q := by rw [← hd, List.take_append_drop]
          have hlen : (r.take c.toNat).length = c.toNat := by rw [List.length_take]; omega
          simp only [encN, headN, b1, b3, hlen]
          rw [show ((c.toNat : Nat) : Int) = c by omega, show (((s.length / 2 : Nat)) : Int) = m by omega]
          simp only [List.cons_append, List.nil_append, List.append_assoc]
          rw [← hr]
      · cases h
  · cases h

theorem enc_decE (bs : List Int) (x : PEntry) (hby : ∀ c ∈ bs, 0 ≤ c ∧ c < 256) (h : decE bs = (x, 0)) : encE x = bs := by
  obtain ⟨n, u, e, h1⟩ : ∃ n u e, getInts bs = (n, u, e) := ⟨_, _, _, rfl⟩
  rw [decE, h1] at h
  simp only at h
  by_cases g : e ≠ 0
  · rw [if_pos g] at h; simp only [Prod.mk.injEq] at h; exact absurd h.2 g
  · rw [if_neg g] at h
    have g' : e = 0 := by simpa using g
    subst g'
    obtain ⟨t1, t2, t3⟩ := getInts_take bs n u hby h1
    obtain ⟨s, u2, e2, h2⟩ : ∃ s u2 e2, getStrs (bs.drop u.toNat) = (s, u2, e2) := ⟨_, _, _, rfl⟩
    rw [h2] at h
    simp only at h
    by_cases g2 : e2 ≠ 0
    · rw [if_pos g2] at h; simp only [Prod.mk.injEq] at h; exact absurd h.2 g2
    · rw [if_neg g2] at h
      have g2' : e2 = 0 := by simpa using g2
      subst g2'
      obtain ⟨q1, q2, q3⟩ := getStrs_take (bs.drop u.toNat) s u2 (fun c hc => hby c (List.mem_of_mem_drop hc)) h2
      rw [List.length_drop] at q3
      by_cases g3 : u + u2 ≠ bs.length
      · rw [if_pos g3] at h; simp at h
      · rw [if_neg g3] at h
        have g3' : u + u2 = bs.length := by simpa using g3
        cases he : entOf n s with
        | none => rw [he] at h; simp at h
        | some y =>
          rw [he] at h
          simp only [Prod.mk.injEq, and_true] at h
          subst h
          obtain ⟨b1, b2⟩ := entOf_back n s y he
          rw [encE, b1, b2, ← t1, ← q1, List.take_of_length_le (i := u2.toNat) (by rw [List.length_drop]; omega), List.take_append_drop]

end Go.Proofs.Ytnjopfjmepbpoaa

/- Contracts over pure values: wire, slices, attr and the specification. -/
namespace Go.Proofs.Ytnjopfjmepbpoaa
set_option linter.unusedSimpArgs false
set_option linter.unusedVariables false
set_option linter.unnecessarySimpa false
open Go.RowKit

theorem plain_int (k : IntKind) (z : Int) : plainV (.int k z) = true := rfl

theorem pcGetInts (bs : List Int) (hby : Byte bs) (hl : bs.length ≤ 1000000000) : PCalls Try.prog 48 [pbytes bs] (· = .tup [pints (getInts bs).1, pint (getInts bs).2.1, pint (getInts bs).2.2]) :=
  pcalls1 (by kernel_rfl) fun Φ μ w v himm hr => (wireGetInts v bs w (bytes_of_rep himm hr) hby hl).mono (by
    rintro e w' ⟨u, rfl, ho, hb⟩
    exact post_tup3 himm (plain_int _) ho hb)
theorem pcGetStrs (bs : List Int) (hby : Byte bs) (hl : bs.length ≤ 1000000000) : PCalls Try.prog 49 [pbytes bs] (· = .tup [pstrs (getStrs bs).1, pint (getStrs bs).2.1, pint (getStrs bs).2.2]) :=
  pcalls1 (by kernel_rfl) fun Φ μ w v himm hr => (wireGetStrings v bs w (bytes_of_rep himm hr) hby hl).mono (by
    rintro e w' ⟨u, rfl, ho, hb⟩
    exact post_tup3 himm (fun _ => rfl) ho hb)
/-- A new slice: what it reads as. -/
def pintsO (zs : List Int) : PV := .sl zs.length 1 (zs.map pint) (some 3)
def pbytesO (zs : List Int) : PV := .sl zs.length 1 (zs.map pbyte) (some 5)
theorem pcClone (zs : List Int) (hl : zs.length ≤ 1000000000) : PCalls Try.prog 50 [pints zs] (· = pintsO zs) :=
  pcalls1 (by kernel_rfl) fun Φ μ w v himm hr => (slicesCloneI v zs w (ints_of_rep himm hr) hl).mono (by
    rintro e w' ⟨u, rfl, ho, hb⟩
    exact post_own himm (plain_int _) ho hb)
theorem pcInts (zs : List Int) (hf : Fit zs) (hl : zs.length ≤ 1000000000) : PCalls Try.prog 53 [pints zs] (· = pbytesO (intsB zs)) :=
  pcalls1 (by kernel_rfl) fun Φ μ w v himm hr => (wireInts v zs w (ints_of_rep himm hr) hf hl).mono (by
    rintro e w' ⟨u, rfl, ho, hb⟩
    exact post_own himm (plain_int _) ho hb)
theorem pcRefInts (zs : List Int) (hf : Fit zs) (hl : zs.length ≤ 1000000000) : PCalls Try.prog 91 [pints zs] (· = pbytesO (intsB zs)) :=
  pcalls1 (by kernel_rfl) fun Φ μ w v himm hr => (refInts v zs w (ints_of_rep himm hr) hf hl).mono (by
    rintro e w' ⟨u, rfl, ho, hb⟩
    exact post_own himm (plain_int _) ho hb)
theorem pcRefStrings (zs : List ByteArray) (hf : SmallStrs zs) (hl : zs.length ≤ 1000000) : PCalls Try.prog 92 [pstrs zs] (· = pbytesO (strsB zs)) :=
  pcalls1 (by kernel_rfl) fun Φ μ w v himm hr => (refStrings v zs w (strs_of_rep himm hr) hf hl).mono (by
    rintro e w' ⟨u, rfl, ho, hb⟩
    exact post_own himm (plain_int _) ho hb)
theorem pcEncode (x : PEntry) (hf : FitE x) (hs : SmallE x) : PCalls Try.prog 18 [pentry x] (· = pbytesO (encE x)) :=
  pcalls1 (by kernel_rfl) fun Φ μ w v himm hr => (attrEncode v x w (entry_of_rep himm hr) hf hs).mono (by
    rintro e w' ⟨u, rfl, ho, hb⟩
    exact post_own himm (plain_int _) ho hb)
theorem pcCheck (s : PSchema) (hs : SmallS s) : PCalls Try.prog 25 [pschema s] (· = pint (checkE s)) :=
  pcalls1 (by kernel_rfl) fun Φ μ w v himm hr => (attrCheck v s w (schema_of_rep himm hr) hs).mono (by
    rintro e w' ⟨rfl, hb⟩
    exact post_flat himm (.val _ rfl) rfl rfl hb)
theorem pcRefCheck (s : PSchema) (hs : SmallS s) : PCalls Try.prog 8 [pschema s] (· = pint (checkE s)) :=
  pcalls1 (by kernel_rfl) fun Φ μ w v himm hr => (refCheck v s w (schema_of_rep himm hr) hs).mono (by
    rintro e w' ⟨rfl, hb⟩
    exact post_flat himm (.val _ rfl) rfl rfl hb)
theorem pcFits (s : PSchema) (l : List PAttr) (hs : SmallS s) (hl : l.length ≤ 1000000) : PCalls Try.prog 13 [pschema s, pattrs l] (· = pint (fitsGo s.defs ByteArray.empty false l)) :=
  pcalls2 (by kernel_rfl) fun Φ μ w v u himm hr hr2 => (attrFits v u s l w (schema_of_rep himm hr) (attrs_of_rep himm hr2) hs hl).mono (by
    rintro e w' ⟨rfl, hb⟩
    exact post_flat himm (.val _ rfl) rfl rfl hb)
theorem pcRefFits (s : PSchema) (l : List PAttr) (hs : SmallS s) (hl : l.length ≤ 1000000) : PCalls Try.prog 14 [pschema s, pattrs l] (· = pint (fitsE s l)) :=
  pcalls2 (by kernel_rfl) fun Φ μ w v u himm hr hr2 => (refFits v u s l w (schema_of_rep himm hr) (attrs_of_rep himm hr2) hs hl).mono (by
    rintro e w' ⟨rfl, hb⟩
    exact post_flat himm (.val _ rfl) rfl rfl hb)
theorem pcEntry (s : PSchema) (x : PEntry) (hs : SmallS s) (hl : x.vec.length ≤ 1000000) (hl2 : x.attrs.length ≤ 1000000) : PCalls Try.prog 15 [pschema s, pentry x] (· = pint (entryA s x)) :=
  pcalls2 (by kernel_rfl) fun Φ μ w v u himm hr hr2 => (attrEntry v u s x w (schema_of_rep himm hr) (entry_of_rep himm hr2) hs hl hl2).mono (by
    rintro e w' ⟨rfl, hb⟩
    exact post_flat himm (.val _ rfl) rfl rfl hb)
theorem pcRefEntry (s : PSchema) (x : PEntry) (hs : SmallS s) (hl : x.vec.length ≤ 1000000) (hl2 : x.attrs.length ≤ 1000000) : PCalls Try.prog 16 [pschema s, pentry x] (· = pint (entryE s x)) :=
  pcalls2 (by kernel_rfl) fun Φ μ w v u himm hr hr2 => (refEntry v u s x w (schema_of_rep himm hr) (entry_of_rep himm hr2) hs hl hl2).mono (by
    rintro e w' ⟨rfl, hb⟩
    exact post_flat himm (.val _ rfl) rfl rfl hb)
theorem pcName (s : ByteArray) (hs : s.size ≤ 1000000000) : PCalls Try.prog 27 [pstr s] (· = pbool (nameB s)) :=
  pcalls1 (by kernel_rfl) fun Φ μ w v himm hr => by
    obtain ⟨rfl, -⟩ := hr.val_inv
    exact (attrName s w hs).mono (by
      rintro e w' ⟨rfl, hb⟩
      exact post_flat himm (.val _ rfl) rfl rfl hb)
theorem pcRefName (s : ByteArray) (hs : s.size ≤ 1000000000) : PCalls Try.prog 59 [pstr s] (· = pbool (nameB s)) :=
  pcalls1 (by kernel_rfl) fun Φ μ w v himm hr => by
    obtain ⟨rfl, -⟩ := hr.val_inv
    exact (refName s w hs).mono (by
      rintro e w' ⟨rfl, hb⟩
      exact post_flat himm (.val _ rfl) rfl rfl hb)
theorem pcRefHas (l : List ByteArray) (s : ByteArray) (hl : l.length ≤ 1000000000) : PCalls Try.prog 21 [pstrs l, pstr s] (· = pbool (hasB l s)) :=
  pcalls2 (by kernel_rfl) fun Φ μ w v u himm hr hr2 => by
    obtain ⟨rfl, -⟩ := hr2.val_inv
    exact (refHasS v l s w (strs_of_rep himm hr) hl).mono (by
      rintro e w' ⟨rfl, hb⟩
      exact post_flat himm (.val _ rfl) rfl rfl (by first | exact hb | exact hb.below _ | (subst hb; exact Below.refl _ _)))
theorem pcGet (l : List PAttr) (nm : ByteArray) (hl : l.length ≤ 1000000) : PCalls Try.prog 11 [pattrs l, pstr nm] (· = .tup [.agg (pattrL (getA l nm).1), pbool (getA l nm).2]) :=
  pcalls2 (by kernel_rfl) fun Φ μ w v u himm hr hr2 => by
    obtain ⟨rfl, -⟩ := hr2.val_inv
    exact (attrGet v l nm w (attrs_of_rep himm hr) hl).mono (by
      rintro e w' ⟨rfl, hb⟩
      exact post_flat himm (RepL.cons (RepL.cons (.val _ rfl) (RepL.cons (.val _ rfl) (RepL.cons (.val _ rfl) (RepL.cons (.val _ rfl) RepL.nil)))).agg (RepL.cons (.val _ rfl) RepL.nil)).tup rfl rfl hb)
theorem pcRefGet (l : List PAttr) (nm : ByteArray) (hl : l.length ≤ 1000000) : PCalls Try.prog 12 [pattrs l, pstr nm] (· = .agg (pattrL (getA l nm).1 ++ [pbool (getA l nm).2])) :=
  pcalls2 (by kernel_rfl) fun Φ μ w v u himm hr hr2 => by
    obtain ⟨rfl, -⟩ := hr2.val_inv
    exact (refGet v l nm w (attrs_of_rep himm hr) hl).mono (by
      rintro e w' ⟨rfl, hb⟩
      exact post_flat himm (RepL.cons (.val _ rfl) (RepL.cons (.val _ rfl) (RepL.cons (.val _ rfl) (RepL.cons (.val _ rfl) (RepL.cons (.val _ rfl) RepL.nil))))).agg rfl rfl hb)
end Go.Proofs.Ytnjopfjmepbpoaa

/- Pure walks: a result told weaker than it is. -/
namespace Go.Proofs.Ytnjopfjmepbpoaa
set_option linter.unusedSimpArgs false
set_option linter.unusedVariables false
set_option linter.unnecessarySimpa false
open Go.RowKit

def Weak (r r' : PV) : Prop := (∀ Φ μ v, Rep Φ μ r v → Rep Φ μ r' v) ∧ (r'.ownB = true → r' = r)
theorem Weak.refl (r : PV) : Weak r r := ⟨fun _ _ _ h => h, fun _ => rfl⟩
theorem Weak.nil (k : Nat) : Weak .nilsl (.sl 0 k [] none) := ⟨fun Φ μ v h => by rw [h.nilsl_inv]; exact .sl0 k none none 0 (by decide), fun h => by simp [PV.ownB] at h⟩
theorem Weak.bare (r : PV) : Weak r r.bare := ⟨fun Φ μ v h => h.bare, fun h => by cases r <;> simp_all [PV.ownB, PV.bare]⟩

inductive WeakL : List PV → List PV → Prop
  | nil : WeakL [] []
  | cons {p q : PV} {ps qs : List PV} (h : Weak p q) (hs : WeakL ps qs) : WeakL (p :: ps) (q :: qs)
theorem WeakL.len {ps qs : List PV} (h : WeakL ps qs) : ps.length = qs.length := by
  induction h with
  | nil => rfl
  | cons _ _ ih => simp [ih]
theorem WeakL.get {ps qs : List PV} (h : WeakL ps qs) : ∀ (j : Nat) q, qs[j]? = some q → ∃ p, ps[j]? = some p ∧ Weak p q := by
  induction h with
  | nil => intro j q h; simp at h
  | cons h1 _ ih =>
    intro j q h
    cases j with
    | zero => simp at h; subst h; exact ⟨_, rfl, h1⟩
    | succ j => simpa using ih j q (by simpa using h)
theorem Weak.agg {ps qs : List PV} (h : WeakL ps qs) : Weak (.agg ps) (.agg qs) := by
  refine ⟨fun Φ μ v hv => ?_, fun h => by simp [PV.ownB] at h⟩
  cases hv with
  | agg cs us hr =>
    rw [h.len]
    refine .agg qs us fun j c hj => ?_
    obtain ⟨p, hp, hw⟩ := h.get j c hj
    exact hw.1 _ _ _ (hr j p hp)
theorem Weak.tup {ps qs : List PV} (h : WeakL ps qs) : Weak (.tup ps) (.tup qs) := by
  refine ⟨fun Φ μ v hv => ?_, fun h => by simp [PV.ownB] at h⟩
  cases hv with
  | tup cs us hr =>
    rw [h.len]
    refine .tup qs us fun j c hj => ?_
    obtain ⟨p, hp, hw⟩ := h.get j c hj
    exact hw.1 _ _ _ (hr j p hp)

theorem PCalls.weak {P : Program} {f : FuncId} {args : List PV} {q : PV} (h : PCalls P f args (fun r => Weak r q)) : PCalls P f args (· = q) := by
  refine ⟨h.1, fun Φ μ w vs h1 h2 => (h.2 Φ μ w vs h1 h2).mono ?_⟩
  rintro e w' ⟨r, v, Φ', k1, k2, k3, k4, k5, k6, k7⟩
  refine ⟨q, v, Φ', k1, rfl, k2.1 _ _ _ k3, k4, k5, k6, fun n k cs E e => ?_⟩
  have := k2.2 (by rw [e]; rfl)
  exact k7 n k cs E (by rw [← this, e])

section
variable {P : Program} {T : Tab} {σ : PS} {o : Oper} {i base : Nat} {ops : Array Oper} {ok : Nat → Nat → Bool} {rest : List (Nat × Oper)} {K : PS → Prop}
/-- The address of an element of one cell, at a number of the text. -/
theorem PWops.idxC {d n e by_ : Nat} {z : Int} {cs zr : List PV} {own : Option TypeId} {kk : IntKind} {x ix : Operand} {t : TypeId} {ti : TyI} (hg : pguard ops σ o = some true) (hd : o.dst = some d) (hop : o.op = .indexAddr t x ix) (hx : pev σ x = .sl n 1 cs own) (hi : pev σ ix = .val (.int kk z)) (ht : T.at t = some ti) (hk : ti.kind = .slice e 1 by_ zr) (hb : σ.b (base + i) = none) (h0 : 0 ≤ z) (hj : z.toNat < n)
    (kn : PWops P T ops base ok rest K (σ.put d (.ep cs z.toNat))) : PWops P T ops base ok ((i, o) :: rest) K σ :=
  PWops.idx1 (j := z.toNat) hg hd hop hx (by rw [hi, Int.toNat_of_nonneg h0]) ht hk hb hj kn
end
end Go.Proofs.Ytnjopfjmepbpoaa

/- Pure states: steps at lists of values, tests that are not decided. -/
namespace Go.Proofs.Ytnjopfjmepbpoaa
set_option linter.unusedSimpArgs false
set_option linter.unusedVariables false
set_option linter.unnecessarySimpa false
open Go.RowKit

/-- Operations that are read off in one step. -/
def isQ : Op → Bool
  | .move _ | .assign _ | .load .. | .fieldAddr .. | .field .. | .extract .. | .pick .. | .unOp .. | .build .. | .makeFunc .. => true
  | .call c => match c.callee with
    | .builtin .len => true
    | _ => false
  | _ => false
section
variable {P : Program} {T : Tab} {σ : PS} {o : Oper} {i base : Nat} {ops : Array Oper} {ok : Nat → Nat → Bool} {rest : List (Nat × Oper)} {K : PS → Prop}
/-- A test that is not decided: both ways. -/
theorem PWops.boolS {d : Nat} {b : Bool} (hk : isCmp o.op = true) (hg : pguard ops σ o = some true) (hd : o.dst = some d) (hE : feff (presE T (headB ops o.dst) (base + i) (σ.only (ok i)) o.op) = some (.val (.bool b))) (hb : σ.b (base + i) = none)
    (kt : b = true → PWops P T ops base ok rest K (σ.put d (.val (.bool true)))) (kf : b = false → PWops P T ops base ok rest K (σ.put d (.val (.bool false)))) : PWops P T ops base ok ((i, o) :: rest) K σ := by
  cases b with
  | true => exact PWops.bool true hg hd hE rfl hb (kt rfl)
  | false => exact PWops.bool false hg hd hE rfl hb (kf rfl)

theorem PWops.valN {d : Nat} {p : PV} (hk : isCmp o.op = false) (hg : pguard ops σ o = some true) (hd : o.dst = some d) (hE : feff (presE T (headB ops o.dst) (base + i) (σ.only (ok i)) o.op) = some p) (hb : σ.b (base + i) = none) (k : PWops P T ops base ok rest K (σ.put d p)) : PWops P T ops base ok ((i, o) :: rest) K σ := PWops.val hg hd hE hb k

theorem PWops.valQ {d : Nat} {p : PV} (hk : isQ o.op = true) (hg : pguard ops σ o = some true) (hd : o.dst = some d) (hE : feff (presE T (headB ops o.dst) (base + i) (σ.only (ok i)) o.op) = some p) (hb : σ.b (base + i) = none) (k : PWops P T ops base ok rest K (σ.put d p)) : PWops P T ops base ok ((i, o) :: rest) K σ := PWops.val hg hd hE hb k

/-- A move of what is not one's own. -/
theorem PWops.mv {d : Nat} {x : Operand} {p : PV} (hop : o.op = .move x) (hg : pguard ops σ o = some true) (hd : o.dst = some d) (hx : fval (ownPV σ x) = some p) (hn : p.ownB = false) (hb : σ.b (base + i) = none) (k : PWops P T ops base ok rest K (σ.put d p)) : PWops P T ops base ok ((i, o) :: rest) K σ := by
  have hx' := fval_eq hx
  refine PWops.valEq hg hd (p := p) ?_ rfl hb k
  have hp : pev σ x = p := by
    cases x with
    | tmp s => simp only [ownPV] at hx'; simp only [pev, hx']; exact PV.bare_of _ hn
    | _ => exact hx'
  simp only [hop, presE]
  split
  · cases x with
    | tmp s =>
      simp only [ownPV] at hx'
      have : (σ.only (ok i)).t s = p := hx'
      simp only [takeE, this, hn]
      simp only [Bool.false_eq_true, if_false, PV.bare_of _ hn]
    | _ => simp only [takeE, pev_only, hp]
  · simp only [pev_only, hp]
/-- A load out of a variable, of what is not one's own. -/
theorem PWops.ldV {d id off : Nat} {x : Operand} {t : TypeId} {ti : TyI} {bs : List PV} {c p : PV} (hop : o.op = .load t x) (hg : pguard ops σ o = some true) (hd : o.dst = some d) (hx : pev σ x = .ptr id off) (hbs : (σ.only (ok i)).b id = some bs) (hc : bs[off]? = some c) (ht : T.at t = some ti) (ha : ti.agg = false) (hq : fval c = some p) (hn : p.ownB = false) (hb : σ.b (base + i) = none) (k : PWops P T ops base ok rest K (σ.put d p)) : PWops P T ops base ok ((i, o) :: rest) K σ := by
  have hq' := fval_eq hq
  subst hq'
  refine PWops.valEq hg hd (p := c) ?_ rfl hb k
  have h1 : ploadO T (headB ops o.dst) (σ.only (ok i)).b t (.ptr id off) = none := by
    simp only [ploadO]
    split
    · rw [hbs]
      simp only [hc]
      cases c with
      | sl n k cs own => cases own with
        | none => rfl
        | some E => simp [PV.ownB] at hn
      | _ => rfl
    · rfl
  simp only [hop, presE, pev_only, hx, h1, pval, ht, ploadAt, hbs, asVal, ha, hc, Bool.false_eq_true, if_false, Option.map_some, PV.bare_of _ hn]

theorem getD_get {α : Type} {l : List α} {j : Nat} (x : α) (h : j < l.length) : l[j]? = some (l.getD j x) := by
  rw [List.getD_eq_getElem?_getD, List.getElem?_eq_getElem h]; rfl

theorem PWops.idxZ {d n k e by_ : Nat} {z : Int} {cs zr : List PV} {own : Option TypeId} {kk : IntKind} {x ix : Operand} {t : TypeId} {ti : TyI} (hg : pguard ops σ o = some true) (hd : o.dst = some d) (hop : o.op = .indexAddr t x ix) (hx : pev σ x = .sl n k cs own) (hi : pev σ ix = .val (.int kk z)) (ht : T.at t = some ti) (hk : ti.kind = .slice e k by_ zr) (hb : σ.b (base + i) = none) (h0 : 0 ≤ z ∧ z < n)
    (kn : PWops P T ops base ok rest K (σ.put d (.ep cs (z.toNat * k)))) : PWops P T ops base ok ((i, o) :: rest) K σ :=
  PWops.idx (j := z.toNat) hg hd hop hx (by rw [hi, Int.toNat_of_nonneg h0.1]) ht hk hb (by omega) kn
theorem PWops.idxZ1 {d n e by_ : Nat} {z : Int} {cs zr : List PV} {own : Option TypeId} {kk : IntKind} {x ix : Operand} {t : TypeId} {ti : TyI} (hg : pguard ops σ o = some true) (hd : o.dst = some d) (hop : o.op = .indexAddr t x ix) (hx : pev σ x = .sl n 1 cs own) (hi : pev σ ix = .val (.int kk z)) (ht : T.at t = some ti) (hk : ti.kind = .slice e 1 by_ zr) (hb : σ.b (base + i) = none) (h0 : 0 ≤ z ∧ z < n)
    (kn : PWops P T ops base ok rest K (σ.put d (.ep cs z.toNat))) : PWops P T ops base ok ((i, o) :: rest) K σ :=
  PWops.idx1 (j := z.toNat) hg hd hop hx (by rw [hi, Int.toNat_of_nonneg h0.1]) ht hk hb (by omega) kn

/-- A cell of a list of values. -/
theorem PWops.ldM {α : Type} [Inhabited α] {d off : Nat} {f : α → PV} {l : List α} {q : PV} {x : Operand} {t : TypeId} {ti : TyI} (hg : pguard ops σ o = some true) (hd : o.dst = some d) (hop : o.op = .load t x) (hx : pev σ x = .ep (l.map f) off) (ht : T.at t = some ti) (ha : ti.agg = false) (hb : σ.b (base + i) = none) (hl : off < l.length) (hq : fval (f (l.getD off default)).bare = some q)
    (kn : PWops P T ops base ok rest K (σ.put d q)) : PWops P T ops base ok ((i, o) :: rest) K σ :=
  PWops.ld hg hd hop hx ht ha hb (map_get (getD_get default hl)) hq kn
/-- A cell of a row of a list of rows. -/
theorem PWops.ldR {α : Type} [Inhabited α] {d j k r : Nat} {f : α → List PV} {l : List α} {c q : PV} {x : Operand} {t : TypeId} {ti : TyI} (hg : pguard ops σ o = some true) (hd : o.dst = some d) (hop : o.op = .load t x) (hx : pev σ x = .ep (l.flatMap f) (j * k + r)) (ht : T.at t = some ti) (ha : ti.agg = false) (hb : σ.b (base + i) = none) (hk : ∀ x, (f x).length = k) (hl : j < l.length) (hc : (f (l.getD j default))[r]? = some c) (hq : fval c.bare = some q)
    (kn : PWops P T ops base ok rest K (σ.put d q)) : PWops P T ops base ok ((i, o) :: rest) K σ :=
  PWops.ld hg hd hop hx ht ha hb (flatMap_get hk (getD_get default hl) hc) hq kn
/-- A row of a list of rows. -/
theorem PWops.ldRA {α : Type} [Inhabited α] {d j k : Nat} {f : α → List PV} {l : List α} {row : List PV} {x : Operand} {t : TypeId} {kd : TD} {zr : List PV} {es : List SK} (hg : pguard ops σ o = some true) (hd : o.dst = some d) (hop : o.op = .load t x) (hx : pev σ x = .ep (l.flatMap f) (j * k)) (ht : T.at t = some ⟨k, true, kd, zr, es⟩) (hb : σ.b (base + i) = none) (hk : ∀ x, (f x).length = k) (hl : j < l.length) (hr : flist ((f (l.getD j default)).map PV.bare) = some row)
    (kn : PWops P T ops base ok rest K (σ.put d (.agg row))) : PWops P T ops base ok ((i, o) :: rest) K σ := by
  refine PWops.ldA hg hd hop hx ht hb ?_ ?_ kn
  · rw [flatMap_len hk]
    have := Nat.mul_le_mul_right k (show j + 1 ≤ l.length from hl)
    rw [Nat.succ_mul] at this; exact this
  · rw [flatMap_row hk (getD_get default hl)]; exact flist_eq hr
/-- A part of a list of values. -/
theorem PWops.slcM {α : Type} {d e by_ n : Nat} {zl zh : Int} {kl kh : IntKind} {f : α → PV} {L : List α} {zr : List PV} {own : Option TypeId} {x lo hi : Operand} {t : TypeId} {ti : TyI} (hg : pguard ops σ o = some true) (hd : o.dst = some d) (hop : o.op = .slice t x (some lo) (some hi) none) (hx : pev σ x = .sl n 1 (L.map f) own) (hlo : pev σ lo = .val (.int kl zl)) (hhi : pev σ hi = .val (.int kh zh)) (ht : T.at t = some ti) (hk : ti.kind = .slice e 1 by_ zr) (hb : σ.b (base + i) = none)
    (h1 : 0 ≤ zl ∧ zl ≤ zh ∧ zh ≤ n ∧ n = L.length) (kn : PWops P T ops base ok rest K (σ.put d (.sl ((L.drop zl.toNat).take (zh.toNat - zl.toNat)).length 1 (((L.drop zl.toNat).take (zh.toNat - zl.toNat)).map f) none))) : PWops P T ops base ok ((i, o) :: rest) K σ := by
  refine PWops.slc zl.toNat zh.toNat hg hd hop hx ht hk hb ?_ ?_ ?_
  · simp only [Option.map_some, hhi, pbound]; rw [if_pos ⟨by omega, h1.2.2.1⟩]
  · simp only [Option.map_some, hlo, pbound]; rw [if_pos ⟨h1.1, by omega⟩]
  · have : PV.sl (zh.toNat - zl.toNat) 1 (((L.map f).drop (zl.toNat * 1)).take ((zh.toNat - zl.toNat) * 1)) none = .sl ((L.drop zl.toNat).take (zh.toNat - zl.toNat)).length 1 (((L.drop zl.toNat).take (zh.toNat - zl.toNat)).map f) none :=
      sl_eq (by rw [List.length_take, List.length_drop]; omega) (by rw [Nat.mul_one, Nat.mul_one, List.map_take, List.map_drop])
    rw [this]; exact kn
theorem PWops.slcL {α : Type} {d e by_ n : Nat} {zl : Int} {kl : IntKind} {f : α → PV} {L : List α} {zr : List PV} {own : Option TypeId} {x lo : Operand} {t : TypeId} {ti : TyI} (hg : pguard ops σ o = some true) (hd : o.dst = some d) (hop : o.op = .slice t x (some lo) none none) (hx : pev σ x = .sl n 1 (L.map f) own) (hlo : pev σ lo = .val (.int kl zl)) (ht : T.at t = some ti) (hk : ti.kind = .slice e 1 by_ zr) (hb : σ.b (base + i) = none)
    (h1 : 0 ≤ zl ∧ zl ≤ n ∧ n = L.length) (kn : PWops P T ops base ok rest K (σ.put d (.sl (L.drop zl.toNat).length 1 ((L.drop zl.toNat).map f) none))) : PWops P T ops base ok ((i, o) :: rest) K σ := by
  refine PWops.slc zl.toNat n hg hd hop hx ht hk hb rfl ?_ ?_
  · simp only [Option.map_some, hlo, pbound]; rw [if_pos ⟨h1.1, by omega⟩]
  · have : PV.sl (n - zl.toNat) 1 (((L.map f).drop (zl.toNat * 1)).take ((n - zl.toNat) * 1)) none = .sl (L.drop zl.toNat).length 1 ((L.drop zl.toNat).map f) none :=
      sl_eq (by rw [List.length_drop]; omega) (by rw [Nat.mul_one, Nat.mul_one, List.take_of_length_le (by rw [List.length_drop, List.length_map]; omega), List.map_drop])
    rw [this]; exact kn
theorem PWops.slcH {α : Type} {d e by_ n : Nat} {zh : Int} {kh : IntKind} {f : α → PV} {L : List α} {zr : List PV} {own : Option TypeId} {x hi : Operand} {t : TypeId} {ti : TyI} (hg : pguard ops σ o = some true) (hd : o.dst = some d) (hop : o.op = .slice t x none (some hi) none) (hx : pev σ x = .sl n 1 (L.map f) own) (hhi : pev σ hi = .val (.int kh zh)) (ht : T.at t = some ti) (hk : ti.kind = .slice e 1 by_ zr) (hb : σ.b (base + i) = none)
    (h1 : 0 ≤ zh ∧ zh ≤ n ∧ n = L.length) (kn : PWops P T ops base ok rest K (σ.put d (.sl (L.take zh.toNat).length 1 ((L.take zh.toNat).map f) none))) : PWops P T ops base ok ((i, o) :: rest) K σ := by
  refine PWops.slc 0 zh.toNat hg hd hop hx ht hk hb ?_ rfl ?_
  · simp only [Option.map_some, hhi, pbound]; rw [if_pos ⟨h1.1, h1.2.1⟩]
  · have : PV.sl (zh.toNat - 0) 1 (((L.map f).drop (0 * 1)).take ((zh.toNat - 0) * 1)) none = .sl (L.take zh.toNat).length 1 ((L.take zh.toNat).map f) none :=
      sl_eq (by rw [List.length_take]; omega) (by rw [Nat.mul_one, Nat.zero_mul, List.drop_zero, Nat.sub_zero, List.map_take])
    rw [this]; exact kn
end

theorem take_getD {α : Type} {l : List α} {j : Nat} (x : α) (h : j < l.length) : l.take (j + 1) = l.take j ++ [l.getD j x] := by
  rw [List.take_add_one, getD_get x h]; rfl
instance : Inhabited ByteArray := ⟨ByteArray.empty⟩
instance : Inhabited PAttr := ⟨zeroA⟩
instance : Inhabited PDef := ⟨⟨ByteArray.empty, 0, 0, 0, []⟩⟩
end Go.Proofs.Ytnjopfjmepbpoaa

/- Pure states: whole operations in one step, whole regions in one step. -/
namespace Go.Proofs.Ytnjopfjmepbpoaa
set_option linter.unusedSimpArgs false
set_option linter.unusedVariables false
set_option linter.unnecessarySimpa false
open Go.RowKit

/-- Operations whose step wants something proved. -/
def isStop : Op → Bool
  | .binOp op _ _ _ _ => match op with
    | .eql | .neq | .lss | .leq | .gtr | .geq | .add | .sub | .mul | .quo | .rem => true
    | _ => false
  | .indexAddr .. => true
  | .slice .. => true
  | .call c => match c.callee with
    | .builtin .len => false
    | _ => true
  | _ => false

def applyE (σ : PS) : Option Nat → Option Eff → Option PS
  | some d, some ⟨v, none, none⟩ => match v with
    | .sl n k cs (some e) => match flist cs with
      | some l => some (σ.put d (.sl n k l (some e)))
      | none => none
    | v => match fval v with
      | some p => some (σ.put d p)
      | none => none
  | some d, some ⟨v, none, some s⟩ => match fval v, fval (σ.t s).bare with
    | some p, some q => some ((σ.put s q).put d p)
    | _, _ => none
  | some d, some ⟨v, some (id, cs), none⟩ => match fval v, flist cs with
    | some p, some l => some ((σ.setb id l).put d p)
    | _, _ => none
  | none, some ⟨_, some (id, cs), none⟩ => match flist cs with
    | some l => some (σ.setb id l)
    | none => none
  | none, some ⟨_, some (id, cs), some s⟩ => match flist cs, fval (σ.t s).bare with
    | some l, some q => some ((σ.put s q).setb id l)
    | _, _ => none
  | _, _ => none

/-- A move, a load of what is not one's own. -/
def quick (T : Tab) (σ : PS) (ok : Nat → Bool) : Op → Option PV
  | .move x => match fval (ownPV σ x) with
    | some p => if p.ownB then none else some p
    | none => none
  | .load t x => match pev σ x with
    | .ptr id off => match ok id, σ.b id, T.at t with
      | true, some bs, some ti => if ti.agg then none else match bs[off]? with
        | some c => match fval c with
          | some p => if p.ownB then none else some p
          | none => none
        | none => none
      | _, _, _ => none
    | _ => none
  | _ => none

noncomputable def stepF (T : Tab) (ops : Array Oper) (base : Nat) (ok : Nat → Nat → Bool) (i : Nat) (o : Oper) (σ : PS) : Option PS :=
  match pguard ops σ o with
  | some false => match o.dst with
    | some d => some (σ.put d (.tup []))
    | none => none
  | some true =>
    if isStop o.op then none
    else match σ.b (base + i) with
      | some _ => none
      | none => match o.dst, quick T σ (ok i) o.op with
        | some d, some p => some (σ.put d p)
        | _, _ => applyE σ o.dst (presE T (headB ops o.dst) (base + i) (σ.only (ok i)) o.op)
  | none => none

theorem flatMap_drop {α : Type} {f : α → List PV} {k : Nat} (hk : ∀ x, (f x).length = k) : ∀ (l : List α) (j : Nat), (l.flatMap f).drop (j * k) = (l.drop j).flatMap f
  | l, 0 => by simp
  | [], j + 1 => by simp
  | y :: l, j + 1 => by
    rw [List.flatMap_cons, List.drop_succ_cons, ← flatMap_drop hk l j, Nat.succ_mul, Nat.add_comm, ← List.drop_drop, List.drop_left' (hk y)]
theorem flatMap_take {α : Type} {f : α → List PV} {k : Nat} (hk : ∀ x, (f x).length = k) : ∀ (l : List α) (j : Nat), (l.flatMap f).take (j * k) = (l.take j).flatMap f
  | l, 0 => by simp
  | [], j + 1 => by simp
  | y :: l, j + 1 => by
    rw [List.flatMap_cons, List.take_succ_cons, List.flatMap_cons, ← flatMap_take hk l j, Nat.succ_mul, Nat.add_comm, List.take_add, List.take_left' (hk y), List.drop_left' (hk y)]

section
variable {P : Program} {T : Tab} {σ σ' : PS} {o : Oper} {i base : Nat} {ops : Array Oper} {ok : Nat → Nat → Bool} {rest : List (Nat × Oper)} {K : PS → Prop}

theorem PWops.applyE {E : Option Eff} (hg : pguard ops σ o = some true) (hE : presE T (headB ops o.dst) (base + i) (σ.only (ok i)) o.op = E) (hb : σ.b (base + i) = none) (h : Go.Proofs.Ytnjopfjmepbpoaa.applyE σ o.dst E = some σ') (k : PWops P T ops base ok rest K σ') : PWops P T ops base ok ((i, o) :: rest) K σ := by
  have fin : ∀ e, E = some e → σ.app o.dst e = σ' → PWops P T ops base ok ((i, o) :: rest) K σ := fun e he h => PWops.step hg (hE.trans he) hb (by rw [h]; exact k)
  unfold Go.Proofs.Ytnjopfjmepbpoaa.applyE at h
  split at h
  · rename_i d v hd
    split at h
    · rename_i n k' cs e
      split at h
      · rename_i l hl
        cases h
        exact fin _ rfl (by rw [hd, flist_eq hl]; rfl)
      · cases h
    · split at h
      · rename_i p hp
        cases h
        exact fin _ rfl (by rw [hd, fval_eq hp]; rfl)
      · cases h
  · rename_i d v s hd
    split at h
    · rename_i p q hp hq
      cases h
      exact fin _ rfl (by rw [hd, fval_eq hp]; simp only [PS.app, fval_eq hq]; rfl)
    · cases h
  · rename_i d v id cs hd
    split at h
    · rename_i p l hp hl
      cases h
      exact fin _ rfl (by rw [hd, fval_eq hp, flist_eq hl]; rfl)
    · cases h
  · rename_i v id cs hd
    split at h
    · rename_i l hl
      cases h
      exact fin _ rfl (by rw [hd, flist_eq hl]; rfl)
    · cases h
  · rename_i v id cs s hd
    split at h
    · rename_i l q hl hq
      cases h
      exact fin _ rfl (by rw [hd, flist_eq hl]; simp only [PS.app, fval_eq hq]; rfl)
    · cases h
  · cases h

theorem PWops.stepA (h : stepF T ops base ok i o σ = some σ') (k : PWops P T ops base ok rest K σ') : PWops P T ops base ok ((i, o) :: rest) K σ := by
  unfold stepF at h
  split at h
  · rename_i hg
    split at h
    · rename_i d hd
      cases h
      exact PWops.pass hg hd k
    · cases h
  · rename_i hg
    split at h
    · cases h
    · split at h
      · cases h
      · rename_i hb
        split at h
        · rename_i d p hd hq
          cases h
          unfold quick at hq
          split at hq
          · rename_i x hop
            split at hq
            · rename_i p' hp
              split at hq
              · cases hq
              · rename_i hn
                cases hq
                exact PWops.mv hop hg hd hp (by simpa using hn) hb k
            · cases hq
          · rename_i t x hop
            split at hq
            · rename_i id off hx
              split at hq
              · rename_i bs ti h1 h2 h3
                split at hq
                · cases hq
                · rename_i ha
                  split at hq
                  · rename_i c hc
                    split at hq
                    · rename_i p' hp
                      split at hq
                      · cases hq
                      · rename_i hn
                        cases hq
                        exact PWops.ldV hop hg hd hx (by simp only [PS.only, h1, if_true]; exact h2) hc h3 (by simpa using ha) hp (by simpa using hn) hb k
                    · cases hq
                  · cases hq
              · cases hq
            · cases hq
          · cases hq
        · exact PWops.applyE hg rfl hb h k
  · cases h

theorem PWops.doneI {l : List (Nat × Oper)} (h : l.isEmpty = true) (k : K σ) : PWops P T ops base ok l K σ := by
  cases l with
  | nil => exact k
  | cons x l => cases h
def isQuo : Op → Bool
  | .binOp .quo _ _ _ _ => true
  | _ => false
def isRem : Op → Bool
  | .binOp .rem _ _ _ _ => true
  | _ => false
/-- A remainder of what is not negative. -/
theorem PWops.remK {d : Nat} {x y : Int} (hk : isRem o.op = true) (hg : pguard ops σ o = some true) (hd : o.dst = some d) (hE : feff (presE T (headB ops o.dst) (base + i) (σ.only (ok i)) o.op) = some (.val (.int .i64 (x.tmod y)))) (h : 0 ≤ x ∧ 0 ≤ y) (hb : σ.b (base + i) = none) (k : PWops P T ops base ok rest K (σ.put d (.val (.int .i64 (x % y))))) : PWops P T ops base ok ((i, o) :: rest) K σ :=
  PWops.int _ hg hd hE (Int.tmod_eq_emod_of_nonneg h.1) hb k
/-- A quotient of what is not negative. -/
theorem PWops.quoK {d : Nat} {x y : Int} (hk : isQuo o.op = true) (hg : pguard ops σ o = some true) (hd : o.dst = some d) (hE : feff (presE T (headB ops o.dst) (base + i) (σ.only (ok i)) o.op) = some (.val (.int .i64 (IntKind.i64.wrap (x.tdiv y))))) (h : 0 ≤ x ∧ 0 < y ∧ x ≤ 9223372036854775807) (hb : σ.b (base + i) = none) (k : PWops P T ops base ok rest K (σ.put d (.val (.int .i64 (x / y))))) : PWops P T ops base ok ((i, o) :: rest) K σ := by
  have h1 : x.tdiv y = x / y := Int.tdiv_eq_ediv_of_nonneg h.1
  have h2 : 0 ≤ x / y := Int.ediv_nonneg h.1 (by omega)
  have h3 : x / y ≤ x := Int.ediv_le_self _ h.1
  exact PWops.int _ hg hd hE (by rw [h1, wrap64_id (by omega) (by omega)]) hb k
theorem PWops.idd {l : List (Nat × Oper)} (h : PWops P T ops base ok l K σ) : PWops P T ops base ok l K σ := h
theorem PW.idd {M : Nat} {c : Code} {Q : Exit → PS → Prop} (h : PW P M c Q σ) : PW P M c Q σ := h

/-- A part of a list of rows. -/
theorem PWops.slcRL {α : Type} {d e by_ n k : Nat} {zl : Int} {kl : IntKind} {f : α → List PV} {L : List α} {zr : List PV} {own : Option TypeId} {x lo : Operand} {t : TypeId} {ti : TyI} (hg : pguard ops σ o = some true) (hd : o.dst = some d) (hop : o.op = .slice t x (some lo) none none) (hx : pev σ x = .sl n k (L.flatMap f) own) (hlo : pev σ lo = .val (.int kl zl)) (ht : T.at t = some ti) (hk : ti.kind = .slice e k by_ zr) (hb : σ.b (base + i) = none)
    (hf : ∀ x, (f x).length = k) (h1 : 0 ≤ zl ∧ zl ≤ n ∧ n = L.length) (kn : PWops P T ops base ok rest K (σ.put d (.sl (L.drop zl.toNat).length k ((L.drop zl.toNat).flatMap f) none))) : PWops P T ops base ok ((i, o) :: rest) K σ := by
  refine PWops.slc zl.toNat n hg hd hop hx ht hk hb rfl ?_ ?_
  · simp only [Option.map_some, hlo, pbound]; rw [if_pos ⟨h1.1, by omega⟩]
  · have : PV.sl (n - zl.toNat) k (((L.flatMap f).drop (zl.toNat * k)).take ((n - zl.toNat) * k)) none = .sl (L.drop zl.toNat).length k ((L.drop zl.toNat).flatMap f) none := by
      refine sl_eq (by rw [List.length_drop]; omega) ?_
      rw [flatMap_drop hf, List.take_of_length_le (by rw [flatMap_len hf, List.length_drop, h1.2.2]; exact Nat.le_refl _)]
    rw [this]; exact kn
theorem PWops.slcRH {α : Type} {d e by_ n k : Nat} {zh : Int} {kh : IntKind} {f : α → List PV} {L : List α} {zr : List PV} {own : Option TypeId} {x hi : Operand} {t : TypeId} {ti : TyI} (hg : pguard ops σ o = some true) (hd : o.dst = some d) (hop : o.op = .slice t x none (some hi) none) (hx : pev σ x = .sl n k (L.flatMap f) own) (hhi : pev σ hi = .val (.int kh zh)) (ht : T.at t = some ti) (hk : ti.kind = .slice e k by_ zr) (hb : σ.b (base + i) = none)
    (hf : ∀ x, (f x).length = k) (h1 : 0 ≤ zh ∧ zh ≤ n ∧ n = L.length) (kn : PWops P T ops base ok rest K (σ.put d (.sl (L.take zh.toNat).length k ((L.take zh.toNat).flatMap f) none))) : PWops P T ops base ok ((i, o) :: rest) K σ := by
  refine PWops.slc 0 zh.toNat hg hd hop hx ht hk hb ?_ rfl ?_
  · simp only [Option.map_some, hhi, pbound]; rw [if_pos ⟨h1.1, h1.2.1⟩]
  · have : PV.sl (zh.toNat - 0) k (((L.flatMap f).drop (0 * k)).take ((zh.toNat - 0) * k)) none = .sl (L.take zh.toNat).length k ((L.take zh.toNat).flatMap f) none := by
      refine sl_eq (by rw [List.length_take]; omega) ?_
      rw [Nat.zero_mul, List.drop_zero, Nat.sub_zero, flatMap_take hf]
    rw [this]; exact kn
end

theorem Weak.sl {n k : Nat} {own : Option TypeId} {ps qs : List PV} (h : WeakL ps qs) : Weak (.sl n k ps own) (.sl n k qs none) := by
  refine ⟨fun Φ μ v hr => ?_, fun e => by simp [PV.ownB] at e⟩
  cases hr with
  | sl0 _ _ a cap hc =>
    cases h
    exact .sl0 _ _ _ _ hc
  | sl _ _ _ _ b off cap us h1 h2 h3 hp hr =>
    have hl := h.len
    refine .sl n k qs none b off cap us (by rw [← hl]; exact h1) h2 h3 (fun j hj => hp j (by rw [hl]; exact hj)) (fun j c hj => ?_)
    obtain ⟨p, hpj, hw⟩ := h.get j c hj
    exact hw.1 _ _ _ (hr j p hpj)
theorem WeakL.refl : ∀ (ps : List PV), WeakL ps ps
  | [] => .nil
  | p :: ps => .cons (.refl p) (WeakL.refl ps)
/-- Arguments told weaker than they are. -/
theorem PCalls.args {P : Program} {f : FuncId} {ps qs : List PV} {post : PV → Prop} (h : PCalls P f qs post) (hw : WeakL ps qs) : PCalls P f ps post := by
  refine ⟨h.1, fun Φ μ w vs himm hr => h.2 Φ μ w vs himm ⟨by rw [hr.1, hw.len], fun j c u hc hu => ?_⟩⟩
  obtain ⟨p, hp, hw'⟩ := hw.get j c hc
  exact hw'.1 _ _ _ (hr.2 j p u hp hu)
end Go.Proofs.Ytnjopfjmepbpoaa

/- Pure walks: Few. -/
namespace Go.Proofs.Ytnjopfjmepbpoaa
set_option linter.unusedSimpArgs false
set_option linter.unusedVariables false
set_option linter.unnecessarySimpa false
open Go.RowKit

def smallA (a : PAttr) : Bool := decide (a.name.size ≤ 300) && decide (a.s.size ≤ 300)
def fewB (e : PEntry) : Bool := (e.attrs.take 21).all smallA && (decide (e.vec.length ≤ 40) && decide (e.attrs.length ≤ 20))

def entCellsP (e : PEntry) : List PV := [pint e.id, pint e.ver, pint e.owner, pint e.filed, pint e.frm, pint e.to, pint e.born, pints e.vec, pattrs e.attrs]

theorem low_entCells (e : PEntry) : ∀ c ∈ entCellsP e, Low c := low_agg.1 ((low_pentry e).2 trivial)

theorem attr_cell {l : List PAttr} {k : Nat} {a : PAttr} (h : l[k]? = some a) : (l.flatMap pattrL)[k * 4 + 0]? = some (pstr a.name) ∧ (l.flatMap pattrL)[k * 4 + 1]? = some (pint a.kind) ∧ (l.flatMap pattrL)[k * 4 + 2]? = some (pint a.n) ∧ (l.flatMap pattrL)[k * 4 + 3]? = some (pstr a.s) :=
  ⟨flatMap_get (f := pattrL) (k := 4) (fun _ => rfl) h rfl, flatMap_get (f := pattrL) (k := 4) (fun _ => rfl) h rfl, flatMap_get (f := pattrL) (k := 4) (fun _ => rfl) h rfl, flatMap_get (f := pattrL) (k := 4) (fun _ => rfl) h rfl⟩

set_option maxRecDepth 10000 in
set_option maxHeartbeats 1000000 in
theorem pw_few (e : PEntry) (hl : e.attrs.length ≤ 20000000000000) (hv : e.vec.length ≤ 20000000000000) : PCalls Try.prog 9 [pentry e] (· = pbool (fewB e)) := by
  refine pcalls_of_pw typeTab_ok Try.func9 rfl (by kernel_rfl) (by (first | exact low_mapI | exact low_mapS | exact low_mapB | simp [low_val, low_nilsl, low_sl, low_ep, low_agg, low_tup, low_fn, low_pint, low_pstr, low_pbool, low_pints, low_pstrs, low_pbyte, low_pbytes, low_pattrs, low_pdefs, low_pschema, low_pentry])) (by simp [pentry, PV.ownB]) (by rw [Try.ntmps9]; simp) ?_
  rw [Try.ntmps9, Try.results9]
  (repeat (first | (with_reducible first | refine PW.seq ?_ | refine PW.block ?_ | refine PW.skip ?_ | refine PW.exit ?_ | refine PW.ret ?_ | refine thenP ?_ | refine thenP_exit ?_ | refine thenP_ret ?_ | refine blockP ?_ | refine blockP_exit ?_ | refine blockP_ret ?_ | refine loopP_exit ?_ | refine loopP_ret ?_) | ((with_reducible refine PWops.idd ?_) ; first | (first | refine PWops.stepA rfl ?_ | refine PWops.doneI rfl ?_ | refine PWops.boolK true rfl rfl rfl rfl (by (first | rfl | assumption | (simp only [decide_eq_true_eq, decide_eq_false_iff_not, bne_iff_ne, beq_iff_eq, beq_eq_false_iff_ne, bne_eq_false_iff_eq, ne_eq] ; omega))) rfl ?_ | refine PWops.boolK false rfl rfl rfl rfl (by (first | rfl | assumption | (simp only [decide_eq_true_eq, decide_eq_false_iff_not, bne_iff_ne, beq_iff_eq, beq_eq_false_iff_ne, bne_eq_false_iff_eq, ne_eq] ; omega))) rfl ?_ | refine PWops.fitsK rfl rfl rfl rfl (by omega) (by omega) rfl ?_ | refine PWops.remK rfl rfl rfl rfl (by omega) rfl ?_ | refine PWops.quoK rfl rfl rfl rfl (by omega) rfl ?_ | refine PWops.app rfl rfl rfl rfl rfl rfl rfl (by omega) (by omega) (by first | rfl | exact one_pint _ | exact one_pstr _ | exact one_pbyte _ | exact one_pattrs _) ?_ | refine PWops.app0 rfl rfl rfl rfl rfl rfl rfl (by omega) (by omega) (by first | rfl | exact one_pint _ | exact one_pstr _ | exact one_pbyte _ | exact one_pattrs _) ?_ | refine PWops.idx1 rfl rfl rfl rfl rfl rfl rfl rfl (by omega) ?_ | refine PWops.idx rfl rfl rfl rfl rfl rfl rfl rfl (by omega) ?_ | refine PWops.ld rfl rfl rfl rfl rfl rfl rfl (by assumption) rfl ?_ | refine PWops.ldA rfl rfl rfl rfl rfl rfl (by omega) (by assumption) ?_ | refine PWops.str rfl rfl rfl rfl rfl rfl rfl rfl rfl rfl rfl ?_) | (first | (refine PWops.call rfl rfl rfl (by assumption) ?_) | refine PWops.idxZ1 rfl rfl rfl rfl rfl rfl rfl rfl (by omega) ?_ | refine PWops.idxZ rfl rfl rfl rfl rfl rfl rfl rfl (by omega) ?_ | refine PWops.ld rfl rfl rfl rfl rfl rfl rfl rfl rfl ?_ | refine PWops.slcL rfl rfl rfl rfl rfl rfl rfl rfl (by omega) ?_ | refine PWops.slcH rfl rfl rfl rfl rfl rfl rfl rfl (by omega) ?_ | refine PWops.slcRL rfl rfl rfl rfl rfl rfl rfl rfl (by intro; rfl) (by omega) ?_ | refine PWops.slcRH rfl rfl rfl rfl rfl rfl rfl rfl (by intro; rfl) (by omega) ?_ | refine PWops.slcM rfl rfl rfl rfl rfl rfl rfl rfl rfl (by omega) ?_ | refine PWops.ldM rfl rfl rfl rfl rfl rfl rfl (by omega) rfl ?_ | refine PWops.ldR rfl rfl rfl rfl rfl rfl rfl (by intro; rfl) (by omega) rfl rfl ?_ | refine PWops.ldRA rfl rfl rfl rfl rfl rfl (by intro; rfl) (by omega) rfl ?_)) | (first | ((with_reducible refine PW.idd ?_) ; (first | refine PW.region typeTab_ok (by kernel_rfl) ?_ | refine PW.draw typeTab_ok (by kernel_rfl) (by kernel_rfl) (by kernel_rfl) ?_ | refine PW.condT rfl ?_ | refine PW.condF rfl ?_ | refine blockP_other (by decide) ?_)) | with_reducible refine blockP_other (by decide) ?_)))
  refine PW.loop (fun k : Nat => (((bot.setb 0 (entCellsP e)).put 1 (.ptr 0 0)).put 2 (pbool false)).put 3 (pint k)) (fun k => k ≤ e.attrs.length ∧ k ≤ 21 ∧ (e.attrs.take k).all smallA = true) (fun k => e.attrs.length - k) 0 ⟨by omega, by omega, by simp⟩ ?_ ?_
  · (exact Sub.drop (by (repeat (first | exact bot_b | with_reducible refine put_b ?_ | refine setb_b ?_ rfl))) (by (repeat (first | exact bot_c | with_reducible refine put_c ?_ | with_reducible refine setb_c ?_ (by first | assumption | exact hlow _ | (first | exact low_mapI | exact low_mapS | exact low_mapB | simp [low_val, low_nilsl, low_sl, low_ep, low_agg, low_tup, low_fn, low_pint, low_pstr, low_pbool, low_pints, low_pstrs, low_pbyte, low_pbytes, low_pattrs, low_pdefs, low_pschema, low_pentry]) | exact low_entCells _ | exact low_schCells _ | exact low_pdefL _ | exact low_pattrL _)))) (by (repeat (first | exact bot_l | with_reducible refine setb_l ?_ | with_reducible refine put_l ?_ (by first | (left; (first | exact low_mapI | exact low_mapS | exact low_mapB | simp [low_val, low_nilsl, low_sl, low_ep, low_agg, low_tup, low_fn, low_pint, low_pstr, low_pbool, low_pints, low_pstrs, low_pbyte, low_pbytes, low_pattrs, low_pdefs, low_pschema, low_pentry])) | exact .inr ⟨_, _, rfl, (by simp [PS.setb, PS.put, upd_if])⟩)))) (by (repeat (first | exact sub_bot | with_reducible refine setb_t ?_ | refine sub_put ?_ (.inl rfl) | refine sub_put ?_ (.inr (.inl rfl)) | refine sub_put ?_ (.inr (.inr ⟨_, _, rfl, rfl⟩))))))
  · rintro k ⟨hk, hk2, hall⟩
    by_cases hlt : k < e.attrs.length
    · by_cases h20 : k ≤ 20
      · obtain ⟨a, ha⟩ := ints_get e.attrs k hlt
        obtain ⟨c0, c1, c2, c3⟩ := attr_cell ha
        have hbad : smallA a = false → fewB e = false := by
          intro hs
          have : (e.attrs.take 21).all smallA = false := by
            rw [List.all_eq_false]
            exact ⟨a, by rw [List.mem_take_iff_getElem]; obtain ⟨h3, h4⟩ := List.getElem?_eq_some_iff.1 ha; exact ⟨k, by omega, h4⟩, by simp [hs]⟩
          simp [fewB, this]
        by_cases h1 : 300 < a.name.size
        · (repeat (first | (with_reducible first | refine PW.seq ?_ | refine PW.block ?_ | refine PW.skip ?_ | refine PW.exit ?_ | refine PW.ret ?_ | refine thenP ?_ | refine thenP_exit ?_ | refine thenP_ret ?_ | refine blockP ?_ | refine blockP_exit ?_ | refine blockP_ret ?_ | refine loopP_exit ?_ | refine loopP_ret ?_) | ((with_reducible refine PWops.idd ?_) ; first | (first | refine PWops.stepA rfl ?_ | refine PWops.doneI rfl ?_ | refine PWops.boolK true rfl rfl rfl rfl (by (first | rfl | assumption | (simp only [decide_eq_true_eq, decide_eq_false_iff_not, bne_iff_ne, beq_iff_eq, beq_eq_false_iff_ne, bne_eq_false_iff_eq, ne_eq] ; omega))) rfl ?_ | refine PWops.boolK false rfl rfl rfl rfl (by (first | rfl | assumption | (simp only [decide_eq_true_eq, decide_eq_false_iff_not, bne_iff_ne, beq_iff_eq, beq_eq_false_iff_ne, bne_eq_false_iff_eq, ne_eq] ; omega))) rfl ?_ | refine PWops.fitsK rfl rfl rfl rfl (by omega) (by omega) rfl ?_ | refine PWops.remK rfl rfl rfl rfl (by omega) rfl ?_ | refine PWops.quoK rfl rfl rfl rfl (by omega) rfl ?_ | refine PWops.app rfl rfl rfl rfl rfl rfl rfl (by omega) (by omega) (by first | rfl | exact one_pint _ | exact one_pstr _ | exact one_pbyte _ | exact one_pattrs _) ?_ | refine PWops.app0 rfl rfl rfl rfl rfl rfl rfl (by omega) (by omega) (by first | rfl | exact one_pint _ | exact one_pstr _ | exact one_pbyte _ | exact one_pattrs _) ?_ | refine PWops.idx1 rfl rfl rfl rfl rfl rfl rfl rfl (by omega) ?_ | refine PWops.idx rfl rfl rfl rfl rfl rfl rfl rfl (by omega) ?_ | refine PWops.ld rfl rfl rfl rfl rfl rfl rfl (by assumption) rfl ?_ | refine PWops.ldA rfl rfl rfl rfl rfl rfl (by omega) (by assumption) ?_ | refine PWops.str rfl rfl rfl rfl rfl rfl rfl rfl rfl rfl rfl ?_) | (first | (refine PWops.call rfl rfl rfl (by assumption) ?_) | refine PWops.idxZ1 rfl rfl rfl rfl rfl rfl rfl rfl (by omega) ?_ | refine PWops.idxZ rfl rfl rfl rfl rfl rfl rfl rfl (by omega) ?_ | refine PWops.ld rfl rfl rfl rfl rfl rfl rfl rfl rfl ?_ | refine PWops.slcL rfl rfl rfl rfl rfl rfl rfl rfl (by omega) ?_ | refine PWops.slcH rfl rfl rfl rfl rfl rfl rfl rfl (by omega) ?_ | refine PWops.slcRL rfl rfl rfl rfl rfl rfl rfl rfl (by intro; rfl) (by omega) ?_ | refine PWops.slcRH rfl rfl rfl rfl rfl rfl rfl rfl (by intro; rfl) (by omega) ?_ | refine PWops.slcM rfl rfl rfl rfl rfl rfl rfl rfl rfl (by omega) ?_ | refine PWops.ldM rfl rfl rfl rfl rfl rfl rfl (by omega) rfl ?_ | refine PWops.ldR rfl rfl rfl rfl rfl rfl rfl (by intro; rfl) (by omega) rfl rfl ?_ | refine PWops.ldRA rfl rfl rfl rfl rfl rfl (by intro; rfl) (by omega) rfl ?_)) | (first | ((with_reducible refine PW.idd ?_) ; (first | refine PW.region typeTab_ok (by kernel_rfl) ?_ | refine PW.draw typeTab_ok (by kernel_rfl) (by kernel_rfl) (by kernel_rfl) ?_ | refine PW.condT rfl ?_ | refine PW.condF rfl ?_ | refine blockP_other (by decide) ?_)) | with_reducible refine blockP_other (by decide) ?_)))
          refine retP rfl (by (first | exact low_mapI | exact low_mapS | exact low_mapB | simp [low_val, low_nilsl, low_sl, low_ep, low_agg, low_tup, low_fn, low_pint, low_pstr, low_pbool, low_pints, low_pstrs, low_pbyte, low_pbytes, low_pattrs, low_pdefs, low_pschema, low_pentry])) ?_
          rw [hbad (by simp [smallA]; omega)]; rfl
        · by_cases h2 : 300 < a.s.size
          · (repeat (first | (with_reducible first | refine PW.seq ?_ | refine PW.block ?_ | refine PW.skip ?_ | refine PW.exit ?_ | refine PW.ret ?_ | refine thenP ?_ | refine thenP_exit ?_ | refine thenP_ret ?_ | refine blockP ?_ | refine blockP_exit ?_ | refine blockP_ret ?_ | refine loopP_exit ?_ | refine loopP_ret ?_) | ((with_reducible refine PWops.idd ?_) ; first | (first | refine PWops.stepA rfl ?_ | refine PWops.doneI rfl ?_ | refine PWops.boolK true rfl rfl rfl rfl (by (first | rfl | assumption | (simp only [decide_eq_true_eq, decide_eq_false_iff_not, bne_iff_ne, beq_iff_eq, beq_eq_false_iff_ne, bne_eq_false_iff_eq, ne_eq] ; omega))) rfl ?_ | refine PWops.boolK false rfl rfl rfl rfl (by (first | rfl | assumption | (simp only [decide_eq_true_eq, decide_eq_false_iff_not, bne_iff_ne, beq_iff_eq, beq_eq_false_iff_ne, bne_eq_false_iff_eq, ne_eq] ; omega))) rfl ?_ | refine PWops.fitsK rfl rfl rfl rfl (by omega) (by omega) rfl ?_ | refine PWops.remK rfl rfl rfl rfl (by omega) rfl ?_ | refine PWops.quoK rfl rfl rfl rfl (by omega) rfl ?_ | refine PWops.app rfl rfl rfl rfl rfl rfl rfl (by omega) (by omega) (by first | rfl | exact one_pint _ | exact one_pstr _ | exact one_pbyte _ | exact one_pattrs _) ?_ | refine PWops.app0 rfl rfl rfl rfl rfl rfl rfl (by omega) (by omega) (by first | rfl | exact one_pint _ | exact one_pstr _ | exact one_pbyte _ | exact one_pattrs _) ?_ | refine PWops.idx1 rfl rfl rfl rfl rfl rfl rfl rfl (by omega) ?_ | refine PWops.idx rfl rfl rfl rfl rfl rfl rfl rfl (by omega) ?_ | refine PWops.ld rfl rfl rfl rfl rfl rfl rfl (by assumption) rfl ?_ | refine PWops.ldA rfl rfl rfl rfl rfl rfl (by omega) (by assumption) ?_ | refine PWops.str rfl rfl rfl rfl rfl rfl rfl rfl rfl rfl rfl ?_) | (first | (refine PWops.call rfl rfl rfl (by assumption) ?_) | refine PWops.idxZ1 rfl rfl rfl rfl rfl rfl rfl rfl (by omega) ?_ | refine PWops.idxZ rfl rfl rfl rfl rfl rfl rfl rfl (by omega) ?_ | refine PWops.ld rfl rfl rfl rfl rfl rfl rfl rfl rfl ?_ | refine PWops.slcL rfl rfl rfl rfl rfl rfl rfl rfl (by omega) ?_ | refine PWops.slcH rfl rfl rfl rfl rfl rfl rfl rfl (by omega) ?_ | refine PWops.slcRL rfl rfl rfl rfl rfl rfl rfl rfl (by intro; rfl) (by omega) ?_ | refine PWops.slcRH rfl rfl rfl rfl rfl rfl rfl rfl (by intro; rfl) (by omega) ?_ | refine PWops.slcM rfl rfl rfl rfl rfl rfl rfl rfl rfl (by omega) ?_ | refine PWops.ldM rfl rfl rfl rfl rfl rfl rfl (by omega) rfl ?_ | refine PWops.ldR rfl rfl rfl rfl rfl rfl rfl (by intro; rfl) (by omega) rfl rfl ?_ | refine PWops.ldRA rfl rfl rfl rfl rfl rfl (by intro; rfl) (by omega) rfl ?_)) | (first | ((with_reducible refine PW.idd ?_) ; (first | refine PW.region typeTab_ok (by kernel_rfl) ?_ | refine PW.draw typeTab_ok (by kernel_rfl) (by kernel_rfl) (by kernel_rfl) ?_ | refine PW.condT rfl ?_ | refine PW.condF rfl ?_ | refine blockP_other (by decide) ?_)) | with_reducible refine blockP_other (by decide) ?_)))
            refine retP rfl (by (first | exact low_mapI | exact low_mapS | exact low_mapB | simp [low_val, low_nilsl, low_sl, low_ep, low_agg, low_tup, low_fn, low_pint, low_pstr, low_pbool, low_pints, low_pstrs, low_pbyte, low_pbytes, low_pattrs, low_pdefs, low_pschema, low_pentry])) ?_
            rw [hbad (by simp [smallA]; omega)]; rfl
          · (repeat (first | (with_reducible first | refine PW.seq ?_ | refine PW.block ?_ | refine PW.skip ?_ | refine PW.exit ?_ | refine PW.ret ?_ | refine thenP ?_ | refine thenP_exit ?_ | refine thenP_ret ?_ | refine blockP ?_ | refine blockP_exit ?_ | refine blockP_ret ?_ | refine loopP_exit ?_ | refine loopP_ret ?_) | ((with_reducible refine PWops.idd ?_) ; first | (first | refine PWops.stepA rfl ?_ | refine PWops.doneI rfl ?_ | refine PWops.boolK true rfl rfl rfl rfl (by (first | rfl | assumption | (simp only [decide_eq_true_eq, decide_eq_false_iff_not, bne_iff_ne, beq_iff_eq, beq_eq_false_iff_ne, bne_eq_false_iff_eq, ne_eq] ; omega))) rfl ?_ | refine PWops.boolK false rfl rfl rfl rfl (by (first | rfl | assumption | (simp only [decide_eq_true_eq, decide_eq_false_iff_not, bne_iff_ne, beq_iff_eq, beq_eq_false_iff_ne, bne_eq_false_iff_eq, ne_eq] ; omega))) rfl ?_ | refine PWops.fitsK rfl rfl rfl rfl (by omega) (by omega) rfl ?_ | refine PWops.remK rfl rfl rfl rfl (by omega) rfl ?_ | refine PWops.quoK rfl rfl rfl rfl (by omega) rfl ?_ | refine PWops.app rfl rfl rfl rfl rfl rfl rfl (by omega) (by omega) (by first | rfl | exact one_pint _ | exact one_pstr _ | exact one_pbyte _ | exact one_pattrs _) ?_ | refine PWops.app0 rfl rfl rfl rfl rfl rfl rfl (by omega) (by omega) (by first | rfl | exact one_pint _ | exact one_pstr _ | exact one_pbyte _ | exact one_pattrs _) ?_ | refine PWops.idx1 rfl rfl rfl rfl rfl rfl rfl rfl (by omega) ?_ | refine PWops.idx rfl rfl rfl rfl rfl rfl rfl rfl (by omega) ?_ | refine PWops.ld rfl rfl rfl rfl rfl rfl rfl (by assumption) rfl ?_ | refine PWops.ldA rfl rfl rfl rfl rfl rfl (by omega) (by assumption) ?_ | refine PWops.str rfl rfl rfl rfl rfl rfl rfl rfl rfl rfl rfl ?_) | (first | (refine PWops.call rfl rfl rfl (by assumption) ?_) | refine PWops.idxZ1 rfl rfl rfl rfl rfl rfl rfl rfl (by omega) ?_ | refine PWops.idxZ rfl rfl rfl rfl rfl rfl rfl rfl (by omega) ?_ | refine PWops.ld rfl rfl rfl rfl rfl rfl rfl rfl rfl ?_ | refine PWops.slcL rfl rfl rfl rfl rfl rfl rfl rfl (by omega) ?_ | refine PWops.slcH rfl rfl rfl rfl rfl rfl rfl rfl (by omega) ?_ | refine PWops.slcRL rfl rfl rfl rfl rfl rfl rfl rfl (by intro; rfl) (by omega) ?_ | refine PWops.slcRH rfl rfl rfl rfl rfl rfl rfl rfl (by intro; rfl) (by omega) ?_ | refine PWops.slcM rfl rfl rfl rfl rfl rfl rfl rfl rfl (by omega) ?_ | refine PWops.ldM rfl rfl rfl rfl rfl rfl rfl (by omega) rfl ?_ | refine PWops.ldR rfl rfl rfl rfl rfl rfl rfl (by intro; rfl) (by omega) rfl rfl ?_ | refine PWops.ldRA rfl rfl rfl rfl rfl rfl (by intro; rfl) (by omega) rfl ?_)) | (first | ((with_reducible refine PW.idd ?_) ; (first | refine PW.region typeTab_ok (by kernel_rfl) ?_ | refine PW.draw typeTab_ok (by kernel_rfl) (by kernel_rfl) (by kernel_rfl) ?_ | refine PW.condT rfl ?_ | refine PW.condF rfl ?_ | refine blockP_other (by decide) ?_)) | with_reducible refine blockP_other (by decide) ?_)))
            refine loopP (k + 1) ⟨by omega, by omega, ?_⟩ (by omega) ?_
            · rw [List.take_add_one, List.all_append, hall, ha]
              simp [smallA]; omega
            · (exact Sub.drop (by (repeat (first | exact bot_b | with_reducible refine put_b ?_ | refine setb_b ?_ rfl))) (by (repeat (first | exact bot_c | with_reducible refine put_c ?_ | with_reducible refine setb_c ?_ (by first | assumption | exact hlow _ | (first | exact low_mapI | exact low_mapS | exact low_mapB | simp [low_val, low_nilsl, low_sl, low_ep, low_agg, low_tup, low_fn, low_pint, low_pstr, low_pbool, low_pints, low_pstrs, low_pbyte, low_pbytes, low_pattrs, low_pdefs, low_pschema, low_pentry]) | exact low_entCells _ | exact low_schCells _ | exact low_pdefL _ | exact low_pattrL _)))) (by (repeat (first | exact bot_l | with_reducible refine setb_l ?_ | with_reducible refine put_l ?_ (by first | (left; (first | exact low_mapI | exact low_mapS | exact low_mapB | simp [low_val, low_nilsl, low_sl, low_ep, low_agg, low_tup, low_fn, low_pint, low_pstr, low_pbool, low_pints, low_pstrs, low_pbyte, low_pbytes, low_pattrs, low_pdefs, low_pschema, low_pentry])) | exact .inr ⟨_, _, rfl, (by simp [PS.setb, PS.put, upd_if])⟩)))) (by (repeat (first | exact sub_bot | with_reducible refine setb_t ?_ | refine sub_put ?_ (.inl rfl) | refine sub_put ?_ (.inr (.inl rfl)) | refine sub_put ?_ (.inr (.inr ⟨_, _, rfl, rfl⟩))))))
      · have e21 : (e.attrs.take 21).all smallA = true := by rw [show k = 21 by omega] at hall; exact hall
        have hr : fewB e = false := by simp [fewB]; omega
        by_cases hv40 : e.vec.length ≤ 40
        · have : ¬ e.attrs.length ≤ 20 := by omega
          (repeat (first | (with_reducible first | refine PW.seq ?_ | refine PW.block ?_ | refine PW.skip ?_ | refine PW.exit ?_ | refine PW.ret ?_ | refine thenP ?_ | refine thenP_exit ?_ | refine thenP_ret ?_ | refine blockP ?_ | refine blockP_exit ?_ | refine blockP_ret ?_ | refine loopP_exit ?_ | refine loopP_ret ?_) | ((with_reducible refine PWops.idd ?_) ; first | (first | refine PWops.stepA rfl ?_ | refine PWops.doneI rfl ?_ | refine PWops.boolK true rfl rfl rfl rfl (by (first | rfl | assumption | (simp only [decide_eq_true_eq, decide_eq_false_iff_not, bne_iff_ne, beq_iff_eq, beq_eq_false_iff_ne, bne_eq_false_iff_eq, ne_eq] ; omega))) rfl ?_ | refine PWops.boolK false rfl rfl rfl rfl (by (first | rfl | assumption | (simp only [decide_eq_true_eq, decide_eq_false_iff_not, bne_iff_ne, beq_iff_eq, beq_eq_false_iff_ne, bne_eq_false_iff_eq, ne_eq] ; omega))) rfl ?_ | refine PWops.fitsK rfl rfl rfl rfl (by omega) (by omega) rfl ?_ | refine PWops.remK rfl rfl rfl rfl (by omega) rfl ?_ | refine PWops.quoK rfl rfl rfl rfl (by omega) rfl ?_ | refine PWops.app rfl rfl rfl rfl rfl rfl rfl (by omega) (by omega) (by first | rfl | exact one_pint _ | exact one_pstr _ | exact one_pbyte _ | exact one_pattrs _) ?_ | refine PWops.app0 rfl rfl rfl rfl rfl rfl rfl (by omega) (by omega) (by first | rfl | exact one_pint _ | exact one_pstr _ | exact one_pbyte _ | exact one_pattrs _) ?_ | refine PWops.idx1 rfl rfl rfl rfl rfl rfl rfl rfl (by omega) ?_ | refine PWops.idx rfl rfl rfl rfl rfl rfl rfl rfl (by omega) ?_ | refine PWops.ld rfl rfl rfl rfl rfl rfl rfl (by assumption) rfl ?_ | refine PWops.ldA rfl rfl rfl rfl rfl rfl (by omega) (by assumption) ?_ | refine PWops.str rfl rfl rfl rfl rfl rfl rfl rfl rfl rfl rfl ?_) | (first | (refine PWops.call rfl rfl rfl (by assumption) ?_) | refine PWops.idxZ1 rfl rfl rfl rfl rfl rfl rfl rfl (by omega) ?_ | refine PWops.idxZ rfl rfl rfl rfl rfl rfl rfl rfl (by omega) ?_ | refine PWops.ld rfl rfl rfl rfl rfl rfl rfl rfl rfl ?_ | refine PWops.slcL rfl rfl rfl rfl rfl rfl rfl rfl (by omega) ?_ | refine PWops.slcH rfl rfl rfl rfl rfl rfl rfl rfl (by omega) ?_ | refine PWops.slcRL rfl rfl rfl rfl rfl rfl rfl rfl (by intro; rfl) (by omega) ?_ | refine PWops.slcRH rfl rfl rfl rfl rfl rfl rfl rfl (by intro; rfl) (by omega) ?_ | refine PWops.slcM rfl rfl rfl rfl rfl rfl rfl rfl rfl (by omega) ?_ | refine PWops.ldM rfl rfl rfl rfl rfl rfl rfl (by omega) rfl ?_ | refine PWops.ldR rfl rfl rfl rfl rfl rfl rfl (by intro; rfl) (by omega) rfl rfl ?_ | refine PWops.ldRA rfl rfl rfl rfl rfl rfl (by intro; rfl) (by omega) rfl ?_)) | (first | ((with_reducible refine PW.idd ?_) ; (first | refine PW.region typeTab_ok (by kernel_rfl) ?_ | refine PW.draw typeTab_ok (by kernel_rfl) (by kernel_rfl) (by kernel_rfl) ?_ | refine PW.condT rfl ?_ | refine PW.condF rfl ?_ | refine blockP_other (by decide) ?_)) | with_reducible refine blockP_other (by decide) ?_)))
          refine retP rfl (by (first | exact low_mapI | exact low_mapS | exact low_mapB | simp [low_val, low_nilsl, low_sl, low_ep, low_agg, low_tup, low_fn, low_pint, low_pstr, low_pbool, low_pints, low_pstrs, low_pbyte, low_pbytes, low_pattrs, low_pdefs, low_pschema, low_pentry])) ?_
          rw [hr]; rfl
        · (repeat (first | (with_reducible first | refine PW.seq ?_ | refine PW.block ?_ | refine PW.skip ?_ | refine PW.exit ?_ | refine PW.ret ?_ | refine thenP ?_ | refine thenP_exit ?_ | refine thenP_ret ?_ | refine blockP ?_ | refine blockP_exit ?_ | refine blockP_ret ?_ | refine loopP_exit ?_ | refine loopP_ret ?_) | ((with_reducible refine PWops.idd ?_) ; first | (first | refine PWops.stepA rfl ?_ | refine PWops.doneI rfl ?_ | refine PWops.boolK true rfl rfl rfl rfl (by (first | rfl | assumption | (simp only [decide_eq_true_eq, decide_eq_false_iff_not, bne_iff_ne, beq_iff_eq, beq_eq_false_iff_ne, bne_eq_false_iff_eq, ne_eq] ; omega))) rfl ?_ | refine PWops.boolK false rfl rfl rfl rfl (by (first | rfl | assumption | (simp only [decide_eq_true_eq, decide_eq_false_iff_not, bne_iff_ne, beq_iff_eq, beq_eq_false_iff_ne, bne_eq_false_iff_eq, ne_eq] ; omega))) rfl ?_ | refine PWops.fitsK rfl rfl rfl rfl (by omega) (by omega) rfl ?_ | refine PWops.remK rfl rfl rfl rfl (by omega) rfl ?_ | refine PWops.quoK rfl rfl rfl rfl (by omega) rfl ?_ | refine PWops.app rfl rfl rfl rfl rfl rfl rfl (by omega) (by omega) (by first | rfl | exact one_pint _ | exact one_pstr _ | exact one_pbyte _ | exact one_pattrs _) ?_ | refine PWops.app0 rfl rfl rfl rfl rfl rfl rfl (by omega) (by omega) (by first | rfl | exact one_pint _ | exact one_pstr _ | exact one_pbyte _ | exact one_pattrs _) ?_ | refine PWops.idx1 rfl rfl rfl rfl rfl rfl rfl rfl (by omega) ?_ | refine PWops.idx rfl rfl rfl rfl rfl rfl rfl rfl (by omega) ?_ | refine PWops.ld rfl rfl rfl rfl rfl rfl rfl (by assumption) rfl ?_ | refine PWops.ldA rfl rfl rfl rfl rfl rfl (by omega) (by assumption) ?_ | refine PWops.str rfl rfl rfl rfl rfl rfl rfl rfl rfl rfl rfl ?_) | (first | (refine PWops.call rfl rfl rfl (by assumption) ?_) | refine PWops.idxZ1 rfl rfl rfl rfl rfl rfl rfl rfl (by omega) ?_ | refine PWops.idxZ rfl rfl rfl rfl rfl rfl rfl rfl (by omega) ?_ | refine PWops.ld rfl rfl rfl rfl rfl rfl rfl rfl rfl ?_ | refine PWops.slcL rfl rfl rfl rfl rfl rfl rfl rfl (by omega) ?_ | refine PWops.slcH rfl rfl rfl rfl rfl rfl rfl rfl (by omega) ?_ | refine PWops.slcRL rfl rfl rfl rfl rfl rfl rfl rfl (by intro; rfl) (by omega) ?_ | refine PWops.slcRH rfl rfl rfl rfl rfl rfl rfl rfl (by intro; rfl) (by omega) ?_ | refine PWops.slcM rfl rfl rfl rfl rfl rfl rfl rfl rfl (by omega) ?_ | refine PWops.ldM rfl rfl rfl rfl rfl rfl rfl (by omega) rfl ?_ | refine PWops.ldR rfl rfl rfl rfl rfl rfl rfl (by intro; rfl) (by omega) rfl rfl ?_ | refine PWops.ldRA rfl rfl rfl rfl rfl rfl (by intro; rfl) (by omega) rfl ?_)) | (first | ((with_reducible refine PW.idd ?_) ; (first | refine PW.region typeTab_ok (by kernel_rfl) ?_ | refine PW.draw typeTab_ok (by kernel_rfl) (by kernel_rfl) (by kernel_rfl) ?_ | refine PW.condT rfl ?_ | refine PW.condF rfl ?_ | refine blockP_other (by decide) ?_)) | with_reducible refine blockP_other (by decide) ?_)))
          refine retP rfl (by (first | exact low_mapI | exact low_mapS | exact low_mapB | simp [low_val, low_nilsl, low_sl, low_ep, low_agg, low_tup, low_fn, low_pint, low_pstr, low_pbool, low_pints, low_pstrs, low_pbyte, low_pbytes, low_pattrs, low_pdefs, low_pschema, low_pentry])) ?_
          rw [hr]; rfl
    · have e21 : (e.attrs.take 21).all smallA = true := by
        rw [List.take_of_length_le (by omega)] at hall
        rw [List.all_eq_true] at hall ⊢
        exact fun x hx => hall x (List.mem_of_mem_take hx)
      by_cases hv40 : e.vec.length ≤ 40
      · by_cases ha20 : e.attrs.length ≤ 20
        · (repeat (first | (with_reducible first | refine PW.seq ?_ | refine PW.block ?_ | refine PW.skip ?_ | refine PW.exit ?_ | refine PW.ret ?_ | refine thenP ?_ | refine thenP_exit ?_ | refine thenP_ret ?_ | refine blockP ?_ | refine blockP_exit ?_ | refine blockP_ret ?_ | refine loopP_exit ?_ | refine loopP_ret ?_) | ((with_reducible refine PWops.idd ?_) ; first | (first | refine PWops.stepA rfl ?_ | refine PWops.doneI rfl ?_ | refine PWops.boolK true rfl rfl rfl rfl (by (first | rfl | assumption | (simp only [decide_eq_true_eq, decide_eq_false_iff_not, bne_iff_ne, beq_iff_eq, beq_eq_false_iff_ne, bne_eq_false_iff_eq, ne_eq] ; omega))) rfl ?_ | refine PWops.boolK false rfl rfl rfl rfl (by (first | rfl | assumption | (simp only [decide_eq_true_eq, decide_eq_false_iff_not, bne_iff_ne, beq_iff_eq, beq_eq_false_iff_ne, bne_eq_false_iff_eq, ne_eq] ; omega))) rfl ?_ | refine PWops.fitsK rfl rfl rfl rfl (by omega) (by omega) rfl ?_ | refine PWops.remK rfl rfl rfl rfl (by omega) rfl ?_ | refine PWops.quoK rfl rfl rfl rfl (by omega) rfl ?_ | refine PWops.app rfl rfl rfl rfl rfl rfl rfl (by omega) (by omega) (by first | rfl | exact one_pint _ | exact one_pstr _ | exact one_pbyte _ | exact one_pattrs _) ?_ | refine PWops.app0 rfl rfl rfl rfl rfl rfl rfl (by omega) (by omega) (by first | rfl | exact one_pint _ | exact one_pstr _ | exact one_pbyte _ | exact one_pattrs _) ?_ | refine PWops.idx1 rfl rfl rfl rfl rfl rfl rfl rfl (by omega) ?_ | refine PWops.idx rfl rfl rfl rfl rfl rfl rfl rfl (by omega) ?_ | refine PWops.ld rfl rfl rfl rfl rfl rfl rfl (by assumption) rfl ?_ | refine PWops.ldA rfl rfl rfl rfl rfl rfl (by omega) (by assumption) ?_ | refine PWops.str rfl rfl rfl rfl rfl rfl rfl rfl rfl rfl rfl ?_) | (first | (refine PWops.call rfl rfl rfl (by assumption) ?_) | refine PWops.idxZ1 rfl rfl rfl rfl rfl rfl rfl rfl (by omega) ?_ | refine PWops.idxZ rfl rfl rfl rfl rfl rfl rfl rfl (by omega) ?_ | refine PWops.ld rfl rfl rfl rfl rfl rfl rfl rfl rfl ?_ | refine PWops.slcL rfl rfl rfl rfl rfl rfl rfl rfl (by omega) ?_ | refine PWops.slcH rfl rfl rfl rfl rfl rfl rfl rfl (by omega) ?_ | refine PWops.slcRL rfl rfl rfl rfl rfl rfl rfl rfl (by intro; rfl) (by omega) ?_ | refine PWops.slcRH rfl rfl rfl rfl rfl rfl rfl rfl (by intro; rfl) (by omega) ?_ | refine PWops.slcM rfl rfl rfl rfl rfl rfl rfl rfl rfl (by omega) ?_ | refine PWops.ldM rfl rfl rfl rfl rfl rfl rfl (by omega) rfl ?_ | refine PWops.ldR rfl rfl rfl rfl rfl rfl rfl (by intro; rfl) (by omega) rfl rfl ?_ | refine PWops.ldRA rfl rfl rfl rfl rfl rfl (by intro; rfl) (by omega) rfl ?_)) | (first | ((with_reducible refine PW.idd ?_) ; (first | refine PW.region typeTab_ok (by kernel_rfl) ?_ | refine PW.draw typeTab_ok (by kernel_rfl) (by kernel_rfl) (by kernel_rfl) ?_ | refine PW.condT rfl ?_ | refine PW.condF rfl ?_ | refine blockP_other (by decide) ?_)) | with_reducible refine blockP_other (by decide) ?_)))
          refine retP rfl (by (first | exact low_mapI | exact low_mapS | exact low_mapB | simp [low_val, low_nilsl, low_sl, low_ep, low_agg, low_tup, low_fn, low_pint, low_pstr, low_pbool, low_pints, low_pstrs, low_pbyte, low_pbytes, low_pattrs, low_pdefs, low_pschema, low_pentry])) ?_
          simp [fewB, e21, hv40, ha20, pbool]
        · (repeat (first | (with_reducible first | refine PW.seq ?_ | refine PW.block ?_ | refine PW.skip ?_ | refine PW.exit ?_ | refine PW.ret ?_ | refine thenP ?_ | refine thenP_exit ?_ | refine thenP_ret ?_ | refine blockP ?_ | refine blockP_exit ?_ | refine blockP_ret ?_ | refine loopP_exit ?_ | refine loopP_ret ?_) | ((with_reducible refine PWops.idd ?_) ; first | (first | refine PWops.stepA rfl ?_ | refine PWops.doneI rfl ?_ | refine PWops.boolK true rfl rfl rfl rfl (by (first | rfl | assumption | (simp only [decide_eq_true_eq, decide_eq_false_iff_not, bne_iff_ne, beq_iff_eq, beq_eq_false_iff_ne, bne_eq_false_iff_eq, ne_eq] ; omega))) rfl ?_ | refine PWops.boolK false rfl rfl rfl rfl (by (first | rfl | assumption | (simp only [decide_eq_true_eq, decide_eq_false_iff_not, bne_iff_ne, beq_iff_eq, beq_eq_false_iff_ne, bne_eq_false_iff_eq, ne_eq] ; omega))) rfl ?_ | refine PWops.fitsK rfl rfl rfl rfl (by omega) (by omega) rfl ?_ | refine PWops.remK rfl rfl rfl rfl (by omega) rfl ?_ | refine PWops.quoK rfl rfl rfl rfl (by omega) rfl ?_ | refine PWops.app rfl rfl rfl rfl rfl rfl rfl (by omega) (by omega) (by first | rfl | exact one_pint _ | exact one_pstr _ | exact one_pbyte _ | exact one_pattrs _) ?_ | refine PWops.app0 rfl rfl rfl rfl rfl rfl rfl (by omega) (by omega) (by first | rfl | exact one_pint _ | exact one_pstr _ | exact one_pbyte _ | exact one_pattrs _) ?_ | refine PWops.idx1 rfl rfl rfl rfl rfl rfl rfl rfl (by omega) ?_ | refine PWops.idx rfl rfl rfl rfl rfl rfl rfl rfl (by omega) ?_ | refine PWops.ld rfl rfl rfl rfl rfl rfl rfl (by assumption) rfl ?_ | refine PWops.ldA rfl rfl rfl rfl rfl rfl (by omega) (by assumption) ?_ | refine PWops.str rfl rfl rfl rfl rfl rfl rfl rfl rfl rfl rfl ?_) | (first | (refine PWops.call rfl rfl rfl (by assumption) ?_) | refine PWops.idxZ1 rfl rfl rfl rfl rfl rfl rfl rfl (by omega) ?_ | refine PWops.idxZ rfl rfl rfl rfl rfl rfl rfl rfl (by omega) ?_ | refine PWops.ld rfl rfl rfl rfl rfl rfl rfl rfl rfl ?_ | refine PWops.slcL rfl rfl rfl rfl rfl rfl rfl rfl (by omega) ?_ | refine PWops.slcH rfl rfl rfl rfl rfl rfl rfl rfl (by omega) ?_ | refine PWops.slcRL rfl rfl rfl rfl rfl rfl rfl rfl (by intro; rfl) (by omega) ?_ | refine PWops.slcRH rfl rfl rfl rfl rfl rfl rfl rfl (by intro; rfl) (by omega) ?_ | refine PWops.slcM rfl rfl rfl rfl rfl rfl rfl rfl rfl (by omega) ?_ | refine PWops.ldM rfl rfl rfl rfl rfl rfl rfl (by omega) rfl ?_ | refine PWops.ldR rfl rfl rfl rfl rfl rfl rfl (by intro; rfl) (by omega) rfl rfl ?_ | refine PWops.ldRA rfl rfl rfl rfl rfl rfl (by intro; rfl) (by omega) rfl ?_)) | (first | ((with_reducible refine PW.idd ?_) ; (first | refine PW.region typeTab_ok (by kernel_rfl) ?_ | refine PW.draw typeTab_ok (by kernel_rfl) (by kernel_rfl) (by kernel_rfl) ?_ | refine PW.condT rfl ?_ | refine PW.condF rfl ?_ | refine blockP_other (by decide) ?_)) | with_reducible refine blockP_other (by decide) ?_)))
          refine retP rfl (by (first | exact low_mapI | exact low_mapS | exact low_mapB | simp [low_val, low_nilsl, low_sl, low_ep, low_agg, low_tup, low_fn, low_pint, low_pstr, low_pbool, low_pints, low_pstrs, low_pbyte, low_pbytes, low_pattrs, low_pdefs, low_pschema, low_pentry])) ?_
          simp [fewB, ha20, pbool]
      · (repeat (first | (with_reducible first | refine PW.seq ?_ | refine PW.block ?_ | refine PW.skip ?_ | refine PW.exit ?_ | refine PW.ret ?_ | refine thenP ?_ | refine thenP_exit ?_ | refine thenP_ret ?_ | refine blockP ?_ | refine blockP_exit ?_ | refine blockP_ret ?_ | refine loopP_exit ?_ | refine loopP_ret ?_) | ((with_reducible refine PWops.idd ?_) ; first | (first | refine PWops.stepA rfl ?_ | refine PWops.doneI rfl ?_ | refine PWops.boolK true rfl rfl rfl rfl (by (first | rfl | assumption | (simp only [decide_eq_true_eq, decide_eq_false_iff_not, bne_iff_ne, beq_iff_eq, beq_eq_false_iff_ne, bne_eq_false_iff_eq, ne_eq] ; omega))) rfl ?_ | refine PWops.boolK false rfl rfl rfl rfl (by (first | rfl | assumption | (simp only [decide_eq_true_eq, decide_eq_false_iff_not, bne_iff_ne, beq_iff_eq, beq_eq_false_iff_ne, bne_eq_false_iff_eq, ne_eq] ; omega))) rfl ?_ | refine PWops.fitsK rfl rfl rfl rfl (by omega) (by omega) rfl ?_ | refine PWops.remK rfl rfl rfl rfl (by omega) rfl ?_ | refine PWops.quoK rfl rfl rfl rfl (by omega) rfl ?_ | refine PWops.app rfl rfl rfl rfl rfl rfl rfl (by omega) (by omega) (by first | rfl | exact one_pint _ | exact one_pstr _ | exact one_pbyte _ | exact one_pattrs _) ?_ | refine PWops.app0 rfl rfl rfl rfl rfl rfl rfl (by omega) (by omega) (by first | rfl | exact one_pint _ | exact one_pstr _ | exact one_pbyte _ | exact one_pattrs _) ?_ | refine PWops.idx1 rfl rfl rfl rfl rfl rfl rfl rfl (by omega) ?_ | refine PWops.idx rfl rfl rfl rfl rfl rfl rfl rfl (by omega) ?_ | refine PWops.ld rfl rfl rfl rfl rfl rfl rfl (by assumption) rfl ?_ | refine PWops.ldA rfl rfl rfl rfl rfl rfl (by omega) (by assumption) ?_ | refine PWops.str rfl rfl rfl rfl rfl rfl rfl rfl rfl rfl rfl ?_) | (first | (refine PWops.call rfl rfl rfl (by assumption) ?_) | refine PWops.idxZ1 rfl rfl rfl rfl rfl rfl rfl rfl (by omega) ?_ | refine PWops.idxZ rfl rfl rfl rfl rfl rfl rfl rfl (by omega) ?_ | refine PWops.ld rfl rfl rfl rfl rfl rfl rfl rfl rfl ?_ | refine PWops.slcL rfl rfl rfl rfl rfl rfl rfl rfl (by omega) ?_ | refine PWops.slcH rfl rfl rfl rfl rfl rfl rfl rfl (by omega) ?_ | refine PWops.slcRL rfl rfl rfl rfl rfl rfl rfl rfl (by intro; rfl) (by omega) ?_ | refine PWops.slcRH rfl rfl rfl rfl rfl rfl rfl rfl (by intro; rfl) (by omega) ?_ | refine PWops.slcM rfl rfl rfl rfl rfl rfl rfl rfl rfl (by omega) ?_ | refine PWops.ldM rfl rfl rfl rfl rfl rfl rfl (by omega) rfl ?_ | refine PWops.ldR rfl rfl rfl rfl rfl rfl rfl (by intro; rfl) (by omega) rfl rfl ?_ | refine PWops.ldRA rfl rfl rfl rfl rfl rfl (by intro; rfl) (by omega) rfl ?_)) | (first | ((with_reducible refine PW.idd ?_) ; (first | refine PW.region typeTab_ok (by kernel_rfl) ?_ | refine PW.draw typeTab_ok (by kernel_rfl) (by kernel_rfl) (by kernel_rfl) ?_ | refine PW.condT rfl ?_ | refine PW.condF rfl ?_ | refine blockP_other (by decide) ?_)) | with_reducible refine blockP_other (by decide) ?_)))
        refine retP rfl (by (first | exact low_mapI | exact low_mapS | exact low_mapB | simp [low_val, low_nilsl, low_sl, low_ep, low_agg, low_tup, low_fn, low_pint, low_pstr, low_pbool, low_pints, low_pstrs, low_pbyte, low_pbytes, low_pattrs, low_pdefs, low_pschema, low_pentry])) ?_
        simp [fewB, hv40, pbool]

theorem fewB_few {e : PEntry} (h : fewB e = true) : FewE e := by
  simp only [fewB, Bool.and_eq_true, decide_eq_true_eq, List.all_eq_true] at h
  obtain ⟨h1, h2, h3⟩ := h
  refine ⟨h2, h3, fun a ha => ?_⟩
  rw [List.take_of_length_le (by omega)] at h1
  have := h1 a ha
  simpa [smallA, FewA] using this
end Go.Proofs.Ytnjopfjmepbpoaa

/- Pure walks: Encode and Same of the specification. -/
namespace Go.Proofs.Ytnjopfjmepbpoaa
set_option linter.unusedSimpArgs false
set_option linter.unusedVariables false
set_option linter.unnecessarySimpa false
open Go.RowKit

set_option maxRecDepth 10000 in
set_option maxHeartbeats 1000000 in
theorem pw_refEncode (x : PEntry) (hf : FitE x) (hs : SmallE x) : PCalls Try.prog 64 [pentry x] (· = pbytesO (encE x)) := by
  refine pcalls_of_pw typeTab_ok Try.func64 rfl (by kernel_rfl) (by (first | exact low_mapI | exact low_mapS | exact low_mapB | simp [low_val, low_nilsl, low_sl, low_ep, low_agg, low_tup, low_fn, low_pint, low_pstr, low_pbool, low_pints, low_pstrs, low_pbyte, low_pbytes, low_pattrs, low_pdefs, low_pschema, low_pentry])) (by simp [pentry, PV.ownB]) (by rw [Try.ntmps64]; simp) ?_
  rw [Try.ntmps64, Try.results64]
  have v1 := hs.vec
  have v2 := hs.attrs
  have F1 : ∀ k y, x.attrs[k]? = some y → attrN (x.attrs.take (k+1)) = attrN (x.attrs.take k) ++ [y.kind, y.n] := fun k y h => attrN_take x.attrs k y h
  have F2 : ∀ k y, x.attrs[k]? = some y → attrS (x.attrs.take (k+1)) = attrS (x.attrs.take k) ++ [y.name, y.s] := fun k y h => attrS_take x.attrs k y h
  (repeat (first | (with_reducible first | refine PW.seq ?_ | refine PW.block ?_ | refine PW.skip ?_ | refine PW.exit ?_ | refine PW.ret ?_ | refine thenP ?_ | refine thenP_exit ?_ | refine thenP_ret ?_ | refine blockP ?_ | refine blockP_exit ?_ | refine blockP_ret ?_ | refine loopP_exit ?_ | refine loopP_ret ?_) | ((with_reducible refine PWops.idd ?_) ; first | (first | refine PWops.stepA rfl ?_ | refine PWops.doneI rfl ?_ | refine PWops.boolK true rfl rfl rfl rfl (by (first | rfl | assumption | (simp only [decide_eq_true_eq, decide_eq_false_iff_not, bne_iff_ne, beq_iff_eq, beq_eq_false_iff_ne, bne_eq_false_iff_eq, ne_eq] ; omega))) rfl ?_ | refine PWops.boolK false rfl rfl rfl rfl (by (first | rfl | assumption | (simp only [decide_eq_true_eq, decide_eq_false_iff_not, bne_iff_ne, beq_iff_eq, beq_eq_false_iff_ne, bne_eq_false_iff_eq, ne_eq] ; omega))) rfl ?_ | refine PWops.fitsK rfl rfl rfl rfl (by omega) (by omega) rfl ?_ | refine PWops.remK rfl rfl rfl rfl (by omega) rfl ?_ | refine PWops.quoK rfl rfl rfl rfl (by omega) rfl ?_ | refine PWops.app rfl rfl rfl rfl rfl rfl rfl (by omega) (by omega) (by first | rfl | exact one_pint _ | exact one_pstr _ | exact one_pbyte _ | exact one_pattrs _) ?_ | refine PWops.app0 rfl rfl rfl rfl rfl rfl rfl (by omega) (by omega) (by first | rfl | exact one_pint _ | exact one_pstr _ | exact one_pbyte _ | exact one_pattrs _) ?_ | refine PWops.idx1 rfl rfl rfl rfl rfl rfl rfl rfl (by omega) ?_ | refine PWops.idx rfl rfl rfl rfl rfl rfl rfl rfl (by omega) ?_ | refine PWops.ld rfl rfl rfl rfl rfl rfl rfl (by assumption) rfl ?_ | refine PWops.ldA rfl rfl rfl rfl rfl rfl (by omega) (by assumption) ?_ | refine PWops.str rfl rfl rfl rfl rfl rfl rfl rfl rfl rfl rfl ?_) | (first | (refine PWops.call rfl rfl rfl (by assumption) ?_) | refine PWops.idxZ1 rfl rfl rfl rfl rfl rfl rfl rfl (by omega) ?_ | refine PWops.idxZ rfl rfl rfl rfl rfl rfl rfl rfl (by omega) ?_ | refine PWops.ld rfl rfl rfl rfl rfl rfl rfl rfl rfl ?_ | refine PWops.slcL rfl rfl rfl rfl rfl rfl rfl rfl (by omega) ?_ | refine PWops.slcH rfl rfl rfl rfl rfl rfl rfl rfl (by omega) ?_ | refine PWops.slcRL rfl rfl rfl rfl rfl rfl rfl rfl (by intro; rfl) (by omega) ?_ | refine PWops.slcRH rfl rfl rfl rfl rfl rfl rfl rfl (by intro; rfl) (by omega) ?_ | refine PWops.slcM rfl rfl rfl rfl rfl rfl rfl rfl rfl (by omega) ?_ | refine PWops.ldM rfl rfl rfl rfl rfl rfl rfl (by omega) rfl ?_ | refine PWops.ldR rfl rfl rfl rfl rfl rfl rfl (by intro; rfl) (by omega) rfl rfl ?_ | refine PWops.ldRA rfl rfl rfl rfl rfl rfl (by intro; rfl) (by omega) rfl ?_)) | (first | ((with_reducible refine PW.idd ?_) ; (first | refine PW.region typeTab_ok (by kernel_rfl) ?_ | refine PW.draw typeTab_ok (by kernel_rfl) (by kernel_rfl) (by kernel_rfl) ?_ | refine PW.condT rfl ?_ | refine PW.condF rfl ?_ | refine blockP_other (by decide) ?_)) | with_reducible refine blockP_other (by decide) ?_)))
  refine PW.loop (fun k : Nat => ((((bot.setb 0 (entCellsP x)).put 1 (.ptr 0 0)).put 2 .nilsl).put 3 (.sl (9 + x.vec.length + 2 * k) 1 ((headN x ++ x.vec ++ [(x.attrs.length : Int)] ++ attrN (x.attrs.take k)).map pint) (some 3))).put 4 (.sl (2 * k) 1 ((attrS (x.attrs.take k)).map pstr) (some 9)) |>.put 5 (pint k)) (fun k => k ≤ x.attrs.length) (fun k => x.attrs.length - k) 0 (by omega) ?_ ?_
  · (refine Sub.drop (by (repeat (first | exact bot_b | with_reducible refine put_b ?_ | refine setb_b ?_ rfl))) (by (repeat (first | exact bot_c | with_reducible refine put_c ?_ | with_reducible refine setb_c ?_ (by first | assumption | exact hlow _ | (first | exact low_mapI | exact low_mapS | exact low_mapB | simp [low_val, low_nilsl, low_sl, low_ep, low_agg, low_tup, low_fn, low_pint, low_pstr, low_pbool, low_pints, low_pstrs, low_pbyte, low_pbytes, low_pattrs, low_pdefs, low_pschema, low_pentry]) | exact low_entCells _ | exact low_schCells _ | exact low_pdefL _ | exact low_pattrL _)))) (by (repeat (first | exact bot_l | with_reducible refine setb_l ?_ | with_reducible refine put_l ?_ (by first | (left; (first | exact low_mapI | exact low_mapS | exact low_mapB | simp [low_val, low_nilsl, low_sl, low_ep, low_agg, low_tup, low_fn, low_pint, low_pstr, low_pbool, low_pints, low_pstrs, low_pbyte, low_pbytes, low_pattrs, low_pdefs, low_pschema, low_pentry])) | exact .inr ⟨_, _, rfl, (by simp [PS.setb, PS.put, upd_if])⟩)))) ?_ ; (repeat (first | exact sub_bot | with_reducible refine setb_t ?_ | refine sub_put ?_ (.inl rfl) | refine sub_put ?_ (.inr (.inl rfl)) | refine sub_put ?_ (.inr (.inr ⟨_, _, rfl, rfl⟩)) | refine sub_put ?_ (.inl (sl_eq ?_ ?_)))))
    · omega
    · simp [headN, attrN, pint]
  · intro k hk
    by_cases hlt : k < x.attrs.length
    · obtain ⟨y, hy⟩ := ints_get x.attrs k hlt
      obtain ⟨c0, c1, c2, c3⟩ := attr_cell hy
      (repeat (first | (with_reducible first | refine PW.seq ?_ | refine PW.block ?_ | refine PW.skip ?_ | refine PW.exit ?_ | refine PW.ret ?_ | refine thenP ?_ | refine thenP_exit ?_ | refine thenP_ret ?_ | refine blockP ?_ | refine blockP_exit ?_ | refine blockP_ret ?_ | refine loopP_exit ?_ | refine loopP_ret ?_) | ((with_reducible refine PWops.idd ?_) ; first | (first | refine PWops.stepA rfl ?_ | refine PWops.doneI rfl ?_ | refine PWops.boolK true rfl rfl rfl rfl (by (first | rfl | assumption | (simp only [decide_eq_true_eq, decide_eq_false_iff_not, bne_iff_ne, beq_iff_eq, beq_eq_false_iff_ne, bne_eq_false_iff_eq, ne_eq] ; omega))) rfl ?_ | refine PWops.boolK false rfl rfl rfl rfl (by (first | rfl | assumption | (simp only [decide_eq_true_eq, decide_eq_false_iff_not, bne_iff_ne, beq_iff_eq, beq_eq_false_iff_ne, bne_eq_false_iff_eq, ne_eq] ; omega))) rfl ?_ | refine PWops.fitsK rfl rfl rfl rfl (by omega) (by omega) rfl ?_ | refine PWops.remK rfl rfl rfl rfl (by omega) rfl ?_ | refine PWops.quoK rfl rfl rfl rfl (by omega) rfl ?_ | refine PWops.app rfl rfl rfl rfl rfl rfl rfl (by omega) (by omega) (by first | rfl | exact one_pint _ | exact one_pstr _ | exact one_pbyte _ | exact one_pattrs _) ?_ | refine PWops.app0 rfl rfl rfl rfl rfl rfl rfl (by omega) (by omega) (by first | rfl | exact one_pint _ | exact one_pstr _ | exact one_pbyte _ | exact one_pattrs _) ?_ | refine PWops.idx1 rfl rfl rfl rfl rfl rfl rfl rfl (by omega) ?_ | refine PWops.idx rfl rfl rfl rfl rfl rfl rfl rfl (by omega) ?_ | refine PWops.ld rfl rfl rfl rfl rfl rfl rfl (by assumption) rfl ?_ | refine PWops.ldA rfl rfl rfl rfl rfl rfl (by omega) (by assumption) ?_ | refine PWops.str rfl rfl rfl rfl rfl rfl rfl rfl rfl rfl rfl ?_) | (first | (refine PWops.call rfl rfl rfl (by assumption) ?_) | refine PWops.idxZ1 rfl rfl rfl rfl rfl rfl rfl rfl (by omega) ?_ | refine PWops.idxZ rfl rfl rfl rfl rfl rfl rfl rfl (by omega) ?_ | refine PWops.ld rfl rfl rfl rfl rfl rfl rfl rfl rfl ?_ | refine PWops.slcL rfl rfl rfl rfl rfl rfl rfl rfl (by omega) ?_ | refine PWops.slcH rfl rfl rfl rfl rfl rfl rfl rfl (by omega) ?_ | refine PWops.slcRL rfl rfl rfl rfl rfl rfl rfl rfl (by intro; rfl) (by omega) ?_ | refine PWops.slcRH rfl rfl rfl rfl rfl rfl rfl rfl (by intro; rfl) (by omega) ?_ | refine PWops.slcM rfl rfl rfl rfl rfl rfl rfl rfl rfl (by omega) ?_ | refine PWops.ldM rfl rfl rfl rfl rfl rfl rfl (by omega) rfl ?_ | refine PWops.ldR rfl rfl rfl rfl rfl rfl rfl (by intro; rfl) (by omega) rfl rfl ?_ | refine PWops.ldRA rfl rfl rfl rfl rfl rfl (by intro; rfl) (by omega) rfl ?_)) | (first | ((with_reducible refine PW.idd ?_) ; (first | refine PW.region typeTab_ok (by kernel_rfl) ?_ | refine PW.draw typeTab_ok (by kernel_rfl) (by kernel_rfl) (by kernel_rfl) ?_ | refine PW.condT rfl ?_ | refine PW.condF rfl ?_ | refine blockP_other (by decide) ?_)) | with_reducible refine blockP_other (by decide) ?_)))
      refine loopP (k + 1) (by omega) (by omega) ?_
      (refine Sub.drop (by (repeat (first | exact bot_b | with_reducible refine put_b ?_ | refine setb_b ?_ rfl))) (by (repeat (first | exact bot_c | with_reducible refine put_c ?_ | with_reducible refine setb_c ?_ (by first | assumption | exact hlow _ | (first | exact low_mapI | exact low_mapS | exact low_mapB | simp [low_val, low_nilsl, low_sl, low_ep, low_agg, low_tup, low_fn, low_pint, low_pstr, low_pbool, low_pints, low_pstrs, low_pbyte, low_pbytes, low_pattrs, low_pdefs, low_pschema, low_pentry]) | exact low_entCells _ | exact low_schCells _ | exact low_pdefL _ | exact low_pattrL _)))) (by (repeat (first | exact bot_l | with_reducible refine setb_l ?_ | with_reducible refine put_l ?_ (by first | (left; (first | exact low_mapI | exact low_mapS | exact low_mapB | simp [low_val, low_nilsl, low_sl, low_ep, low_agg, low_tup, low_fn, low_pint, low_pstr, low_pbool, low_pints, low_pstrs, low_pbyte, low_pbytes, low_pattrs, low_pdefs, low_pschema, low_pentry])) | exact .inr ⟨_, _, rfl, (by simp [PS.setb, PS.put, upd_if])⟩)))) ?_ ; (repeat (first | exact sub_bot | with_reducible refine setb_t ?_ | refine sub_put ?_ (.inl rfl) | refine sub_put ?_ (.inr (.inl rfl)) | refine sub_put ?_ (.inr (.inr ⟨_, _, rfl, rfl⟩)) | refine sub_put ?_ (.inl (sl_eq ?_ ?_)))))
      · omega
      · rw [F1 k y hy, ← List.append_assoc, List.map_append]; rfl
      · omega
      · rw [F2 k y hy, List.map_append]; rfl
    · have e : x.attrs.take k = x.attrs := List.take_of_length_le (by omega)
      have hk' : k = x.attrs.length := by omega
      have FN := encN_fit x hf hs
      have LN := encN_len x
      have FS := attrS_small x.attrs hs.strs
      have LS := attrS_len x.attrs
      have hc1 := pcRefInts (encN x) FN (by omega)
      have hc2 := pcRefStrings (attrS x.attrs) FS (by omega)
      have e1 : PV.sl (9 + x.vec.length + 2 * k) 1 ((headN x ++ x.vec ++ [(x.attrs.length : Int)] ++ attrN (x.attrs.take k)).map pint) none = pints (encN x) := sl_eq (by rw [LN]; omega) (by rw [e]; rfl)
      have e2 : PV.sl (2 * k) 1 ((attrS (x.attrs.take k)).map pstr) none = pstrs (attrS x.attrs) := sl_eq (by rw [LS]; omega) (by rw [e])
      have hl2 := intsB_len (encN x) FN
      have hl2' := intB_len (encN x).length (by omega) (by omega)
      have hl3 := strsB_len (attrS x.attrs) FS (by omega)
      (repeat (first | (with_reducible first | refine PW.seq ?_ | refine PW.block ?_ | refine PW.skip ?_ | refine PW.exit ?_ | refine PW.ret ?_ | refine thenP ?_ | refine thenP_exit ?_ | refine thenP_ret ?_ | refine blockP ?_ | refine blockP_exit ?_ | refine blockP_ret ?_ | refine loopP_exit ?_ | refine loopP_ret ?_) | ((with_reducible refine PWops.idd ?_) ; first | (first | refine PWops.stepA rfl ?_ | refine PWops.doneI rfl ?_ | refine PWops.boolK true rfl rfl rfl rfl (by (first | rfl | assumption | (simp only [decide_eq_true_eq, decide_eq_false_iff_not, bne_iff_ne, beq_iff_eq, beq_eq_false_iff_ne, bne_eq_false_iff_eq, ne_eq] ; omega))) rfl ?_ | refine PWops.boolK false rfl rfl rfl rfl (by (first | rfl | assumption | (simp only [decide_eq_true_eq, decide_eq_false_iff_not, bne_iff_ne, beq_iff_eq, beq_eq_false_iff_ne, bne_eq_false_iff_eq, ne_eq] ; omega))) rfl ?_ | refine PWops.fitsK rfl rfl rfl rfl (by omega) (by omega) rfl ?_ | refine PWops.remK rfl rfl rfl rfl (by omega) rfl ?_ | refine PWops.quoK rfl rfl rfl rfl (by omega) rfl ?_ | refine PWops.app rfl rfl rfl rfl rfl rfl rfl (by omega) (by omega) (by first | rfl | exact one_pint _ | exact one_pstr _ | exact one_pbyte _ | exact one_pattrs _) ?_ | refine PWops.app0 rfl rfl rfl rfl rfl rfl rfl (by omega) (by omega) (by first | rfl | exact one_pint _ | exact one_pstr _ | exact one_pbyte _ | exact one_pattrs _) ?_ | refine PWops.idx1 rfl rfl rfl rfl rfl rfl rfl rfl (by omega) ?_ | refine PWops.idx rfl rfl rfl rfl rfl rfl rfl rfl (by omega) ?_ | refine PWops.ld rfl rfl rfl rfl rfl rfl rfl (by assumption) rfl ?_ | refine PWops.ldA rfl rfl rfl rfl rfl rfl (by omega) (by assumption) ?_ | refine PWops.str rfl rfl rfl rfl rfl rfl rfl rfl rfl rfl rfl ?_) | (first | (refine PWops.call rfl rfl rfl (by assumption) ?_) | refine PWops.idxZ1 rfl rfl rfl rfl rfl rfl rfl rfl (by omega) ?_ | refine PWops.idxZ rfl rfl rfl rfl rfl rfl rfl rfl (by omega) ?_ | refine PWops.ld rfl rfl rfl rfl rfl rfl rfl rfl rfl ?_ | refine PWops.slcL rfl rfl rfl rfl rfl rfl rfl rfl (by omega) ?_ | refine PWops.slcH rfl rfl rfl rfl rfl rfl rfl rfl (by omega) ?_ | refine PWops.slcRL rfl rfl rfl rfl rfl rfl rfl rfl (by intro; rfl) (by omega) ?_ | refine PWops.slcRH rfl rfl rfl rfl rfl rfl rfl rfl (by intro; rfl) (by omega) ?_ | refine PWops.slcM rfl rfl rfl rfl rfl rfl rfl rfl rfl (by omega) ?_ | refine PWops.ldM rfl rfl rfl rfl rfl rfl rfl (by omega) rfl ?_ | refine PWops.ldR rfl rfl rfl rfl rfl rfl rfl (by intro; rfl) (by omega) rfl rfl ?_ | refine PWops.ldRA rfl rfl rfl rfl rfl rfl (by intro; rfl) (by omega) rfl ?_)) | (first | ((with_reducible refine PW.idd ?_) ; (first | refine PW.region typeTab_ok (by kernel_rfl) ?_ | refine PW.draw typeTab_ok (by kernel_rfl) (by kernel_rfl) (by kernel_rfl) ?_ | refine PW.condT rfl ?_ | refine PW.condF rfl ?_ | refine blockP_other (by decide) ?_)) | with_reducible refine blockP_other (by decide) ?_)))
      refine PWops.call rfl rfl rfl (by first | (rw [e1]; exact hc1) | exact hc1) ?_
      (repeat (first | (with_reducible first | refine PW.seq ?_ | refine PW.block ?_ | refine PW.skip ?_ | refine PW.exit ?_ | refine PW.ret ?_ | refine thenP ?_ | refine thenP_exit ?_ | refine thenP_ret ?_ | refine blockP ?_ | refine blockP_exit ?_ | refine blockP_ret ?_ | refine loopP_exit ?_ | refine loopP_ret ?_) | ((with_reducible refine PWops.idd ?_) ; first | (first | refine PWops.stepA rfl ?_ | refine PWops.doneI rfl ?_ | refine PWops.boolK true rfl rfl rfl rfl (by (first | rfl | assumption | (simp only [decide_eq_true_eq, decide_eq_false_iff_not, bne_iff_ne, beq_iff_eq, beq_eq_false_iff_ne, bne_eq_false_iff_eq, ne_eq] ; omega))) rfl ?_ | refine PWops.boolK false rfl rfl rfl rfl (by (first | rfl | assumption | (simp only [decide_eq_true_eq, decide_eq_false_iff_not, bne_iff_ne, beq_iff_eq, beq_eq_false_iff_ne, bne_eq_false_iff_eq, ne_eq] ; omega))) rfl ?_ | refine PWops.fitsK rfl rfl rfl rfl (by omega) (by omega) rfl ?_ | refine PWops.remK rfl rfl rfl rfl (by omega) rfl ?_ | refine PWops.quoK rfl rfl rfl rfl (by omega) rfl ?_ | refine PWops.app rfl rfl rfl rfl rfl rfl rfl (by omega) (by omega) (by first | rfl | exact one_pint _ | exact one_pstr _ | exact one_pbyte _ | exact one_pattrs _) ?_ | refine PWops.app0 rfl rfl rfl rfl rfl rfl rfl (by omega) (by omega) (by first | rfl | exact one_pint _ | exact one_pstr _ | exact one_pbyte _ | exact one_pattrs _) ?_ | refine PWops.idx1 rfl rfl rfl rfl rfl rfl rfl rfl (by omega) ?_ | refine PWops.idx rfl rfl rfl rfl rfl rfl rfl rfl (by omega) ?_ | refine PWops.ld rfl rfl rfl rfl rfl rfl rfl (by assumption) rfl ?_ | refine PWops.ldA rfl rfl rfl rfl rfl rfl (by omega) (by assumption) ?_ | refine PWops.str rfl rfl rfl rfl rfl rfl rfl rfl rfl rfl rfl ?_) | (first | (refine PWops.call rfl rfl rfl (by assumption) ?_) | refine PWops.idxZ1 rfl rfl rfl rfl rfl rfl rfl rfl (by omega) ?_ | refine PWops.idxZ rfl rfl rfl rfl rfl rfl rfl rfl (by omega) ?_ | refine PWops.ld rfl rfl rfl rfl rfl rfl rfl rfl rfl ?_ | refine PWops.slcL rfl rfl rfl rfl rfl rfl rfl rfl (by omega) ?_ | refine PWops.slcH rfl rfl rfl rfl rfl rfl rfl rfl (by omega) ?_ | refine PWops.slcRL rfl rfl rfl rfl rfl rfl rfl rfl (by intro; rfl) (by omega) ?_ | refine PWops.slcRH rfl rfl rfl rfl rfl rfl rfl rfl (by intro; rfl) (by omega) ?_ | refine PWops.slcM rfl rfl rfl rfl rfl rfl rfl rfl rfl (by omega) ?_ | refine PWops.ldM rfl rfl rfl rfl rfl rfl rfl (by omega) rfl ?_ | refine PWops.ldR rfl rfl rfl rfl rfl rfl rfl (by intro; rfl) (by omega) rfl rfl ?_ | refine PWops.ldRA rfl rfl rfl rfl rfl rfl (by intro; rfl) (by omega) rfl ?_)) | (first | ((with_reducible refine PW.idd ?_) ; (first | refine PW.region typeTab_ok (by kernel_rfl) ?_ | refine PW.draw typeTab_ok (by kernel_rfl) (by kernel_rfl) (by kernel_rfl) ?_ | refine PW.condT rfl ?_ | refine PW.condF rfl ?_ | refine blockP_other (by decide) ?_)) | with_reducible refine blockP_other (by decide) ?_)))
      refine PWops.call rfl rfl rfl (by first | (rw [e2]; exact hc2) | exact hc2) ?_
      (repeat (first | (with_reducible first | refine PW.seq ?_ | refine PW.block ?_ | refine PW.skip ?_ | refine PW.exit ?_ | refine PW.ret ?_ | refine thenP ?_ | refine thenP_exit ?_ | refine thenP_ret ?_ | refine blockP ?_ | refine blockP_exit ?_ | refine blockP_ret ?_ | refine loopP_exit ?_ | refine loopP_ret ?_) | ((with_reducible refine PWops.idd ?_) ; first | (first | refine PWops.stepA rfl ?_ | refine PWops.doneI rfl ?_ | refine PWops.boolK true rfl rfl rfl rfl (by (first | rfl | assumption | (simp only [decide_eq_true_eq, decide_eq_false_iff_not, bne_iff_ne, beq_iff_eq, beq_eq_false_iff_ne, bne_eq_false_iff_eq, ne_eq] ; omega))) rfl ?_ | refine PWops.boolK false rfl rfl rfl rfl (by (first | rfl | assumption | (simp only [decide_eq_true_eq, decide_eq_false_iff_not, bne_iff_ne, beq_iff_eq, beq_eq_false_iff_ne, bne_eq_false_iff_eq, ne_eq] ; omega))) rfl ?_ | refine PWops.fitsK rfl rfl rfl rfl (by omega) (by omega) rfl ?_ | refine PWops.remK rfl rfl rfl rfl (by omega) rfl ?_ | refine PWops.quoK rfl rfl rfl rfl (by omega) rfl ?_ | refine PWops.app rfl rfl rfl rfl rfl rfl rfl (by omega) (by omega) (by first | rfl | exact one_pint _ | exact one_pstr _ | exact one_pbyte _ | exact one_pattrs _) ?_ | refine PWops.app0 rfl rfl rfl rfl rfl rfl rfl (by omega) (by omega) (by first | rfl | exact one_pint _ | exact one_pstr _ | exact one_pbyte _ | exact one_pattrs _) ?_ | refine PWops.idx1 rfl rfl rfl rfl rfl rfl rfl rfl (by omega) ?_ | refine PWops.idx rfl rfl rfl rfl rfl rfl rfl rfl (by omega) ?_ | refine PWops.ld rfl rfl rfl rfl rfl rfl rfl (by assumption) rfl ?_ | refine PWops.ldA rfl rfl rfl rfl rfl rfl (by omega) (by assumption) ?_ | refine PWops.str rfl rfl rfl rfl rfl rfl rfl rfl rfl rfl rfl ?_) | (first | (refine PWops.call rfl rfl rfl (by assumption) ?_) | refine PWops.idxZ1 rfl rfl rfl rfl rfl rfl rfl rfl (by omega) ?_ | refine PWops.idxZ rfl rfl rfl rfl rfl rfl rfl rfl (by omega) ?_ | refine PWops.ld rfl rfl rfl rfl rfl rfl rfl rfl rfl ?_ | refine PWops.slcL rfl rfl rfl rfl rfl rfl rfl rfl (by omega) ?_ | refine PWops.slcH rfl rfl rfl rfl rfl rfl rfl rfl (by omega) ?_ | refine PWops.slcRL rfl rfl rfl rfl rfl rfl rfl rfl (by intro; rfl) (by omega) ?_ | refine PWops.slcRH rfl rfl rfl rfl rfl rfl rfl rfl (by intro; rfl) (by omega) ?_ | refine PWops.slcM rfl rfl rfl rfl rfl rfl rfl rfl rfl (by omega) ?_ | refine PWops.ldM rfl rfl rfl rfl rfl rfl rfl (by omega) rfl ?_ | refine PWops.ldR rfl rfl rfl rfl rfl rfl rfl (by intro; rfl) (by omega) rfl rfl ?_ | refine PWops.ldRA rfl rfl rfl rfl rfl rfl (by intro; rfl) (by omega) rfl ?_)) | (first | ((with_reducible refine PW.idd ?_) ; (first | refine PW.region typeTab_ok (by kernel_rfl) ?_ | refine PW.draw typeTab_ok (by kernel_rfl) (by kernel_rfl) (by kernel_rfl) ?_ | refine PW.condT rfl ?_ | refine PW.condF rfl ?_ | refine blockP_other (by decide) ?_)) | with_reducible refine blockP_other (by decide) ?_)))
      refine retP rfl (.sl _ _ _ _ (fun c hc => by simp at hc; rcases hc with ⟨z, -, rfl⟩ | ⟨z, -, rfl⟩ <;> exact .val _)) ?_
      exact sl_eq (by simp [encE]) (by simp [encE])

set_option maxRecDepth 10000 in
set_option maxHeartbeats 1000000 in
theorem pw_refSame (x y : PEntry) (hf : FitE x) (hs : SmallE x) (hf2 : FitE y) (hs2 : SmallE y) : PCalls Try.prog 26 [pentry x, pentry y] (· = pbool ((strI (encE x)).toList == (strI (encE y)).toList)) := by
  refine pcalls_of_pw typeTab_ok Try.func26 rfl (by kernel_rfl) (by (first | exact low_mapI | exact low_mapS | exact low_mapB | simp [low_val, low_nilsl, low_sl, low_ep, low_agg, low_tup, low_fn, low_pint, low_pstr, low_pbool, low_pints, low_pstrs, low_pbyte, low_pbytes, low_pattrs, low_pdefs, low_pschema, low_pentry])) (by simp [pentry, PV.ownB]) (by rw [Try.ntmps26]; simp) ?_
  rw [Try.ntmps26, Try.results26]
  have hc1 := pw_refEncode x hf hs
  have hc2 := pw_refEncode y hf2 hs2
  (repeat (first | (with_reducible first | refine PW.seq ?_ | refine PW.block ?_ | refine PW.skip ?_ | refine PW.exit ?_ | refine PW.ret ?_ | refine thenP ?_ | refine thenP_exit ?_ | refine thenP_ret ?_ | refine blockP ?_ | refine blockP_exit ?_ | refine blockP_ret ?_ | refine loopP_exit ?_ | refine loopP_ret ?_) | ((with_reducible refine PWops.idd ?_) ; first | (first | refine PWops.stepA rfl ?_ | refine PWops.doneI rfl ?_ | refine PWops.boolK true rfl rfl rfl rfl (by (first | rfl | assumption | (simp only [decide_eq_true_eq, decide_eq_false_iff_not, bne_iff_ne, beq_iff_eq, beq_eq_false_iff_ne, bne_eq_false_iff_eq, ne_eq] ; omega))) rfl ?_ | refine PWops.boolK false rfl rfl rfl rfl (by (first | rfl | assumption | (simp only [decide_eq_true_eq, decide_eq_false_iff_not, bne_iff_ne, beq_iff_eq, beq_eq_false_iff_ne, bne_eq_false_iff_eq, ne_eq] ; omega))) rfl ?_ | refine PWops.fitsK rfl rfl rfl rfl (by omega) (by omega) rfl ?_ | refine PWops.remK rfl rfl rfl rfl (by omega) rfl ?_ | refine PWops.quoK rfl rfl rfl rfl (by omega) rfl ?_ | refine PWops.app rfl rfl rfl rfl rfl rfl rfl (by omega) (by omega) (by first | rfl | exact one_pint _ | exact one_pstr _ | exact one_pbyte _ | exact one_pattrs _) ?_ | refine PWops.app0 rfl rfl rfl rfl rfl rfl rfl (by omega) (by omega) (by first | rfl | exact one_pint _ | exact one_pstr _ | exact one_pbyte _ | exact one_pattrs _) ?_ | refine PWops.idx1 rfl rfl rfl rfl rfl rfl rfl rfl (by omega) ?_ | refine PWops.idx rfl rfl rfl rfl rfl rfl rfl rfl (by omega) ?_ | refine PWops.ld rfl rfl rfl rfl rfl rfl rfl (by assumption) rfl ?_ | refine PWops.ldA rfl rfl rfl rfl rfl rfl (by omega) (by assumption) ?_ | refine PWops.str rfl rfl rfl rfl rfl rfl rfl rfl rfl rfl rfl ?_) | (first | (refine PWops.call rfl rfl rfl (by assumption) ?_) | refine PWops.idxZ1 rfl rfl rfl rfl rfl rfl rfl rfl (by omega) ?_ | refine PWops.idxZ rfl rfl rfl rfl rfl rfl rfl rfl (by omega) ?_ | refine PWops.ld rfl rfl rfl rfl rfl rfl rfl rfl rfl ?_ | refine PWops.slcL rfl rfl rfl rfl rfl rfl rfl rfl (by omega) ?_ | refine PWops.slcH rfl rfl rfl rfl rfl rfl rfl rfl (by omega) ?_ | refine PWops.slcRL rfl rfl rfl rfl rfl rfl rfl rfl (by intro; rfl) (by omega) ?_ | refine PWops.slcRH rfl rfl rfl rfl rfl rfl rfl rfl (by intro; rfl) (by omega) ?_ | refine PWops.slcM rfl rfl rfl rfl rfl rfl rfl rfl rfl (by omega) ?_ | refine PWops.ldM rfl rfl rfl rfl rfl rfl rfl (by omega) rfl ?_ | refine PWops.ldR rfl rfl rfl rfl rfl rfl rfl (by intro; rfl) (by omega) rfl rfl ?_ | refine PWops.ldRA rfl rfl rfl rfl rfl rfl (by intro; rfl) (by omega) rfl ?_)) | (first | ((with_reducible refine PW.idd ?_) ; (first | refine PW.region typeTab_ok (by kernel_rfl) ?_ | refine PW.draw typeTab_ok (by kernel_rfl) (by kernel_rfl) (by kernel_rfl) ?_ | refine PW.condT rfl ?_ | refine PW.condF rfl ?_ | refine blockP_other (by decide) ?_)) | with_reducible refine blockP_other (by decide) ?_)))
  refine PWops.val rfl rfl rfl rfl ?_
  (repeat (first | (with_reducible first | refine PW.seq ?_ | refine PW.block ?_ | refine PW.skip ?_ | refine PW.exit ?_ | refine PW.ret ?_ | refine thenP ?_ | refine thenP_exit ?_ | refine thenP_ret ?_ | refine blockP ?_ | refine blockP_exit ?_ | refine blockP_ret ?_ | refine loopP_exit ?_ | refine loopP_ret ?_) | ((with_reducible refine PWops.idd ?_) ; first | (first | refine PWops.stepA rfl ?_ | refine PWops.doneI rfl ?_ | refine PWops.boolK true rfl rfl rfl rfl (by (first | rfl | assumption | (simp only [decide_eq_true_eq, decide_eq_false_iff_not, bne_iff_ne, beq_iff_eq, beq_eq_false_iff_ne, bne_eq_false_iff_eq, ne_eq] ; omega))) rfl ?_ | refine PWops.boolK false rfl rfl rfl rfl (by (first | rfl | assumption | (simp only [decide_eq_true_eq, decide_eq_false_iff_not, bne_iff_ne, beq_iff_eq, beq_eq_false_iff_ne, bne_eq_false_iff_eq, ne_eq] ; omega))) rfl ?_ | refine PWops.fitsK rfl rfl rfl rfl (by omega) (by omega) rfl ?_ | refine PWops.remK rfl rfl rfl rfl (by omega) rfl ?_ | refine PWops.quoK rfl rfl rfl rfl (by omega) rfl ?_ | refine PWops.app rfl rfl rfl rfl rfl rfl rfl (by omega) (by omega) (by first | rfl | exact one_pint _ | exact one_pstr _ | exact one_pbyte _ | exact one_pattrs _) ?_ | refine PWops.app0 rfl rfl rfl rfl rfl rfl rfl (by omega) (by omega) (by first | rfl | exact one_pint _ | exact one_pstr _ | exact one_pbyte _ | exact one_pattrs _) ?_ | refine PWops.idx1 rfl rfl rfl rfl rfl rfl rfl rfl (by omega) ?_ | refine PWops.idx rfl rfl rfl rfl rfl rfl rfl rfl (by omega) ?_ | refine PWops.ld rfl rfl rfl rfl rfl rfl rfl (by assumption) rfl ?_ | refine PWops.ldA rfl rfl rfl rfl rfl rfl (by omega) (by assumption) ?_ | refine PWops.str rfl rfl rfl rfl rfl rfl rfl rfl rfl rfl rfl ?_) | (first | (refine PWops.call rfl rfl rfl (by assumption) ?_) | refine PWops.idxZ1 rfl rfl rfl rfl rfl rfl rfl rfl (by omega) ?_ | refine PWops.idxZ rfl rfl rfl rfl rfl rfl rfl rfl (by omega) ?_ | refine PWops.ld rfl rfl rfl rfl rfl rfl rfl rfl rfl ?_ | refine PWops.slcL rfl rfl rfl rfl rfl rfl rfl rfl (by omega) ?_ | refine PWops.slcH rfl rfl rfl rfl rfl rfl rfl rfl (by omega) ?_ | refine PWops.slcRL rfl rfl rfl rfl rfl rfl rfl rfl (by intro; rfl) (by omega) ?_ | refine PWops.slcRH rfl rfl rfl rfl rfl rfl rfl rfl (by intro; rfl) (by omega) ?_ | refine PWops.slcM rfl rfl rfl rfl rfl rfl rfl rfl rfl (by omega) ?_ | refine PWops.ldM rfl rfl rfl rfl rfl rfl rfl (by omega) rfl ?_ | refine PWops.ldR rfl rfl rfl rfl rfl rfl rfl (by intro; rfl) (by omega) rfl rfl ?_ | refine PWops.ldRA rfl rfl rfl rfl rfl rfl (by intro; rfl) (by omega) rfl ?_)) | (first | ((with_reducible refine PW.idd ?_) ; (first | refine PW.region typeTab_ok (by kernel_rfl) ?_ | refine PW.draw typeTab_ok (by kernel_rfl) (by kernel_rfl) (by kernel_rfl) ?_ | refine PW.condT rfl ?_ | refine PW.condF rfl ?_ | refine blockP_other (by decide) ?_)) | with_reducible refine blockP_other (by decide) ?_)))
  refine retP rfl (by (first | exact low_mapI | exact low_mapS | exact low_mapB | simp [low_val, low_nilsl, low_sl, low_ep, low_agg, low_tup, low_fn, low_pint, low_pstr, low_pbool, low_pints, low_pstrs, low_pbyte, low_pbytes, low_pattrs, low_pdefs, low_pschema, low_pentry])) rfl
end Go.Proofs.Ytnjopfjmepbpoaa

/- Pure walks: Decode of attr. -/
namespace Go.Proofs.Ytnjopfjmepbpoaa
set_option linter.unusedSimpArgs false
set_option linter.unusedVariables false
set_option linter.unnecessarySimpa false
open Go.RowKit

theorem getInts_pos (bs ds : List Int) (u : Int) (hby : ∀ c ∈ bs, 0 ≤ c ∧ c < 256) (h : getInts bs = (ds, u, 0)) : 1 ≤ u := by
  obtain ⟨h1, h2, h3⟩ := getInts_take bs ds u hby h
  have h4 := congrArg List.length h1
  rw [intsB, List.length_append, List.length_take] at h4
  have h5 : 1 ≤ (intB ds.length).length := leb_pos _
  omega

theorem entOf_eight (n : List Int) (h : 8 ≤ n.length) : ∃ i v o f a t b c r, n = i :: v :: o :: f :: a :: t :: b :: c :: r := by
  match n, h with
  | i :: v :: o :: f :: a :: t :: b :: c :: r, _ => exact ⟨i, v, o, f, a, t, b, c, r, rfl⟩
theorem entOf_short (n : List Int) (s : List ByteArray) (h : n.length < 9) : entOf n s = none := by
  unfold entOf
  split
  · rename_i i v o f a t b c r
    simp only [List.length_cons] at h
    have : r.length = 0 := by omega
    rw [if_pos (by omega)]
  · rfl

def nilE : PV := .agg [pint 0, pint 0, pint 0, pint 0, pint 0, pint 0, pint 0, .nilsl, .nilsl]
theorem weak_nilE (c : Int) : Weak (.tup [nilE, pint c]) (.tup [pentry zeroE, pint c]) :=
  .tup (.cons (.agg (.cons (.refl _) (.cons (.refl _) (.cons (.refl _) (.cons (.refl _) (.cons (.refl _) (.cons (.refl _) (.cons (.refl _) (.cons (.nil 1) (.cons (.nil 4) .nil)))))))))) (.cons (.refl _) .nil))
theorem low_nilE (c : Int) : Low (.tup [nilE, pint c]) := by simp [nilE, low_tup, low_agg, low_pint, low_nilsl]

def zeroEC : List PV := [pint 0, pint 0, pint 0, pint 0, pint 0, pint 0, pint 0, .nilsl, .nilsl]
theorem low_zeroEC : ∀ c ∈ zeroEC, Low c := by simp [zeroEC, low_pint, low_nilsl]

def fldA (L : List PAttr) : Nat → PV
  | 0 => .nilsl
  | k + 1 => .sl (k + 1) 4 ((L.take (k + 1)).flatMap pattrL) (some 35)
def entC (i v o f a t b : Int) (vec : List Int) (p : PV) : List PV := [pint i, pint v, pint o, pint f, pint a, pint t, pint b, pints vec, p]
theorem fldA_succ {L : List PAttr} {k : Nat} {x : PAttr} (h : L[k]? = some x) : fldA L (k + 1) = .sl (k + 1) 4 ((L.take k).flatMap pattrL ++ pattrL x) (some 35) := by
  rw [fldA, List.take_add_one, h]
  simp [List.flatMap_append]
theorem fldA_low (L : List PAttr) (k : Nat) : Low (.sl k 4 ((L.take k).flatMap pattrL) none) := .sl _ _ _ _ fun c hc => by
  obtain ⟨x, -, hx⟩ := List.mem_flatMap.1 hc
  exact low_pattrL x c hx
theorem low_entC {i v o f a t b : Int} {vec : List Int} {L : List PAttr} (k : Nat) : ∀ c ∈ entC i v o f a t b vec (fldA L k), Low c := by
  have : Low (fldA L k) := by
    cases k with
    | zero => exact .nilsl
    | succ k =>
      refine .sl _ _ _ _ fun c hc => ?_
      obtain ⟨x, -, hx⟩ := List.mem_flatMap.1 hc
      exact low_pattrL x c hx
  simp [entC, low_pint, low_pints, this]

set_option maxRecDepth 10000 in
set_option maxHeartbeats 2000000 in
theorem pw_decode (bs : List Int) (hby : Byte bs) (hl : bs.length ≤ 1000000000) : PCalls Try.prog 17 [pbytes bs] (· = .tup [pentry (decE bs).1, pint (decE bs).2]) := by
  refine PCalls.weak ?_
  refine pcalls_of_pw typeTab_ok Try.func17 rfl (by kernel_rfl) (by (first | exact low_mapI | exact low_mapS | exact low_mapB | simp [low_val, low_nilsl, low_sl, low_ep, low_agg, low_tup, low_fn, low_pint, low_pstr, low_pbool, low_pints, low_pstrs, low_pbyte, low_pbytes, low_pattrs, low_pdefs, low_pschema, low_pentry])) (by simp [pbytes, PV.ownB]) (by rw [Try.ntmps17]; simp) ?_
  rw [Try.ntmps17, Try.results17]
  have cg := pcGetInts bs hby (by omega)
  obtain ⟨n, u, er, h1⟩ : ∃ n u er, getInts bs = (n, u, er) := ⟨_, _, _, rfl⟩
  rw [h1] at cg
  simp only at cg
  (repeat (first | (with_reducible first | refine PW.seq ?_ | refine PW.block ?_ | refine PW.skip ?_ | refine PW.exit ?_ | refine PW.ret ?_ | refine thenP ?_ | refine thenP_exit ?_ | refine thenP_ret ?_ | refine blockP ?_ | refine blockP_exit ?_ | refine blockP_ret ?_ | refine loopP_exit ?_ | refine loopP_ret ?_) | ((with_reducible refine PWops.idd ?_) ; first | (first | refine PWops.stepA rfl ?_ | refine PWops.doneI rfl ?_ | refine PWops.boolK true rfl rfl rfl rfl (by (first | rfl | assumption | (simp only [decide_eq_true_eq, decide_eq_false_iff_not, bne_iff_ne, beq_iff_eq, beq_eq_false_iff_ne, bne_eq_false_iff_eq, ne_eq] ; omega))) rfl ?_ | refine PWops.boolK false rfl rfl rfl rfl (by (first | rfl | assumption | (simp only [decide_eq_true_eq, decide_eq_false_iff_not, bne_iff_ne, beq_iff_eq, beq_eq_false_iff_ne, bne_eq_false_iff_eq, ne_eq] ; omega))) rfl ?_ | refine PWops.fitsK rfl rfl rfl rfl (by omega) (by omega) rfl ?_ | refine PWops.remK rfl rfl rfl rfl (by omega) rfl ?_ | refine PWops.quoK rfl rfl rfl rfl (by omega) rfl ?_ | refine PWops.app rfl rfl rfl rfl rfl rfl rfl (by omega) (by omega) (by first | rfl | exact one_pint _ | exact one_pstr _ | exact one_pbyte _ | exact one_pattrs _) ?_ | refine PWops.app0 rfl rfl rfl rfl rfl rfl rfl (by omega) (by omega) (by first | rfl | exact one_pint _ | exact one_pstr _ | exact one_pbyte _ | exact one_pattrs _) ?_ | refine PWops.idx1 rfl rfl rfl rfl rfl rfl rfl rfl (by omega) ?_ | refine PWops.idx rfl rfl rfl rfl rfl rfl rfl rfl (by omega) ?_ | refine PWops.ld rfl rfl rfl rfl rfl rfl rfl (by assumption) rfl ?_ | refine PWops.ldA rfl rfl rfl rfl rfl rfl (by omega) (by assumption) ?_ | refine PWops.str rfl rfl rfl rfl rfl rfl rfl rfl rfl rfl rfl ?_) | (first | (refine PWops.call rfl rfl rfl (by assumption) ?_) | refine PWops.idxZ1 rfl rfl rfl rfl rfl rfl rfl rfl (by omega) ?_ | refine PWops.idxZ rfl rfl rfl rfl rfl rfl rfl rfl (by omega) ?_ | refine PWops.ld rfl rfl rfl rfl rfl rfl rfl rfl rfl ?_ | refine PWops.slcL rfl rfl rfl rfl rfl rfl rfl rfl (by omega) ?_ | refine PWops.slcH rfl rfl rfl rfl rfl rfl rfl rfl (by omega) ?_ | refine PWops.slcRL rfl rfl rfl rfl rfl rfl rfl rfl (by intro; rfl) (by omega) ?_ | refine PWops.slcRH rfl rfl rfl rfl rfl rfl rfl rfl (by intro; rfl) (by omega) ?_ | refine PWops.slcM rfl rfl rfl rfl rfl rfl rfl rfl rfl (by omega) ?_ | refine PWops.ldM rfl rfl rfl rfl rfl rfl rfl (by omega) rfl ?_ | refine PWops.ldR rfl rfl rfl rfl rfl rfl rfl (by intro; rfl) (by omega) rfl rfl ?_ | refine PWops.ldRA rfl rfl rfl rfl rfl rfl (by intro; rfl) (by omega) rfl ?_)) | (first | ((with_reducible refine PW.idd ?_) ; (first | refine PW.region typeTab_ok (by kernel_rfl) ?_ | refine PW.draw typeTab_ok (by kernel_rfl) (by kernel_rfl) (by kernel_rfl) ?_ | refine PW.condT rfl ?_ | refine PW.condF rfl ?_ | refine blockP_other (by decide) ?_)) | with_reducible refine blockP_other (by decide) ?_)))
  by_cases g1 : er = 0
  case neg =>
    (repeat (first | (with_reducible first | refine PW.seq ?_ | refine PW.block ?_ | refine PW.skip ?_ | refine PW.exit ?_ | refine PW.ret ?_ | refine thenP ?_ | refine thenP_exit ?_ | refine thenP_ret ?_ | refine blockP ?_ | refine blockP_exit ?_ | refine blockP_ret ?_ | refine loopP_exit ?_ | refine loopP_ret ?_) | ((with_reducible refine PWops.idd ?_) ; first | (first | refine PWops.stepA rfl ?_ | refine PWops.doneI rfl ?_ | refine PWops.boolK true rfl rfl rfl rfl (by (first | rfl | assumption | (simp only [decide_eq_true_eq, decide_eq_false_iff_not, bne_iff_ne, beq_iff_eq, beq_eq_false_iff_ne, bne_eq_false_iff_eq, ne_eq] ; omega))) rfl ?_ | refine PWops.boolK false rfl rfl rfl rfl (by (first | rfl | assumption | (simp only [decide_eq_true_eq, decide_eq_false_iff_not, bne_iff_ne, beq_iff_eq, beq_eq_false_iff_ne, bne_eq_false_iff_eq, ne_eq] ; omega))) rfl ?_ | refine PWops.fitsK rfl rfl rfl rfl (by omega) (by omega) rfl ?_ | refine PWops.remK rfl rfl rfl rfl (by omega) rfl ?_ | refine PWops.quoK rfl rfl rfl rfl (by omega) rfl ?_ | refine PWops.app rfl rfl rfl rfl rfl rfl rfl (by omega) (by omega) (by first | rfl | exact one_pint _ | exact one_pstr _ | exact one_pbyte _ | exact one_pattrs _) ?_ | refine PWops.app0 rfl rfl rfl rfl rfl rfl rfl (by omega) (by omega) (by first | rfl | exact one_pint _ | exact one_pstr _ | exact one_pbyte _ | exact one_pattrs _) ?_ | refine PWops.idx1 rfl rfl rfl rfl rfl rfl rfl rfl (by omega) ?_ | refine PWops.idx rfl rfl rfl rfl rfl rfl rfl rfl (by omega) ?_ | refine PWops.ld rfl rfl rfl rfl rfl rfl rfl (by assumption) rfl ?_ | refine PWops.ldA rfl rfl rfl rfl rfl rfl (by omega) (by assumption) ?_ | refine PWops.str rfl rfl rfl rfl rfl rfl rfl rfl rfl rfl rfl ?_) | (first | (refine PWops.call rfl rfl rfl (by assumption) ?_) | refine PWops.idxZ1 rfl rfl rfl rfl rfl rfl rfl rfl (by omega) ?_ | refine PWops.idxZ rfl rfl rfl rfl rfl rfl rfl rfl (by omega) ?_ | refine PWops.ld rfl rfl rfl rfl rfl rfl rfl rfl rfl ?_ | refine PWops.slcL rfl rfl rfl rfl rfl rfl rfl rfl (by omega) ?_ | refine PWops.slcH rfl rfl rfl rfl rfl rfl rfl rfl (by omega) ?_ | refine PWops.slcRL rfl rfl rfl rfl rfl rfl rfl rfl (by intro; rfl) (by omega) ?_ | refine PWops.slcRH rfl rfl rfl rfl rfl rfl rfl rfl (by intro; rfl) (by omega) ?_ | refine PWops.slcM rfl rfl rfl rfl rfl rfl rfl rfl rfl (by omega) ?_ | refine PWops.ldM rfl rfl rfl rfl rfl rfl rfl (by omega) rfl ?_ | refine PWops.ldR rfl rfl rfl rfl rfl rfl rfl (by intro; rfl) (by omega) rfl rfl ?_ | refine PWops.ldRA rfl rfl rfl rfl rfl rfl (by intro; rfl) (by omega) rfl ?_)) | (first | ((with_reducible refine PW.idd ?_) ; (first | refine PW.region typeTab_ok (by kernel_rfl) ?_ | refine PW.draw typeTab_ok (by kernel_rfl) (by kernel_rfl) (by kernel_rfl) ?_ | refine PW.condT rfl ?_ | refine PW.condF rfl ?_ | refine blockP_other (by decide) ?_)) | with_reducible refine blockP_other (by decide) ?_)))
    refine retP (r := .tup [nilE, pint er]) rfl (low_nilE _) ?_
    have hD : decE bs = (zeroE, er) := by rw [decE, h1, if_pos g1]
    rw [hD]; exact weak_nilE _
  subst g1
  obtain ⟨t1, t2, t3⟩ := getInts_take bs n u hby.all h1
  have t4 := getInts_pos bs n u hby.all h1
  obtain ⟨U, rfl⟩ : ∃ N : Nat, u = N := ⟨u.toNat, by omega⟩
  obtain ⟨s, u2, er2, h2⟩ : ∃ s u2 er2, getStrs (bs.drop U) = (s, u2, er2) := ⟨_, _, _, rfl⟩
  have cs := pcGetStrs (bs.drop U) (hby.drop U) (by rw [List.length_drop]; omega)
  rw [h2] at cs
  simp only at cs
  have hD : decE bs = if er2 ≠ 0 then (zeroE, er2) else if (U : Int) + u2 ≠ bs.length then (zeroE, 11) else match entOf n s with | some e => (e, 0) | none => (zeroE, 11) := by
    rw [decE, h1]; simp only [ne_eq, not_true_eq_false, if_false, Int.toNat_natCast]; first | (rw [h2]; done) | (rw [h2]; rfl)
  (repeat (first | (with_reducible first | refine PW.seq ?_ | refine PW.block ?_ | refine PW.skip ?_ | refine PW.exit ?_ | refine PW.ret ?_ | refine thenP ?_ | refine thenP_exit ?_ | refine thenP_ret ?_ | refine blockP ?_ | refine blockP_exit ?_ | refine blockP_ret ?_ | refine loopP_exit ?_ | refine loopP_ret ?_) | ((with_reducible refine PWops.idd ?_) ; first | (first | refine PWops.stepA rfl ?_ | refine PWops.doneI rfl ?_ | refine PWops.boolK true rfl rfl rfl rfl (by (first | rfl | assumption | (simp only [decide_eq_true_eq, decide_eq_false_iff_not, bne_iff_ne, beq_iff_eq, beq_eq_false_iff_ne, bne_eq_false_iff_eq, ne_eq] ; omega))) rfl ?_ | refine PWops.boolK false rfl rfl rfl rfl (by (first | rfl | assumption | (simp only [decide_eq_true_eq, decide_eq_false_iff_not, bne_iff_ne, beq_iff_eq, beq_eq_false_iff_ne, bne_eq_false_iff_eq, ne_eq] ; omega))) rfl ?_ | refine PWops.fitsK rfl rfl rfl rfl (by omega) (by omega) rfl ?_ | refine PWops.remK rfl rfl rfl rfl (by omega) rfl ?_ | refine PWops.quoK rfl rfl rfl rfl (by omega) rfl ?_ | refine PWops.app rfl rfl rfl rfl rfl rfl rfl (by omega) (by omega) (by first | rfl | exact one_pint _ | exact one_pstr _ | exact one_pbyte _ | exact one_pattrs _) ?_ | refine PWops.app0 rfl rfl rfl rfl rfl rfl rfl (by omega) (by omega) (by first | rfl | exact one_pint _ | exact one_pstr _ | exact one_pbyte _ | exact one_pattrs _) ?_ | refine PWops.idx1 rfl rfl rfl rfl rfl rfl rfl rfl (by omega) ?_ | refine PWops.idx rfl rfl rfl rfl rfl rfl rfl rfl (by omega) ?_ | refine PWops.ld rfl rfl rfl rfl rfl rfl rfl (by assumption) rfl ?_ | refine PWops.ldA rfl rfl rfl rfl rfl rfl (by omega) (by assumption) ?_ | refine PWops.str rfl rfl rfl rfl rfl rfl rfl rfl rfl rfl rfl ?_) | (first | (refine PWops.call rfl rfl rfl (by assumption) ?_) | refine PWops.idxZ1 rfl rfl rfl rfl rfl rfl rfl rfl (by omega) ?_ | refine PWops.idxZ rfl rfl rfl rfl rfl rfl rfl rfl (by omega) ?_ | refine PWops.ld rfl rfl rfl rfl rfl rfl rfl rfl rfl ?_ | refine PWops.slcL rfl rfl rfl rfl rfl rfl rfl rfl (by omega) ?_ | refine PWops.slcH rfl rfl rfl rfl rfl rfl rfl rfl (by omega) ?_ | refine PWops.slcRL rfl rfl rfl rfl rfl rfl rfl rfl (by intro; rfl) (by omega) ?_ | refine PWops.slcRH rfl rfl rfl rfl rfl rfl rfl rfl (by intro; rfl) (by omega) ?_ | refine PWops.slcM rfl rfl rfl rfl rfl rfl rfl rfl rfl (by omega) ?_ | refine PWops.ldM rfl rfl rfl rfl rfl rfl rfl (by omega) rfl ?_ | refine PWops.ldR rfl rfl rfl rfl rfl rfl rfl (by intro; rfl) (by omega) rfl rfl ?_ | refine PWops.ldRA rfl rfl rfl rfl rfl rfl (by intro; rfl) (by omega) rfl ?_)) | (first | ((with_reducible refine PW.idd ?_) ; (first | refine PW.region typeTab_ok (by kernel_rfl) ?_ | refine PW.draw typeTab_ok (by kernel_rfl) (by kernel_rfl) (by kernel_rfl) ?_ | refine PW.condT rfl ?_ | refine PW.condF rfl ?_ | refine blockP_other (by decide) ?_)) | with_reducible refine blockP_other (by decide) ?_)))
  by_cases g2 : er2 = 0
  case neg =>
    (repeat (first | (with_reducible first | refine PW.seq ?_ | refine PW.block ?_ | refine PW.skip ?_ | refine PW.exit ?_ | refine PW.ret ?_ | refine thenP ?_ | refine thenP_exit ?_ | refine thenP_ret ?_ | refine blockP ?_ | refine blockP_exit ?_ | refine blockP_ret ?_ | refine loopP_exit ?_ | refine loopP_ret ?_) | ((with_reducible refine PWops.idd ?_) ; first | (first | refine PWops.stepA rfl ?_ | refine PWops.doneI rfl ?_ | refine PWops.boolK true rfl rfl rfl rfl (by (first | rfl | assumption | (simp only [decide_eq_true_eq, decide_eq_false_iff_not, bne_iff_ne, beq_iff_eq, beq_eq_false_iff_ne, bne_eq_false_iff_eq, ne_eq] ; omega))) rfl ?_ | refine PWops.boolK false rfl rfl rfl rfl (by (first | rfl | assumption | (simp only [decide_eq_true_eq, decide_eq_false_iff_not, bne_iff_ne, beq_iff_eq, beq_eq_false_iff_ne, bne_eq_false_iff_eq, ne_eq] ; omega))) rfl ?_ | refine PWops.fitsK rfl rfl rfl rfl (by omega) (by omega) rfl ?_ | refine PWops.remK rfl rfl rfl rfl (by omega) rfl ?_ | refine PWops.quoK rfl rfl rfl rfl (by omega) rfl ?_ | refine PWops.app rfl rfl rfl rfl rfl rfl rfl (by omega) (by omega) (by first | rfl | exact one_pint _ | exact one_pstr _ | exact one_pbyte _ | exact one_pattrs _) ?_ | refine PWops.app0 rfl rfl rfl rfl rfl rfl rfl (by omega) (by omega) (by first | rfl | exact one_pint _ | exact one_pstr _ | exact one_pbyte _ | exact one_pattrs _) ?_ | refine PWops.idx1 rfl rfl rfl rfl rfl rfl rfl rfl (by omega) ?_ | refine PWops.idx rfl rfl rfl rfl rfl rfl rfl rfl (by omega) ?_ | refine PWops.ld rfl rfl rfl rfl rfl rfl rfl (by assumption) rfl ?_ | refine PWops.ldA rfl rfl rfl rfl rfl rfl (by omega) (by assumption) ?_ | refine PWops.str rfl rfl rfl rfl rfl rfl rfl rfl rfl rfl rfl ?_) | (first | (refine PWops.call rfl rfl rfl (by assumption) ?_) | refine PWops.idxZ1 rfl rfl rfl rfl rfl rfl rfl rfl (by omega) ?_ | refine PWops.idxZ rfl rfl rfl rfl rfl rfl rfl rfl (by omega) ?_ | refine PWops.ld rfl rfl rfl rfl rfl rfl rfl rfl rfl ?_ | refine PWops.slcL rfl rfl rfl rfl rfl rfl rfl rfl (by omega) ?_ | refine PWops.slcH rfl rfl rfl rfl rfl rfl rfl rfl (by omega) ?_ | refine PWops.slcRL rfl rfl rfl rfl rfl rfl rfl rfl (by intro; rfl) (by omega) ?_ | refine PWops.slcRH rfl rfl rfl rfl rfl rfl rfl rfl (by intro; rfl) (by omega) ?_ | refine PWops.slcM rfl rfl rfl rfl rfl rfl rfl rfl rfl (by omega) ?_ | refine PWops.ldM rfl rfl rfl rfl rfl rfl rfl (by omega) rfl ?_ | refine PWops.ldR rfl rfl rfl rfl rfl rfl rfl (by intro; rfl) (by omega) rfl rfl ?_ | refine PWops.ldRA rfl rfl rfl rfl rfl rfl (by intro; rfl) (by omega) rfl ?_)) | (first | ((with_reducible refine PW.idd ?_) ; (first | refine PW.region typeTab_ok (by kernel_rfl) ?_ | refine PW.draw typeTab_ok (by kernel_rfl) (by kernel_rfl) (by kernel_rfl) ?_ | refine PW.condT rfl ?_ | refine PW.condF rfl ?_ | refine blockP_other (by decide) ?_)) | with_reducible refine blockP_other (by decide) ?_)))
    refine retP (r := .tup [nilE, pint er2]) rfl (low_nilE _) ?_
    rw [hD, if_pos g2]; exact weak_nilE _
  subst g2
  obtain ⟨t5, t6, t7⟩ := getStrs_take (bs.drop U) s u2 (hby.drop U).all h2
  have t8 := getInts_short bs n U hby.all h1
  have t9 := (getStrs_len (bs.drop U) s u2 (hby.drop U).all h2).1
  rw [List.length_drop] at t7 t9
  (repeat (first | (with_reducible first | refine PW.seq ?_ | refine PW.block ?_ | refine PW.skip ?_ | refine PW.exit ?_ | refine PW.ret ?_ | refine thenP ?_ | refine thenP_exit ?_ | refine thenP_ret ?_ | refine blockP ?_ | refine blockP_exit ?_ | refine blockP_ret ?_ | refine loopP_exit ?_ | refine loopP_ret ?_) | ((with_reducible refine PWops.idd ?_) ; first | (first | refine PWops.stepA rfl ?_ | refine PWops.doneI rfl ?_ | refine PWops.boolK true rfl rfl rfl rfl (by (first | rfl | assumption | (simp only [decide_eq_true_eq, decide_eq_false_iff_not, bne_iff_ne, beq_iff_eq, beq_eq_false_iff_ne, bne_eq_false_iff_eq, ne_eq] ; omega))) rfl ?_ | refine PWops.boolK false rfl rfl rfl rfl (by (first | rfl | assumption | (simp only [decide_eq_true_eq, decide_eq_false_iff_not, bne_iff_ne, beq_iff_eq, beq_eq_false_iff_ne, bne_eq_false_iff_eq, ne_eq] ; omega))) rfl ?_ | refine PWops.fitsK rfl rfl rfl rfl (by omega) (by omega) rfl ?_ | refine PWops.remK rfl rfl rfl rfl (by omega) rfl ?_ | refine PWops.quoK rfl rfl rfl rfl (by omega) rfl ?_ | refine PWops.app rfl rfl rfl rfl rfl rfl rfl (by omega) (by omega) (by first | rfl | exact one_pint _ | exact one_pstr _ | exact one_pbyte _ | exact one_pattrs _) ?_ | refine PWops.app0 rfl rfl rfl rfl rfl rfl rfl (by omega) (by omega) (by first | rfl | exact one_pint _ | exact one_pstr _ | exact one_pbyte _ | exact one_pattrs _) ?_ | refine PWops.idx1 rfl rfl rfl rfl rfl rfl rfl rfl (by omega) ?_ | refine PWops.idx rfl rfl rfl rfl rfl rfl rfl rfl (by omega) ?_ | refine PWops.ld rfl rfl rfl rfl rfl rfl rfl (by assumption) rfl ?_ | refine PWops.ldA rfl rfl rfl rfl rfl rfl (by omega) (by assumption) ?_ | refine PWops.str rfl rfl rfl rfl rfl rfl rfl rfl rfl rfl rfl ?_) | (first | (refine PWops.call rfl rfl rfl (by assumption) ?_) | refine PWops.idxZ1 rfl rfl rfl rfl rfl rfl rfl rfl (by omega) ?_ | refine PWops.idxZ rfl rfl rfl rfl rfl rfl rfl rfl (by omega) ?_ | refine PWops.ld rfl rfl rfl rfl rfl rfl rfl rfl rfl ?_ | refine PWops.slcL rfl rfl rfl rfl rfl rfl rfl rfl (by omega) ?_ | refine PWops.slcH rfl rfl rfl rfl rfl rfl rfl rfl (by omega) ?_ | refine PWops.slcRL rfl rfl rfl rfl rfl rfl rfl rfl (by intro; rfl) (by omega) ?_ | refine PWops.slcRH rfl rfl rfl rfl rfl rfl rfl rfl (by intro; rfl) (by omega) ?_ | refine PWops.slcM rfl rfl rfl rfl rfl rfl rfl rfl rfl (by omega) ?_ | refine PWops.ldM rfl rfl rfl rfl rfl rfl rfl (by omega) rfl ?_ | refine PWops.ldR rfl rfl rfl rfl rfl rfl rfl (by intro; rfl) (by omega) rfl rfl ?_ | refine PWops.ldRA rfl rfl rfl rfl rfl rfl (by intro; rfl) (by omega) rfl ?_)) | (first | ((with_reducible refine PW.idd ?_) ; (first | refine PW.region typeTab_ok (by kernel_rfl) ?_ | refine PW.draw typeTab_ok (by kernel_rfl) (by kernel_rfl) (by kernel_rfl) ?_ | refine PW.condT rfl ?_ | refine PW.condF rfl ?_ | refine blockP_other (by decide) ?_)) | with_reducible refine blockP_other (by decide) ?_)))
  by_cases g3 : (U : Int) + u2 = bs.length
  case neg =>
    (repeat (first | (with_reducible first | refine PW.seq ?_ | refine PW.block ?_ | refine PW.skip ?_ | refine PW.exit ?_ | refine PW.ret ?_ | refine thenP ?_ | refine thenP_exit ?_ | refine thenP_ret ?_ | refine blockP ?_ | refine blockP_exit ?_ | refine blockP_ret ?_ | refine loopP_exit ?_ | refine loopP_ret ?_) | ((with_reducible refine PWops.idd ?_) ; first | (first | refine PWops.stepA rfl ?_ | refine PWops.doneI rfl ?_ | refine PWops.boolK true rfl rfl rfl rfl (by (first | rfl | assumption | (simp only [decide_eq_true_eq, decide_eq_false_iff_not, bne_iff_ne, beq_iff_eq, beq_eq_false_iff_ne, bne_eq_false_iff_eq, ne_eq] ; omega))) rfl ?_ | refine PWops.boolK false rfl rfl rfl rfl (by (first | rfl | assumption | (simp only [decide_eq_true_eq, decide_eq_false_iff_not, bne_iff_ne, beq_iff_eq, beq_eq_false_iff_ne, bne_eq_false_iff_eq, ne_eq] ; omega))) rfl ?_ | refine PWops.fitsK rfl rfl rfl rfl (by omega) (by omega) rfl ?_ | refine PWops.remK rfl rfl rfl rfl (by omega) rfl ?_ | refine PWops.quoK rfl rfl rfl rfl (by omega) rfl ?_ | refine PWops.app rfl rfl rfl rfl rfl rfl rfl (by omega) (by omega) (by first | rfl | exact one_pint _ | exact one_pstr _ | exact one_pbyte _ | exact one_pattrs _) ?_ | refine PWops.app0 rfl rfl rfl rfl rfl rfl rfl (by omega) (by omega) (by first | rfl | exact one_pint _ | exact one_pstr _ | exact one_pbyte _ | exact one_pattrs _) ?_ | refine PWops.idx1 rfl rfl rfl rfl rfl rfl rfl rfl (by omega) ?_ | refine PWops.idx rfl rfl rfl rfl rfl rfl rfl rfl (by omega) ?_ | refine PWops.ld rfl rfl rfl rfl rfl rfl rfl (by assumption) rfl ?_ | refine PWops.ldA rfl rfl rfl rfl rfl rfl (by omega) (by assumption) ?_ | refine PWops.str rfl rfl rfl rfl rfl rfl rfl rfl rfl rfl rfl ?_) | (first | (refine PWops.call rfl rfl rfl (by assumption) ?_) | refine PWops.idxZ1 rfl rfl rfl rfl rfl rfl rfl rfl (by omega) ?_ | refine PWops.idxZ rfl rfl rfl rfl rfl rfl rfl rfl (by omega) ?_ | refine PWops.ld rfl rfl rfl rfl rfl rfl rfl rfl rfl ?_ | refine PWops.slcL rfl rfl rfl rfl rfl rfl rfl rfl (by omega) ?_ | refine PWops.slcH rfl rfl rfl rfl rfl rfl rfl rfl (by omega) ?_ | refine PWops.slcRL rfl rfl rfl rfl rfl rfl rfl rfl (by intro; rfl) (by omega) ?_ | refine PWops.slcRH rfl rfl rfl rfl rfl rfl rfl rfl (by intro; rfl) (by omega) ?_ | refine PWops.slcM rfl rfl rfl rfl rfl rfl rfl rfl rfl (by omega) ?_ | refine PWops.ldM rfl rfl rfl rfl rfl rfl rfl (by omega) rfl ?_ | refine PWops.ldR rfl rfl rfl rfl rfl rfl rfl (by intro; rfl) (by omega) rfl rfl ?_ | refine PWops.ldRA rfl rfl rfl rfl rfl rfl (by intro; rfl) (by omega) rfl ?_)) | (first | ((with_reducible refine PW.idd ?_) ; (first | refine PW.region typeTab_ok (by kernel_rfl) ?_ | refine PW.draw typeTab_ok (by kernel_rfl) (by kernel_rfl) (by kernel_rfl) ?_ | refine PW.condT rfl ?_ | refine PW.condF rfl ?_ | refine blockP_other (by decide) ?_)) | with_reducible refine blockP_other (by decide) ?_)))
    refine retP (r := .tup [nilE, pint 11]) rfl (low_nilE _) ?_
    rw [hD, if_neg (by simp), if_pos g3]; exact weak_nilE _
  have hD2 : decE bs = match entOf n s with | some e => (e, 0) | none => (zeroE, 11) := by rw [hD, if_neg (by simp), if_neg (by simp [g3])]
  (repeat (first | (with_reducible first | refine PW.seq ?_ | refine PW.block ?_ | refine PW.skip ?_ | refine PW.exit ?_ | refine PW.ret ?_ | refine thenP ?_ | refine thenP_exit ?_ | refine thenP_ret ?_ | refine blockP ?_ | refine blockP_exit ?_ | refine blockP_ret ?_ | refine loopP_exit ?_ | refine loopP_ret ?_) | ((with_reducible refine PWops.idd ?_) ; first | (first | refine PWops.stepA rfl ?_ | refine PWops.doneI rfl ?_ | refine PWops.boolK true rfl rfl rfl rfl (by (first | rfl | assumption | (simp only [decide_eq_true_eq, decide_eq_false_iff_not, bne_iff_ne, beq_iff_eq, beq_eq_false_iff_ne, bne_eq_false_iff_eq, ne_eq] ; omega))) rfl ?_ | refine PWops.boolK false rfl rfl rfl rfl (by (first | rfl | assumption | (simp only [decide_eq_true_eq, decide_eq_false_iff_not, bne_iff_ne, beq_iff_eq, beq_eq_false_iff_ne, bne_eq_false_iff_eq, ne_eq] ; omega))) rfl ?_ | refine PWops.fitsK rfl rfl rfl rfl (by omega) (by omega) rfl ?_ | refine PWops.remK rfl rfl rfl rfl (by omega) rfl ?_ | refine PWops.quoK rfl rfl rfl rfl (by omega) rfl ?_ | refine PWops.app rfl rfl rfl rfl rfl rfl rfl (by omega) (by omega) (by first | rfl | exact one_pint _ | exact one_pstr _ | exact one_pbyte _ | exact one_pattrs _) ?_ | refine PWops.app0 rfl rfl rfl rfl rfl rfl rfl (by omega) (by omega) (by first | rfl | exact one_pint _ | exact one_pstr _ | exact one_pbyte _ | exact one_pattrs _) ?_ | refine PWops.idx1 rfl rfl rfl rfl rfl rfl rfl rfl (by omega) ?_ | refine PWops.idx rfl rfl rfl rfl rfl rfl rfl rfl (by omega) ?_ | refine PWops.ld rfl rfl rfl rfl rfl rfl rfl (by assumption) rfl ?_ | refine PWops.ldA rfl rfl rfl rfl rfl rfl (by omega) (by assumption) ?_ | refine PWops.str rfl rfl rfl rfl rfl rfl rfl rfl rfl rfl rfl ?_) | (first | (refine PWops.call rfl rfl rfl (by assumption) ?_) | refine PWops.idxZ1 rfl rfl rfl rfl rfl rfl rfl rfl (by omega) ?_ | refine PWops.idxZ rfl rfl rfl rfl rfl rfl rfl rfl (by omega) ?_ | refine PWops.ld rfl rfl rfl rfl rfl rfl rfl rfl rfl ?_ | refine PWops.slcL rfl rfl rfl rfl rfl rfl rfl rfl (by omega) ?_ | refine PWops.slcH rfl rfl rfl rfl rfl rfl rfl rfl (by omega) ?_ | refine PWops.slcRL rfl rfl rfl rfl rfl rfl rfl rfl (by intro; rfl) (by omega) ?_ | refine PWops.slcRH rfl rfl rfl rfl rfl rfl rfl rfl (by intro; rfl) (by omega) ?_ | refine PWops.slcM rfl rfl rfl rfl rfl rfl rfl rfl rfl (by omega) ?_ | refine PWops.ldM rfl rfl rfl rfl rfl rfl rfl (by omega) rfl ?_ | refine PWops.ldR rfl rfl rfl rfl rfl rfl rfl (by intro; rfl) (by omega) rfl rfl ?_ | refine PWops.ldRA rfl rfl rfl rfl rfl rfl (by intro; rfl) (by omega) rfl ?_)) | (first | ((with_reducible refine PW.idd ?_) ; (first | refine PW.region typeTab_ok (by kernel_rfl) ?_ | refine PW.draw typeTab_ok (by kernel_rfl) (by kernel_rfl) (by kernel_rfl) ?_ | refine PW.condT rfl ?_ | refine PW.condF rfl ?_ | refine blockP_other (by decide) ?_)) | with_reducible refine blockP_other (by decide) ?_)))
  by_cases g4 : n.length < 9
  · have hN : entOf n s = none := entOf_short n s g4
    (repeat (first | (with_reducible first | refine PW.seq ?_ | refine PW.block ?_ | refine PW.skip ?_ | refine PW.exit ?_ | refine PW.ret ?_ | refine thenP ?_ | refine thenP_exit ?_ | refine thenP_ret ?_ | refine blockP ?_ | refine blockP_exit ?_ | refine blockP_ret ?_ | refine loopP_exit ?_ | refine loopP_ret ?_) | ((with_reducible refine PWops.idd ?_) ; first | (first | refine PWops.stepA rfl ?_ | refine PWops.doneI rfl ?_ | refine PWops.boolK true rfl rfl rfl rfl (by (first | rfl | assumption | (simp only [decide_eq_true_eq, decide_eq_false_iff_not, bne_iff_ne, beq_iff_eq, beq_eq_false_iff_ne, bne_eq_false_iff_eq, ne_eq] ; omega))) rfl ?_ | refine PWops.boolK false rfl rfl rfl rfl (by (first | rfl | assumption | (simp only [decide_eq_true_eq, decide_eq_false_iff_not, bne_iff_ne, beq_iff_eq, beq_eq_false_iff_ne, bne_eq_false_iff_eq, ne_eq] ; omega))) rfl ?_ | refine PWops.fitsK rfl rfl rfl rfl (by omega) (by omega) rfl ?_ | refine PWops.remK rfl rfl rfl rfl (by omega) rfl ?_ | refine PWops.quoK rfl rfl rfl rfl (by omega) rfl ?_ | refine PWops.app rfl rfl rfl rfl rfl rfl rfl (by omega) (by omega) (by first | rfl | exact one_pint _ | exact one_pstr _ | exact one_pbyte _ | exact one_pattrs _) ?_ | refine PWops.app0 rfl rfl rfl rfl rfl rfl rfl (by omega) (by omega) (by first | rfl | exact one_pint _ | exact one_pstr _ | exact one_pbyte _ | exact one_pattrs _) ?_ | refine PWops.idx1 rfl rfl rfl rfl rfl rfl rfl rfl (by omega) ?_ | refine PWops.idx rfl rfl rfl rfl rfl rfl rfl rfl (by omega) ?_ | refine PWops.ld rfl rfl rfl rfl rfl rfl rfl (by assumption) rfl ?_ | refine PWops.ldA rfl rfl rfl rfl rfl rfl (by omega) (by assumption) ?_ | refine PWops.str rfl rfl rfl rfl rfl rfl rfl rfl rfl rfl rfl ?_) | (first | (refine PWops.call rfl rfl rfl (by assumption) ?_) | refine PWops.idxZ1 rfl rfl rfl rfl rfl rfl rfl rfl (by omega) ?_ | refine PWops.idxZ rfl rfl rfl rfl rfl rfl rfl rfl (by omega) ?_ | refine PWops.ld rfl rfl rfl rfl rfl rfl rfl rfl rfl ?_ | refine PWops.slcL rfl rfl rfl rfl rfl rfl rfl rfl (by omega) ?_ | refine PWops.slcH rfl rfl rfl rfl rfl rfl rfl rfl (by omega) ?_ | refine PWops.slcRL rfl rfl rfl rfl rfl rfl rfl rfl (by intro; rfl) (by omega) ?_ | refine PWops.slcRH rfl rfl rfl rfl rfl rfl rfl rfl (by intro; rfl) (by omega) ?_ | refine PWops.slcM rfl rfl rfl rfl rfl rfl rfl rfl rfl (by omega) ?_ | refine PWops.ldM rfl rfl rfl rfl rfl rfl rfl (by omega) rfl ?_ | refine PWops.ldR rfl rfl rfl rfl rfl rfl rfl (by intro; rfl) (by omega) rfl rfl ?_ | refine PWops.ldRA rfl rfl rfl rfl rfl rfl (by intro; rfl) (by omega) rfl ?_)) | (first | ((with_reducible refine PW.idd ?_) ; (first | refine PW.region typeTab_ok (by kernel_rfl) ?_ | refine PW.draw typeTab_ok (by kernel_rfl) (by kernel_rfl) (by kernel_rfl) ?_ | refine PW.condT rfl ?_ | refine PW.condF rfl ?_ | refine blockP_other (by decide) ?_)) | with_reducible refine blockP_other (by decide) ?_)))
    refine retP (r := .tup [nilE, pint 11]) rfl (low_nilE _) ?_
    rw [hD2, hN]; exact weak_nilE _
  obtain ⟨i, v, o, f, a, t, b, c, r, rfl⟩ := entOf_eight n (by omega)
  have hlr : (i :: v :: o :: f :: a :: t :: b :: c :: r).length = r.length + 8 := rfl
  clear hD h1 t1
  (repeat (first | (with_reducible first | refine PW.seq ?_ | refine PW.block ?_ | refine PW.skip ?_ | refine PW.exit ?_ | refine PW.ret ?_ | refine thenP ?_ | refine thenP_exit ?_ | refine thenP_ret ?_ | refine blockP ?_ | refine blockP_exit ?_ | refine blockP_ret ?_ | refine loopP_exit ?_ | refine loopP_ret ?_) | ((with_reducible refine PWops.idd ?_) ; first | (first | refine PWops.stepA rfl ?_ | refine PWops.doneI rfl ?_ | refine PWops.boolK true rfl rfl rfl rfl (by (first | rfl | assumption | (simp only [decide_eq_true_eq, decide_eq_false_iff_not, bne_iff_ne, beq_iff_eq, beq_eq_false_iff_ne, bne_eq_false_iff_eq, ne_eq] ; omega))) rfl ?_ | refine PWops.boolK false rfl rfl rfl rfl (by (first | rfl | assumption | (simp only [decide_eq_true_eq, decide_eq_false_iff_not, bne_iff_ne, beq_iff_eq, beq_eq_false_iff_ne, bne_eq_false_iff_eq, ne_eq] ; omega))) rfl ?_ | refine PWops.fitsK rfl rfl rfl rfl (by omega) (by omega) rfl ?_ | refine PWops.remK rfl rfl rfl rfl (by omega) rfl ?_ | refine PWops.quoK rfl rfl rfl rfl (by omega) rfl ?_ | refine PWops.app rfl rfl rfl rfl rfl rfl rfl (by omega) (by omega) (by first | rfl | exact one_pint _ | exact one_pstr _ | exact one_pbyte _ | exact one_pattrs _) ?_ | refine PWops.app0 rfl rfl rfl rfl rfl rfl rfl (by omega) (by omega) (by first | rfl | exact one_pint _ | exact one_pstr _ | exact one_pbyte _ | exact one_pattrs _) ?_ | refine PWops.idx1 rfl rfl rfl rfl rfl rfl rfl rfl (by omega) ?_ | refine PWops.idx rfl rfl rfl rfl rfl rfl rfl rfl (by omega) ?_ | refine PWops.ld rfl rfl rfl rfl rfl rfl rfl (by assumption) rfl ?_ | refine PWops.ldA rfl rfl rfl rfl rfl rfl (by omega) (by assumption) ?_ | refine PWops.str rfl rfl rfl rfl rfl rfl rfl rfl rfl rfl rfl ?_) | (first | (refine PWops.call rfl rfl rfl (by assumption) ?_) | refine PWops.idxZ1 rfl rfl rfl rfl rfl rfl rfl rfl (by omega) ?_ | refine PWops.idxZ rfl rfl rfl rfl rfl rfl rfl rfl (by omega) ?_ | refine PWops.ld rfl rfl rfl rfl rfl rfl rfl rfl rfl ?_ | refine PWops.slcL rfl rfl rfl rfl rfl rfl rfl rfl (by omega) ?_ | refine PWops.slcH rfl rfl rfl rfl rfl rfl rfl rfl (by omega) ?_ | refine PWops.slcRL rfl rfl rfl rfl rfl rfl rfl rfl (by intro; rfl) (by omega) ?_ | refine PWops.slcRH rfl rfl rfl rfl rfl rfl rfl rfl (by intro; rfl) (by omega) ?_ | refine PWops.slcM rfl rfl rfl rfl rfl rfl rfl rfl rfl (by omega) ?_ | refine PWops.ldM rfl rfl rfl rfl rfl rfl rfl (by omega) rfl ?_ | refine PWops.ldR rfl rfl rfl rfl rfl rfl rfl (by intro; rfl) (by omega) rfl rfl ?_ | refine PWops.ldRA rfl rfl rfl rfl rfl rfl (by intro; rfl) (by omega) rfl ?_)) | (first | ((with_reducible refine PW.idd ?_) ; (first | refine PW.region typeTab_ok (by kernel_rfl) ?_ | refine PW.draw typeTab_ok (by kernel_rfl) (by kernel_rfl) (by kernel_rfl) ?_ | refine PW.condT rfl ?_ | refine PW.condF rfl ?_ | refine blockP_other (by decide) ?_)) | with_reducible refine blockP_other (by decide) ?_)))
  by_cases g5 : c < 0
  · have hN : entOf (i :: v :: o :: f :: a :: t :: b :: c :: r) s = none := by rw [entOf, if_pos (.inl g5)]
    (repeat (first | (with_reducible first | refine PW.seq ?_ | refine PW.block ?_ | refine PW.skip ?_ | refine PW.exit ?_ | refine PW.ret ?_ | refine thenP ?_ | refine thenP_exit ?_ | refine thenP_ret ?_ | refine blockP ?_ | refine blockP_exit ?_ | refine blockP_ret ?_ | refine loopP_exit ?_ | refine loopP_ret ?_) | ((with_reducible refine PWops.idd ?_) ; first | (first | refine PWops.stepA rfl ?_ | refine PWops.doneI rfl ?_ | refine PWops.boolK true rfl rfl rfl rfl (by (first | rfl | assumption | (simp only [decide_eq_true_eq, decide_eq_false_iff_not, bne_iff_ne, beq_iff_eq, beq_eq_false_iff_ne, bne_eq_false_iff_eq, ne_eq] ; omega))) rfl ?_ | refine PWops.boolK false rfl rfl rfl rfl (by (first | rfl | assumption | (simp only [decide_eq_true_eq, decide_eq_false_iff_not, bne_iff_ne, beq_iff_eq, beq_eq_false_iff_ne, bne_eq_false_iff_eq, ne_eq] ; omega))) rfl ?_ | refine PWops.fitsK rfl rfl rfl rfl (by omega) (by omega) rfl ?_ | refine PWops.remK rfl rfl rfl rfl (by omega) rfl ?_ | refine PWops.quoK rfl rfl rfl rfl (by omega) rfl ?_ | refine PWops.app rfl rfl rfl rfl rfl rfl rfl (by omega) (by omega) (by first | rfl | exact one_pint _ | exact one_pstr _ | exact one_pbyte _ | exact one_pattrs _) ?_ | refine PWops.app0 rfl rfl rfl rfl rfl rfl rfl (by omega) (by omega) (by first | rfl | exact one_pint _ | exact one_pstr _ | exact one_pbyte _ | exact one_pattrs _) ?_ | refine PWops.idx1 rfl rfl rfl rfl rfl rfl rfl rfl (by omega) ?_ | refine PWops.idx rfl rfl rfl rfl rfl rfl rfl rfl (by omega) ?_ | refine PWops.ld rfl rfl rfl rfl rfl rfl rfl (by assumption) rfl ?_ | refine PWops.ldA rfl rfl rfl rfl rfl rfl (by omega) (by assumption) ?_ | refine PWops.str rfl rfl rfl rfl rfl rfl rfl rfl rfl rfl rfl ?_) | (first | (refine PWops.call rfl rfl rfl (by assumption) ?_) | refine PWops.idxZ1 rfl rfl rfl rfl rfl rfl rfl rfl (by omega) ?_ | refine PWops.idxZ rfl rfl rfl rfl rfl rfl rfl rfl (by omega) ?_ | refine PWops.ld rfl rfl rfl rfl rfl rfl rfl rfl rfl ?_ | refine PWops.slcL rfl rfl rfl rfl rfl rfl rfl rfl (by omega) ?_ | refine PWops.slcH rfl rfl rfl rfl rfl rfl rfl rfl (by omega) ?_ | refine PWops.slcRL rfl rfl rfl rfl rfl rfl rfl rfl (by intro; rfl) (by omega) ?_ | refine PWops.slcRH rfl rfl rfl rfl rfl rfl rfl rfl (by intro; rfl) (by omega) ?_ | refine PWops.slcM rfl rfl rfl rfl rfl rfl rfl rfl rfl (by omega) ?_ | refine PWops.ldM rfl rfl rfl rfl rfl rfl rfl (by omega) rfl ?_ | refine PWops.ldR rfl rfl rfl rfl rfl rfl rfl (by intro; rfl) (by omega) rfl rfl ?_ | refine PWops.ldRA rfl rfl rfl rfl rfl rfl (by intro; rfl) (by omega) rfl ?_)) | (first | ((with_reducible refine PW.idd ?_) ; (first | refine PW.region typeTab_ok (by kernel_rfl) ?_ | refine PW.draw typeTab_ok (by kernel_rfl) (by kernel_rfl) (by kernel_rfl) ?_ | refine PW.condT rfl ?_ | refine PW.condF rfl ?_ | refine blockP_other (by decide) ?_)) | with_reducible refine blockP_other (by decide) ?_)))
    refine retP (r := .tup [nilE, pint 11]) rfl (low_nilE _) ?_
    rw [hD2, hN]; exact weak_nilE _
  obtain ⟨C, rfl⟩ : ∃ N : Nat, c = N := ⟨c.toNat, by omega⟩
  (repeat (first | (with_reducible first | refine PW.seq ?_ | refine PW.block ?_ | refine PW.skip ?_ | refine PW.exit ?_ | refine PW.ret ?_ | refine thenP ?_ | refine thenP_exit ?_ | refine thenP_ret ?_ | refine blockP ?_ | refine blockP_exit ?_ | refine blockP_ret ?_ | refine loopP_exit ?_ | refine loopP_ret ?_) | ((with_reducible refine PWops.idd ?_) ; first | (first | refine PWops.stepA rfl ?_ | refine PWops.doneI rfl ?_ | refine PWops.boolK true rfl rfl rfl rfl (by (first | rfl | assumption | (simp only [decide_eq_true_eq, decide_eq_false_iff_not, bne_iff_ne, beq_iff_eq, beq_eq_false_iff_ne, bne_eq_false_iff_eq, ne_eq] ; omega))) rfl ?_ | refine PWops.boolK false rfl rfl rfl rfl (by (first | rfl | assumption | (simp only [decide_eq_true_eq, decide_eq_false_iff_not, bne_iff_ne, beq_iff_eq, beq_eq_false_iff_ne, bne_eq_false_iff_eq, ne_eq] ; omega))) rfl ?_ | refine PWops.fitsK rfl rfl rfl rfl (by omega) (by omega) rfl ?_ | refine PWops.remK rfl rfl rfl rfl (by omega) rfl ?_ | refine PWops.quoK rfl rfl rfl rfl (by omega) rfl ?_ | refine PWops.app rfl rfl rfl rfl rfl rfl rfl (by omega) (by omega) (by first | rfl | exact one_pint _ | exact one_pstr _ | exact one_pbyte _ | exact one_pattrs _) ?_ | refine PWops.app0 rfl rfl rfl rfl rfl rfl rfl (by omega) (by omega) (by first | rfl | exact one_pint _ | exact one_pstr _ | exact one_pbyte _ | exact one_pattrs _) ?_ | refine PWops.idx1 rfl rfl rfl rfl rfl rfl rfl rfl (by omega) ?_ | refine PWops.idx rfl rfl rfl rfl rfl rfl rfl rfl (by omega) ?_ | refine PWops.ld rfl rfl rfl rfl rfl rfl rfl (by assumption) rfl ?_ | refine PWops.ldA rfl rfl rfl rfl rfl rfl (by omega) (by assumption) ?_ | refine PWops.str rfl rfl rfl rfl rfl rfl rfl rfl rfl rfl rfl ?_) | (first | (refine PWops.call rfl rfl rfl (by assumption) ?_) | refine PWops.idxZ1 rfl rfl rfl rfl rfl rfl rfl rfl (by omega) ?_ | refine PWops.idxZ rfl rfl rfl rfl rfl rfl rfl rfl (by omega) ?_ | refine PWops.ld rfl rfl rfl rfl rfl rfl rfl rfl rfl ?_ | refine PWops.slcL rfl rfl rfl rfl rfl rfl rfl rfl (by omega) ?_ | refine PWops.slcH rfl rfl rfl rfl rfl rfl rfl rfl (by omega) ?_ | refine PWops.slcRL rfl rfl rfl rfl rfl rfl rfl rfl (by intro; rfl) (by omega) ?_ | refine PWops.slcRH rfl rfl rfl rfl rfl rfl rfl rfl (by intro; rfl) (by omega) ?_ | refine PWops.slcM rfl rfl rfl rfl rfl rfl rfl rfl rfl (by omega) ?_ | refine PWops.ldM rfl rfl rfl rfl rfl rfl rfl (by omega) rfl ?_ | refine PWops.ldR rfl rfl rfl rfl rfl rfl rfl (by intro; rfl) (by omega) rfl rfl ?_ | refine PWops.ldRA rfl rfl rfl rfl rfl rfl (by intro; rfl) (by omega) rfl ?_)) | (first | ((with_reducible refine PW.idd ?_) ; (first | refine PW.region typeTab_ok (by kernel_rfl) ?_ | refine PW.draw typeTab_ok (by kernel_rfl) (by kernel_rfl) (by kernel_rfl) ?_ | refine PW.condT rfl ?_ | refine PW.condF rfl ?_ | refine blockP_other (by decide) ?_)) | with_reducible refine blockP_other (by decide) ?_)))
  by_cases g6 : (r.length : Int) - 1 < C
  · have hN : entOf (i :: v :: o :: f :: a :: t :: b :: (C : Int) :: r) s = none := by rw [entOf, if_pos (.inr g6)]
    (repeat (first | (with_reducible first | refine PW.seq ?_ | refine PW.block ?_ | refine PW.skip ?_ | refine PW.exit ?_ | refine PW.ret ?_ | refine thenP ?_ | refine thenP_exit ?_ | refine thenP_ret ?_ | refine blockP ?_ | refine blockP_exit ?_ | refine blockP_ret ?_ | refine loopP_exit ?_ | refine loopP_ret ?_) | ((with_reducible refine PWops.idd ?_) ; first | (first | refine PWops.stepA rfl ?_ | refine PWops.doneI rfl ?_ | refine PWops.boolK true rfl rfl rfl rfl (by (first | rfl | assumption | (simp only [decide_eq_true_eq, decide_eq_false_iff_not, bne_iff_ne, beq_iff_eq, beq_eq_false_iff_ne, bne_eq_false_iff_eq, ne_eq] ; omega))) rfl ?_ | refine PWops.boolK false rfl rfl rfl rfl (by (first | rfl | assumption | (simp only [decide_eq_true_eq, decide_eq_false_iff_not, bne_iff_ne, beq_iff_eq, beq_eq_false_iff_ne, bne_eq_false_iff_eq, ne_eq] ; omega))) rfl ?_ | refine PWops.fitsK rfl rfl rfl rfl (by omega) (by omega) rfl ?_ | refine PWops.remK rfl rfl rfl rfl (by omega) rfl ?_ | refine PWops.quoK rfl rfl rfl rfl (by omega) rfl ?_ | refine PWops.app rfl rfl rfl rfl rfl rfl rfl (by omega) (by omega) (by first | rfl | exact one_pint _ | exact one_pstr _ | exact one_pbyte _ | exact one_pattrs _) ?_ | refine PWops.app0 rfl rfl rfl rfl rfl rfl rfl (by omega) (by omega) (by first | rfl | exact one_pint _ | exact one_pstr _ | exact one_pbyte _ | exact one_pattrs _) ?_ | refine PWops.idx1 rfl rfl rfl rfl rfl rfl rfl rfl (by omega) ?_ | refine PWops.idx rfl rfl rfl rfl rfl rfl rfl rfl (by omega) ?_ | refine PWops.ld rfl rfl rfl rfl rfl rfl rfl (by assumption) rfl ?_ | refine PWops.ldA rfl rfl rfl rfl rfl rfl (by omega) (by assumption) ?_ | refine PWops.str rfl rfl rfl rfl rfl rfl rfl rfl rfl rfl rfl ?_) | (first | (refine PWops.call rfl rfl rfl (by assumption) ?_) | refine PWops.idxZ1 rfl rfl rfl rfl rfl rfl rfl rfl (by omega) ?_ | refine PWops.idxZ rfl rfl rfl rfl rfl rfl rfl rfl (by omega) ?_ | refine PWops.ld rfl rfl rfl rfl rfl rfl rfl rfl rfl ?_ | refine PWops.slcL rfl rfl rfl rfl rfl rfl rfl rfl (by omega) ?_ | refine PWops.slcH rfl rfl rfl rfl rfl rfl rfl rfl (by omega) ?_ | refine PWops.slcRL rfl rfl rfl rfl rfl rfl rfl rfl (by intro; rfl) (by omega) ?_ | refine PWops.slcRH rfl rfl rfl rfl rfl rfl rfl rfl (by intro; rfl) (by omega) ?_ | refine PWops.slcM rfl rfl rfl rfl rfl rfl rfl rfl rfl (by omega) ?_ | refine PWops.ldM rfl rfl rfl rfl rfl rfl rfl (by omega) rfl ?_ | refine PWops.ldR rfl rfl rfl rfl rfl rfl rfl (by intro; rfl) (by omega) rfl rfl ?_ | refine PWops.ldRA rfl rfl rfl rfl rfl rfl (by intro; rfl) (by omega) rfl ?_)) | (first | ((with_reducible refine PW.idd ?_) ; (first | refine PW.region typeTab_ok (by kernel_rfl) ?_ | refine PW.draw typeTab_ok (by kernel_rfl) (by kernel_rfl) (by kernel_rfl) ?_ | refine PW.condT rfl ?_ | refine PW.condF rfl ?_ | refine blockP_other (by decide) ?_)) | with_reducible refine blockP_other (by decide) ?_)))
    refine retP (r := .tup [nilE, pint 11]) rfl (low_nilE _) ?_
    rw [hD2, hN]; exact weak_nilE _
  obtain ⟨m, q, hmq⟩ : ∃ m q, r.drop C = m :: q := by
    cases hh : r.drop C with
    | nil => have := congrArg List.length hh; rw [List.length_drop, List.length_nil] at this; omega
    | cons m q => exact ⟨m, q, rfl⟩
  have hlq : r.length = C + 1 + q.length := by have := congrArg List.length hmq; rw [List.length_drop, List.length_cons] at this; omega
  have e1 : ((i :: v :: o :: f :: a :: t :: b :: (C : Int) :: r).drop (8 : Int).toNat).take ((8 + (C : Int)).toNat - (8 : Int).toNat) = r.take C := by
    rw [show (8 + (C : Int)).toNat - (8 : Int).toNat = C by omega]; rfl
  have e2 : (i :: v :: o :: f :: a :: t :: b :: (C : Int) :: r).drop (8 + (C : Int)).toNat = m :: q := by
    rw [← hmq, show (8 + (C : Int)).toNat = C + 8 by omega]; rfl
  have hz := low_zeroEC
  have cc := pcClone (r.take C) (by rw [List.length_take]; omega)
  (repeat ((with_reducible refine PWops.idd ?_) ; first | (first | refine PWops.stepA rfl ?_ | refine PWops.doneI rfl ?_ | refine PWops.boolK true rfl rfl rfl rfl (by (first | rfl | assumption | (simp only [decide_eq_true_eq, decide_eq_false_iff_not, bne_iff_ne, beq_iff_eq, beq_eq_false_iff_ne, bne_eq_false_iff_eq, ne_eq] ; omega))) rfl ?_ | refine PWops.boolK false rfl rfl rfl rfl (by (first | rfl | assumption | (simp only [decide_eq_true_eq, decide_eq_false_iff_not, bne_iff_ne, beq_iff_eq, beq_eq_false_iff_ne, bne_eq_false_iff_eq, ne_eq] ; omega))) rfl ?_ | refine PWops.fitsK rfl rfl rfl rfl (by omega) (by omega) rfl ?_ | refine PWops.remK rfl rfl rfl rfl (by omega) rfl ?_ | refine PWops.quoK rfl rfl rfl rfl (by omega) rfl ?_ | refine PWops.app rfl rfl rfl rfl rfl rfl rfl (by omega) (by omega) (by first | rfl | exact one_pint _ | exact one_pstr _ | exact one_pbyte _ | exact one_pattrs _) ?_ | refine PWops.app0 rfl rfl rfl rfl rfl rfl rfl (by omega) (by omega) (by first | rfl | exact one_pint _ | exact one_pstr _ | exact one_pbyte _ | exact one_pattrs _) ?_ | refine PWops.idx1 rfl rfl rfl rfl rfl rfl rfl rfl (by omega) ?_ | refine PWops.idx rfl rfl rfl rfl rfl rfl rfl rfl (by omega) ?_ | refine PWops.ld rfl rfl rfl rfl rfl rfl rfl (by assumption) rfl ?_ | refine PWops.ldA rfl rfl rfl rfl rfl rfl (by omega) (by assumption) ?_ | refine PWops.str rfl rfl rfl rfl rfl rfl rfl rfl rfl rfl rfl ?_) | (first | (refine PWops.call rfl rfl rfl (by assumption) ?_) | refine PWops.idxZ1 rfl rfl rfl rfl rfl rfl rfl rfl (by omega) ?_ | refine PWops.idxZ rfl rfl rfl rfl rfl rfl rfl rfl (by omega) ?_ | refine PWops.ld rfl rfl rfl rfl rfl rfl rfl rfl rfl ?_ | refine PWops.slcL rfl rfl rfl rfl rfl rfl rfl rfl (by omega) ?_ | refine PWops.slcH rfl rfl rfl rfl rfl rfl rfl rfl (by omega) ?_ | refine PWops.slcRL rfl rfl rfl rfl rfl rfl rfl rfl (by intro; rfl) (by omega) ?_ | refine PWops.slcRH rfl rfl rfl rfl rfl rfl rfl rfl (by intro; rfl) (by omega) ?_ | refine PWops.slcM rfl rfl rfl rfl rfl rfl rfl rfl rfl (by omega) ?_ | refine PWops.ldM rfl rfl rfl rfl rfl rfl rfl (by omega) rfl ?_ | refine PWops.ldR rfl rfl rfl rfl rfl rfl rfl (by intro; rfl) (by omega) rfl rfl ?_ | refine PWops.ldRA rfl rfl rfl rfl rfl rfl (by intro; rfl) (by omega) rfl ?_))) ; (repeat (first | (with_reducible first | refine PW.seq ?_ | refine PW.block ?_ | refine PW.skip ?_ | refine PW.exit ?_ | refine PW.ret ?_ | refine thenP ?_ | refine thenP_exit ?_ | refine thenP_ret ?_ | refine blockP ?_ | refine blockP_exit ?_ | refine blockP_ret ?_ | refine loopP_exit ?_ | refine loopP_ret ?_) | (first | ((with_reducible refine PW.idd ?_) ; (first | refine PW.condT rfl ?_ | refine PW.condF rfl ?_ | refine blockP_other (by decide) ?_)) | with_reducible refine blockP_other (by decide) ?_)))
  refine PW.sub (σ' := (((((bot.setb 0 zeroEC).put 2 (.ptr 0 0)).put 3 (pint 0)).put 4 (pints (i :: v :: o :: f :: a :: t :: b :: (C : Int) :: r))).put 7 (pstrs s))) ?_ (by (exact Sub.drop (by (repeat (first | exact bot_b | with_reducible refine put_b ?_ | refine setb_b ?_ rfl))) (by (repeat (first | exact bot_c | with_reducible refine put_c ?_ | with_reducible refine setb_c ?_ (by first | assumption | exact hlow _ | (first | exact low_mapI | exact low_mapS | exact low_mapB | simp [low_val, low_nilsl, low_sl, low_ep, low_agg, low_tup, low_fn, low_pint, low_pstr, low_pbool, low_pints, low_pstrs, low_pbyte, low_pbytes, low_pattrs, low_pdefs, low_pschema, low_pentry]) | exact low_entCells _ | exact low_schCells _ | exact low_pdefL _ | exact low_pattrL _)))) (by (repeat (first | exact bot_l | with_reducible refine setb_l ?_ | with_reducible refine put_l ?_ (by first | (left; (first | exact low_mapI | exact low_mapS | exact low_mapB | simp [low_val, low_nilsl, low_sl, low_ep, low_agg, low_tup, low_fn, low_pint, low_pstr, low_pbool, low_pints, low_pstrs, low_pbyte, low_pbytes, low_pattrs, low_pdefs, low_pschema, low_pentry])) | exact .inr ⟨_, _, rfl, (by simp [PS.setb, PS.put, upd_if])⟩)))) (by (repeat (first | exact sub_bot | with_reducible refine setb_t ?_ | refine sub_put ?_ (.inl rfl) | refine sub_put ?_ (.inr (.inl rfl)) | refine sub_put ?_ (.inr (.inr ⟨_, _, rfl, rfl⟩)))))))
  (repeat (first | (with_reducible first | refine PW.seq ?_ | refine PW.block ?_ | refine PW.skip ?_ | refine PW.exit ?_ | refine PW.ret ?_ | refine thenP ?_ | refine thenP_exit ?_ | refine thenP_ret ?_ | refine blockP ?_ | refine blockP_exit ?_ | refine blockP_ret ?_ | refine loopP_exit ?_ | refine loopP_ret ?_) | ((with_reducible refine PWops.idd ?_) ; first | (first | refine PWops.stepA rfl ?_ | refine PWops.doneI rfl ?_ | refine PWops.boolK true rfl rfl rfl rfl (by (first | rfl | assumption | (simp only [decide_eq_true_eq, decide_eq_false_iff_not, bne_iff_ne, beq_iff_eq, beq_eq_false_iff_ne, bne_eq_false_iff_eq, ne_eq] ; omega))) rfl ?_ | refine PWops.boolK false rfl rfl rfl rfl (by (first | rfl | assumption | (simp only [decide_eq_true_eq, decide_eq_false_iff_not, bne_iff_ne, beq_iff_eq, beq_eq_false_iff_ne, bne_eq_false_iff_eq, ne_eq] ; omega))) rfl ?_ | refine PWops.fitsK rfl rfl rfl rfl (by omega) (by omega) rfl ?_ | refine PWops.remK rfl rfl rfl rfl (by omega) rfl ?_ | refine PWops.quoK rfl rfl rfl rfl (by omega) rfl ?_ | refine PWops.app rfl rfl rfl rfl rfl rfl rfl (by omega) (by omega) (by first | rfl | exact one_pint _ | exact one_pstr _ | exact one_pbyte _ | exact one_pattrs _) ?_ | refine PWops.app0 rfl rfl rfl rfl rfl rfl rfl (by omega) (by omega) (by first | rfl | exact one_pint _ | exact one_pstr _ | exact one_pbyte _ | exact one_pattrs _) ?_ | refine PWops.idx1 rfl rfl rfl rfl rfl rfl rfl rfl (by omega) ?_ | refine PWops.idx rfl rfl rfl rfl rfl rfl rfl rfl (by omega) ?_ | refine PWops.ld rfl rfl rfl rfl rfl rfl rfl (by assumption) rfl ?_ | refine PWops.ldA rfl rfl rfl rfl rfl rfl (by omega) (by assumption) ?_ | refine PWops.str rfl rfl rfl rfl rfl rfl rfl rfl rfl rfl rfl ?_) | (first | (refine PWops.call rfl rfl rfl (by assumption) ?_) | refine PWops.idxZ1 rfl rfl rfl rfl rfl rfl rfl rfl (by omega) ?_ | refine PWops.idxZ rfl rfl rfl rfl rfl rfl rfl rfl (by omega) ?_ | refine PWops.ld rfl rfl rfl rfl rfl rfl rfl rfl rfl ?_ | refine PWops.slcL rfl rfl rfl rfl rfl rfl rfl rfl (by omega) ?_ | refine PWops.slcH rfl rfl rfl rfl rfl rfl rfl rfl (by omega) ?_ | refine PWops.slcRL rfl rfl rfl rfl rfl rfl rfl rfl (by intro; rfl) (by omega) ?_ | refine PWops.slcRH rfl rfl rfl rfl rfl rfl rfl rfl (by intro; rfl) (by omega) ?_ | refine PWops.slcM rfl rfl rfl rfl rfl rfl rfl rfl rfl (by omega) ?_ | refine PWops.ldM rfl rfl rfl rfl rfl rfl rfl (by omega) rfl ?_ | refine PWops.ldR rfl rfl rfl rfl rfl rfl rfl (by intro; rfl) (by omega) rfl rfl ?_ | refine PWops.ldRA rfl rfl rfl rfl rfl rfl (by intro; rfl) (by omega) rfl ?_)) | (first | ((with_reducible refine PW.idd ?_) ; (first | refine PW.region typeTab_ok (by kernel_rfl) ?_ | refine PW.draw typeTab_ok (by kernel_rfl) (by kernel_rfl) (by kernel_rfl) ?_ | refine PW.condT rfl ?_ | refine PW.condF rfl ?_ | refine blockP_other (by decide) ?_)) | with_reducible refine blockP_other (by decide) ?_)))
  rw [e1]
  (repeat (first | (with_reducible first | refine PW.seq ?_ | refine PW.block ?_ | refine PW.skip ?_ | refine PW.exit ?_ | refine PW.ret ?_ | refine thenP ?_ | refine thenP_exit ?_ | refine thenP_ret ?_ | refine blockP ?_ | refine blockP_exit ?_ | refine blockP_ret ?_ | refine loopP_exit ?_ | refine loopP_ret ?_) | ((with_reducible refine PWops.idd ?_) ; first | (first | refine PWops.stepA rfl ?_ | refine PWops.doneI rfl ?_ | refine PWops.boolK true rfl rfl rfl rfl (by (first | rfl | assumption | (simp only [decide_eq_true_eq, decide_eq_false_iff_not, bne_iff_ne, beq_iff_eq, beq_eq_false_iff_ne, bne_eq_false_iff_eq, ne_eq] ; omega))) rfl ?_ | refine PWops.boolK false rfl rfl rfl rfl (by (first | rfl | assumption | (simp only [decide_eq_true_eq, decide_eq_false_iff_not, bne_iff_ne, beq_iff_eq, beq_eq_false_iff_ne, bne_eq_false_iff_eq, ne_eq] ; omega))) rfl ?_ | refine PWops.fitsK rfl rfl rfl rfl (by omega) (by omega) rfl ?_ | refine PWops.remK rfl rfl rfl rfl (by omega) rfl ?_ | refine PWops.quoK rfl rfl rfl rfl (by omega) rfl ?_ | refine PWops.app rfl rfl rfl rfl rfl rfl rfl (by omega) (by omega) (by first | rfl | exact one_pint _ | exact one_pstr _ | exact one_pbyte _ | exact one_pattrs _) ?_ | refine PWops.app0 rfl rfl rfl rfl rfl rfl rfl (by omega) (by omega) (by first | rfl | exact one_pint _ | exact one_pstr _ | exact one_pbyte _ | exact one_pattrs _) ?_ | refine PWops.idx1 rfl rfl rfl rfl rfl rfl rfl rfl (by omega) ?_ | refine PWops.idx rfl rfl rfl rfl rfl rfl rfl rfl (by omega) ?_ | refine PWops.ld rfl rfl rfl rfl rfl rfl rfl (by assumption) rfl ?_ | refine PWops.ldA rfl rfl rfl rfl rfl rfl (by omega) (by assumption) ?_ | refine PWops.str rfl rfl rfl rfl rfl rfl rfl rfl rfl rfl rfl ?_) | (first | (refine PWops.call rfl rfl rfl (by assumption) ?_) | refine PWops.idxZ1 rfl rfl rfl rfl rfl rfl rfl rfl (by omega) ?_ | refine PWops.idxZ rfl rfl rfl rfl rfl rfl rfl rfl (by omega) ?_ | refine PWops.ld rfl rfl rfl rfl rfl rfl rfl rfl rfl ?_ | refine PWops.slcL rfl rfl rfl rfl rfl rfl rfl rfl (by omega) ?_ | refine PWops.slcH rfl rfl rfl rfl rfl rfl rfl rfl (by omega) ?_ | refine PWops.slcRL rfl rfl rfl rfl rfl rfl rfl rfl (by intro; rfl) (by omega) ?_ | refine PWops.slcRH rfl rfl rfl rfl rfl rfl rfl rfl (by intro; rfl) (by omega) ?_ | refine PWops.slcM rfl rfl rfl rfl rfl rfl rfl rfl rfl (by omega) ?_ | refine PWops.ldM rfl rfl rfl rfl rfl rfl rfl (by omega) rfl ?_ | refine PWops.ldR rfl rfl rfl rfl rfl rfl rfl (by intro; rfl) (by omega) rfl rfl ?_ | refine PWops.ldRA rfl rfl rfl rfl rfl rfl (by intro; rfl) (by omega) rfl ?_)) | (first | ((with_reducible refine PW.idd ?_) ; (first | refine PW.region typeTab_ok (by kernel_rfl) ?_ | refine PW.draw typeTab_ok (by kernel_rfl) (by kernel_rfl) (by kernel_rfl) ?_ | refine PW.condT rfl ?_ | refine PW.condF rfl ?_ | refine blockP_other (by decide) ?_)) | with_reducible refine blockP_other (by decide) ?_)))
  rw [e2]
  (repeat (first | (with_reducible first | refine PW.seq ?_ | refine PW.block ?_ | refine PW.skip ?_ | refine PW.exit ?_ | refine PW.ret ?_ | refine thenP ?_ | refine thenP_exit ?_ | refine thenP_ret ?_ | refine blockP ?_ | refine blockP_exit ?_ | refine blockP_ret ?_ | refine loopP_exit ?_ | refine loopP_ret ?_) | ((with_reducible refine PWops.idd ?_) ; first | (first | refine PWops.stepA rfl ?_ | refine PWops.doneI rfl ?_ | refine PWops.boolK true rfl rfl rfl rfl (by (first | rfl | assumption | (simp only [decide_eq_true_eq, decide_eq_false_iff_not, bne_iff_ne, beq_iff_eq, beq_eq_false_iff_ne, bne_eq_false_iff_eq, ne_eq] ; omega))) rfl ?_ | refine PWops.boolK false rfl rfl rfl rfl (by (first | rfl | assumption | (simp only [decide_eq_true_eq, decide_eq_false_iff_not, bne_iff_ne, beq_iff_eq, beq_eq_false_iff_ne, bne_eq_false_iff_eq, ne_eq] ; omega))) rfl ?_ | refine PWops.fitsK rfl rfl rfl rfl (by omega) (by omega) rfl ?_ | refine PWops.remK rfl rfl rfl rfl (by omega) rfl ?_ | refine PWops.quoK rfl rfl rfl rfl (by omega) rfl ?_ | refine PWops.app rfl rfl rfl rfl rfl rfl rfl (by omega) (by omega) (by first | rfl | exact one_pint _ | exact one_pstr _ | exact one_pbyte _ | exact one_pattrs _) ?_ | refine PWops.app0 rfl rfl rfl rfl rfl rfl rfl (by omega) (by omega) (by first | rfl | exact one_pint _ | exact one_pstr _ | exact one_pbyte _ | exact one_pattrs _) ?_ | refine PWops.idx1 rfl rfl rfl rfl rfl rfl rfl rfl (by omega) ?_ | refine PWops.idx rfl rfl rfl rfl rfl rfl rfl rfl (by omega) ?_ | refine PWops.ld rfl rfl rfl rfl rfl rfl rfl (by assumption) rfl ?_ | refine PWops.ldA rfl rfl rfl rfl rfl rfl (by omega) (by assumption) ?_ | refine PWops.str rfl rfl rfl rfl rfl rfl rfl rfl rfl rfl rfl ?_) | (first | (refine PWops.call rfl rfl rfl (by assumption) ?_) | refine PWops.idxZ1 rfl rfl rfl rfl rfl rfl rfl rfl (by omega) ?_ | refine PWops.idxZ rfl rfl rfl rfl rfl rfl rfl rfl (by omega) ?_ | refine PWops.ld rfl rfl rfl rfl rfl rfl rfl rfl rfl ?_ | refine PWops.slcL rfl rfl rfl rfl rfl rfl rfl rfl (by omega) ?_ | refine PWops.slcH rfl rfl rfl rfl rfl rfl rfl rfl (by omega) ?_ | refine PWops.slcRL rfl rfl rfl rfl rfl rfl rfl rfl (by intro; rfl) (by omega) ?_ | refine PWops.slcRH rfl rfl rfl rfl rfl rfl rfl rfl (by intro; rfl) (by omega) ?_ | refine PWops.slcM rfl rfl rfl rfl rfl rfl rfl rfl rfl (by omega) ?_ | refine PWops.ldM rfl rfl rfl rfl rfl rfl rfl (by omega) rfl ?_ | refine PWops.ldR rfl rfl rfl rfl rfl rfl rfl (by intro; rfl) (by omega) rfl rfl ?_ | refine PWops.ldRA rfl rfl rfl rfl rfl rfl (by intro; rfl) (by omega) rfl ?_)) | (first | ((with_reducible refine PW.idd ?_) ; (first | refine PW.region typeTab_ok (by kernel_rfl) ?_ | refine PW.draw typeTab_ok (by kernel_rfl) (by kernel_rfl) (by kernel_rfl) ?_ | refine PW.condT rfl ?_ | refine PW.condF rfl ?_ | refine blockP_other (by decide) ?_)) | with_reducible refine blockP_other (by decide) ?_)))
  have hE0 : entOf (i :: v :: o :: f :: a :: t :: b :: (C : Int) :: r) s = if s.length % 2 ≠ 0 ∨ m ≠ (s.length : Int) / 2 ∨ q.length ≠ s.length then none else some ⟨i, v, o, f, a, t, b, r.take C, attrsOf q s⟩ := by
    rw [entOf, if_neg (by omega)]
    simp only [Int.toNat_natCast, hmq]
  have hbad : (s.length % 2 ≠ 0 ∨ m ≠ (s.length : Int) / 2 ∨ q.length ≠ s.length) → Weak (.tup [nilE, pint 11]) (.tup [pentry (decE bs).1, pint (decE bs).2]) := by
    intro h; rw [hD2, hE0, if_pos h]; exact weak_nilE _
  have hmq2 : (m :: q).length = q.length + 1 := rfl
  by_cases g7 : (s.length : Int) % 2 = 0
  case neg =>
    (repeat (first | (with_reducible first | refine PW.seq ?_ | refine PW.block ?_ | refine PW.skip ?_ | refine PW.exit ?_ | refine PW.ret ?_ | refine thenP ?_ | refine thenP_exit ?_ | refine thenP_ret ?_ | refine blockP ?_ | refine blockP_exit ?_ | refine blockP_ret ?_ | refine loopP_exit ?_ | refine loopP_ret ?_) | ((with_reducible refine PWops.idd ?_) ; first | (first | refine PWops.stepA rfl ?_ | refine PWops.doneI rfl ?_ | refine PWops.boolK true rfl rfl rfl rfl (by (first | rfl | assumption | (simp only [decide_eq_true_eq, decide_eq_false_iff_not, bne_iff_ne, beq_iff_eq, beq_eq_false_iff_ne, bne_eq_false_iff_eq, ne_eq] ; omega))) rfl ?_ | refine PWops.boolK false rfl rfl rfl rfl (by (first | rfl | assumption | (simp only [decide_eq_true_eq, decide_eq_false_iff_not, bne_iff_ne, beq_iff_eq, beq_eq_false_iff_ne, bne_eq_false_iff_eq, ne_eq] ; omega))) rfl ?_ | refine PWops.fitsK rfl rfl rfl rfl (by omega) (by omega) rfl ?_ | refine PWops.remK rfl rfl rfl rfl (by omega) rfl ?_ | refine PWops.quoK rfl rfl rfl rfl (by omega) rfl ?_ | refine PWops.app rfl rfl rfl rfl rfl rfl rfl (by omega) (by omega) (by first | rfl | exact one_pint _ | exact one_pstr _ | exact one_pbyte _ | exact one_pattrs _) ?_ | refine PWops.app0 rfl rfl rfl rfl rfl rfl rfl (by omega) (by omega) (by first | rfl | exact one_pint _ | exact one_pstr _ | exact one_pbyte _ | exact one_pattrs _) ?_ | refine PWops.idx1 rfl rfl rfl rfl rfl rfl rfl rfl (by omega) ?_ | refine PWops.idx rfl rfl rfl rfl rfl rfl rfl rfl (by omega) ?_ | refine PWops.ld rfl rfl rfl rfl rfl rfl rfl (by assumption) rfl ?_ | refine PWops.ldA rfl rfl rfl rfl rfl rfl (by omega) (by assumption) ?_ | refine PWops.str rfl rfl rfl rfl rfl rfl rfl rfl rfl rfl rfl ?_) | (first | (refine PWops.call rfl rfl rfl (by assumption) ?_) | refine PWops.idxZ1 rfl rfl rfl rfl rfl rfl rfl rfl (by omega) ?_ | refine PWops.idxZ rfl rfl rfl rfl rfl rfl rfl rfl (by omega) ?_ | refine PWops.ld rfl rfl rfl rfl rfl rfl rfl rfl rfl ?_ | refine PWops.slcL rfl rfl rfl rfl rfl rfl rfl rfl (by omega) ?_ | refine PWops.slcH rfl rfl rfl rfl rfl rfl rfl rfl (by omega) ?_ | refine PWops.slcRL rfl rfl rfl rfl rfl rfl rfl rfl (by intro; rfl) (by omega) ?_ | refine PWops.slcRH rfl rfl rfl rfl rfl rfl rfl rfl (by intro; rfl) (by omega) ?_ | refine PWops.slcM rfl rfl rfl rfl rfl rfl rfl rfl rfl (by omega) ?_ | refine PWops.ldM rfl rfl rfl rfl rfl rfl rfl (by omega) rfl ?_ | refine PWops.ldR rfl rfl rfl rfl rfl rfl rfl (by intro; rfl) (by omega) rfl rfl ?_ | refine PWops.ldRA rfl rfl rfl rfl rfl rfl (by intro; rfl) (by omega) rfl ?_)) | (first | ((with_reducible refine PW.idd ?_) ; (first | refine PW.region typeTab_ok (by kernel_rfl) ?_ | refine PW.draw typeTab_ok (by kernel_rfl) (by kernel_rfl) (by kernel_rfl) ?_ | refine PW.condT rfl ?_ | refine PW.condF rfl ?_ | refine blockP_other (by decide) ?_)) | with_reducible refine blockP_other (by decide) ?_)))
    exact retP (r := .tup [nilE, pint 11]) rfl (low_nilE _) (hbad (by omega))
  (repeat (first | (with_reducible first | refine PW.seq ?_ | refine PW.block ?_ | refine PW.skip ?_ | refine PW.exit ?_ | refine PW.ret ?_ | refine thenP ?_ | refine thenP_exit ?_ | refine thenP_ret ?_ | refine blockP ?_ | refine blockP_exit ?_ | refine blockP_ret ?_ | refine loopP_exit ?_ | refine loopP_ret ?_) | ((with_reducible refine PWops.idd ?_) ; first | (first | refine PWops.stepA rfl ?_ | refine PWops.doneI rfl ?_ | refine PWops.boolK true rfl rfl rfl rfl (by (first | rfl | assumption | (simp only [decide_eq_true_eq, decide_eq_false_iff_not, bne_iff_ne, beq_iff_eq, beq_eq_false_iff_ne, bne_eq_false_iff_eq, ne_eq] ; omega))) rfl ?_ | refine PWops.boolK false rfl rfl rfl rfl (by (first | rfl | assumption | (simp only [decide_eq_true_eq, decide_eq_false_iff_not, bne_iff_ne, beq_iff_eq, beq_eq_false_iff_ne, bne_eq_false_iff_eq, ne_eq] ; omega))) rfl ?_ | refine PWops.fitsK rfl rfl rfl rfl (by omega) (by omega) rfl ?_ | refine PWops.remK rfl rfl rfl rfl (by omega) rfl ?_ | refine PWops.quoK rfl rfl rfl rfl (by omega) rfl ?_ | refine PWops.app rfl rfl rfl rfl rfl rfl rfl (by omega) (by omega) (by first | rfl | exact one_pint _ | exact one_pstr _ | exact one_pbyte _ | exact one_pattrs _) ?_ | refine PWops.app0 rfl rfl rfl rfl rfl rfl rfl (by omega) (by omega) (by first | rfl | exact one_pint _ | exact one_pstr _ | exact one_pbyte _ | exact one_pattrs _) ?_ | refine PWops.idx1 rfl rfl rfl rfl rfl rfl rfl rfl (by omega) ?_ | refine PWops.idx rfl rfl rfl rfl rfl rfl rfl rfl (by omega) ?_ | refine PWops.ld rfl rfl rfl rfl rfl rfl rfl (by assumption) rfl ?_ | refine PWops.ldA rfl rfl rfl rfl rfl rfl (by omega) (by assumption) ?_ | refine PWops.str rfl rfl rfl rfl rfl rfl rfl rfl rfl rfl rfl ?_) | (first | (refine PWops.call rfl rfl rfl (by assumption) ?_) | refine PWops.idxZ1 rfl rfl rfl rfl rfl rfl rfl rfl (by omega) ?_ | refine PWops.idxZ rfl rfl rfl rfl rfl rfl rfl rfl (by omega) ?_ | refine PWops.ld rfl rfl rfl rfl rfl rfl rfl rfl rfl ?_ | refine PWops.slcL rfl rfl rfl rfl rfl rfl rfl rfl (by omega) ?_ | refine PWops.slcH rfl rfl rfl rfl rfl rfl rfl rfl (by omega) ?_ | refine PWops.slcRL rfl rfl rfl rfl rfl rfl rfl rfl (by intro; rfl) (by omega) ?_ | refine PWops.slcRH rfl rfl rfl rfl rfl rfl rfl rfl (by intro; rfl) (by omega) ?_ | refine PWops.slcM rfl rfl rfl rfl rfl rfl rfl rfl rfl (by omega) ?_ | refine PWops.ldM rfl rfl rfl rfl rfl rfl rfl (by omega) rfl ?_ | refine PWops.ldR rfl rfl rfl rfl rfl rfl rfl (by intro; rfl) (by omega) rfl rfl ?_ | refine PWops.ldRA rfl rfl rfl rfl rfl rfl (by intro; rfl) (by omega) rfl ?_)) | (first | ((with_reducible refine PW.idd ?_) ; (first | refine PW.region typeTab_ok (by kernel_rfl) ?_ | refine PW.draw typeTab_ok (by kernel_rfl) (by kernel_rfl) (by kernel_rfl) ?_ | refine PW.condT rfl ?_ | refine PW.condF rfl ?_ | refine blockP_other (by decide) ?_)) | with_reducible refine blockP_other (by decide) ?_)))
  by_cases g8 : m = (s.length : Int) / 2
  case neg =>
    (repeat (first | (with_reducible first | refine PW.seq ?_ | refine PW.block ?_ | refine PW.skip ?_ | refine PW.exit ?_ | refine PW.ret ?_ | refine thenP ?_ | refine thenP_exit ?_ | refine thenP_ret ?_ | refine blockP ?_ | refine blockP_exit ?_ | refine blockP_ret ?_ | refine loopP_exit ?_ | refine loopP_ret ?_) | ((with_reducible refine PWops.idd ?_) ; first | (first | refine PWops.stepA rfl ?_ | refine PWops.doneI rfl ?_ | refine PWops.boolK true rfl rfl rfl rfl (by (first | rfl | assumption | (simp only [decide_eq_true_eq, decide_eq_false_iff_not, bne_iff_ne, beq_iff_eq, beq_eq_false_iff_ne, bne_eq_false_iff_eq, ne_eq] ; omega))) rfl ?_ | refine PWops.boolK false rfl rfl rfl rfl (by (first | rfl | assumption | (simp only [decide_eq_true_eq, decide_eq_false_iff_not, bne_iff_ne, beq_iff_eq, beq_eq_false_iff_ne, bne_eq_false_iff_eq, ne_eq] ; omega))) rfl ?_ | refine PWops.fitsK rfl rfl rfl rfl (by omega) (by omega) rfl ?_ | refine PWops.remK rfl rfl rfl rfl (by omega) rfl ?_ | refine PWops.quoK rfl rfl rfl rfl (by omega) rfl ?_ | refine PWops.app rfl rfl rfl rfl rfl rfl rfl (by omega) (by omega) (by first | rfl | exact one_pint _ | exact one_pstr _ | exact one_pbyte _ | exact one_pattrs _) ?_ | refine PWops.app0 rfl rfl rfl rfl rfl rfl rfl (by omega) (by omega) (by first | rfl | exact one_pint _ | exact one_pstr _ | exact one_pbyte _ | exact one_pattrs _) ?_ | refine PWops.idx1 rfl rfl rfl rfl rfl rfl rfl rfl (by omega) ?_ | refine PWops.idx rfl rfl rfl rfl rfl rfl rfl rfl (by omega) ?_ | refine PWops.ld rfl rfl rfl rfl rfl rfl rfl (by assumption) rfl ?_ | refine PWops.ldA rfl rfl rfl rfl rfl rfl (by omega) (by assumption) ?_ | refine PWops.str rfl rfl rfl rfl rfl rfl rfl rfl rfl rfl rfl ?_) | (first | (refine PWops.call rfl rfl rfl (by assumption) ?_) | refine PWops.idxZ1 rfl rfl rfl rfl rfl rfl rfl rfl (by omega) ?_ | refine PWops.idxZ rfl rfl rfl rfl rfl rfl rfl rfl (by omega) ?_ | refine PWops.ld rfl rfl rfl rfl rfl rfl rfl rfl rfl ?_ | refine PWops.slcL rfl rfl rfl rfl rfl rfl rfl rfl (by omega) ?_ | refine PWops.slcH rfl rfl rfl rfl rfl rfl rfl rfl (by omega) ?_ | refine PWops.slcRL rfl rfl rfl rfl rfl rfl rfl rfl (by intro; rfl) (by omega) ?_ | refine PWops.slcRH rfl rfl rfl rfl rfl rfl rfl rfl (by intro; rfl) (by omega) ?_ | refine PWops.slcM rfl rfl rfl rfl rfl rfl rfl rfl rfl (by omega) ?_ | refine PWops.ldM rfl rfl rfl rfl rfl rfl rfl (by omega) rfl ?_ | refine PWops.ldR rfl rfl rfl rfl rfl rfl rfl (by intro; rfl) (by omega) rfl rfl ?_ | refine PWops.ldRA rfl rfl rfl rfl rfl rfl (by intro; rfl) (by omega) rfl ?_)) | (first | ((with_reducible refine PW.idd ?_) ; (first | refine PW.region typeTab_ok (by kernel_rfl) ?_ | refine PW.draw typeTab_ok (by kernel_rfl) (by kernel_rfl) (by kernel_rfl) ?_ | refine PW.condT rfl ?_ | refine PW.condF rfl ?_ | refine blockP_other (by decide) ?_)) | with_reducible refine blockP_other (by decide) ?_)))
    exact retP (r := .tup [nilE, pint 11]) rfl (low_nilE _) (hbad (by omega))
  (repeat (first | (with_reducible first | refine PW.seq ?_ | refine PW.block ?_ | refine PW.skip ?_ | refine PW.exit ?_ | refine PW.ret ?_ | refine thenP ?_ | refine thenP_exit ?_ | refine thenP_ret ?_ | refine blockP ?_ | refine blockP_exit ?_ | refine blockP_ret ?_ | refine loopP_exit ?_ | refine loopP_ret ?_) | ((with_reducible refine PWops.idd ?_) ; first | (first | refine PWops.stepA rfl ?_ | refine PWops.doneI rfl ?_ | refine PWops.boolK true rfl rfl rfl rfl (by (first | rfl | assumption | (simp only [decide_eq_true_eq, decide_eq_false_iff_not, bne_iff_ne, beq_iff_eq, beq_eq_false_iff_ne, bne_eq_false_iff_eq, ne_eq] ; omega))) rfl ?_ | refine PWops.boolK false rfl rfl rfl rfl (by (first | rfl | assumption | (simp only [decide_eq_true_eq, decide_eq_false_iff_not, bne_iff_ne, beq_iff_eq, beq_eq_false_iff_ne, bne_eq_false_iff_eq, ne_eq] ; omega))) rfl ?_ | refine PWops.fitsK rfl rfl rfl rfl (by omega) (by omega) rfl ?_ | refine PWops.remK rfl rfl rfl rfl (by omega) rfl ?_ | refine PWops.quoK rfl rfl rfl rfl (by omega) rfl ?_ | refine PWops.app rfl rfl rfl rfl rfl rfl rfl (by omega) (by omega) (by first | rfl | exact one_pint _ | exact one_pstr _ | exact one_pbyte _ | exact one_pattrs _) ?_ | refine PWops.app0 rfl rfl rfl rfl rfl rfl rfl (by omega) (by omega) (by first | rfl | exact one_pint _ | exact one_pstr _ | exact one_pbyte _ | exact one_pattrs _) ?_ | refine PWops.idx1 rfl rfl rfl rfl rfl rfl rfl rfl (by omega) ?_ | refine PWops.idx rfl rfl rfl rfl rfl rfl rfl rfl (by omega) ?_ | refine PWops.ld rfl rfl rfl rfl rfl rfl rfl (by assumption) rfl ?_ | refine PWops.ldA rfl rfl rfl rfl rfl rfl (by omega) (by assumption) ?_ | refine PWops.str rfl rfl rfl rfl rfl rfl rfl rfl rfl rfl rfl ?_) | (first | (refine PWops.call rfl rfl rfl (by assumption) ?_) | refine PWops.idxZ1 rfl rfl rfl rfl rfl rfl rfl rfl (by omega) ?_ | refine PWops.idxZ rfl rfl rfl rfl rfl rfl rfl rfl (by omega) ?_ | refine PWops.ld rfl rfl rfl rfl rfl rfl rfl rfl rfl ?_ | refine PWops.slcL rfl rfl rfl rfl rfl rfl rfl rfl (by omega) ?_ | refine PWops.slcH rfl rfl rfl rfl rfl rfl rfl rfl (by omega) ?_ | refine PWops.slcRL rfl rfl rfl rfl rfl rfl rfl rfl (by intro; rfl) (by omega) ?_ | refine PWops.slcRH rfl rfl rfl rfl rfl rfl rfl rfl (by intro; rfl) (by omega) ?_ | refine PWops.slcM rfl rfl rfl rfl rfl rfl rfl rfl rfl (by omega) ?_ | refine PWops.ldM rfl rfl rfl rfl rfl rfl rfl (by omega) rfl ?_ | refine PWops.ldR rfl rfl rfl rfl rfl rfl rfl (by intro; rfl) (by omega) rfl rfl ?_ | refine PWops.ldRA rfl rfl rfl rfl rfl rfl (by intro; rfl) (by omega) rfl ?_)) | (first | ((with_reducible refine PW.idd ?_) ; (first | refine PW.region typeTab_ok (by kernel_rfl) ?_ | refine PW.draw typeTab_ok (by kernel_rfl) (by kernel_rfl) (by kernel_rfl) ?_ | refine PW.condT rfl ?_ | refine PW.condF rfl ?_ | refine blockP_other (by decide) ?_)) | with_reducible refine blockP_other (by decide) ?_)))
  by_cases g9 : q.length = s.length
  case neg =>
    (repeat (first | (with_reducible first | refine PW.seq ?_ | refine PW.block ?_ | refine PW.skip ?_ | refine PW.exit ?_ | refine PW.ret ?_ | refine thenP ?_ | refine thenP_exit ?_ | refine thenP_ret ?_ | refine blockP ?_ | refine blockP_exit ?_ | refine blockP_ret ?_ | refine loopP_exit ?_ | refine loopP_ret ?_) | ((with_reducible refine PWops.idd ?_) ; first | (first | refine PWops.stepA rfl ?_ | refine PWops.doneI rfl ?_ | refine PWops.boolK true rfl rfl rfl rfl (by (first | rfl | assumption | (simp only [decide_eq_true_eq, decide_eq_false_iff_not, bne_iff_ne, beq_iff_eq, beq_eq_false_iff_ne, bne_eq_false_iff_eq, ne_eq] ; omega))) rfl ?_ | refine PWops.boolK false rfl rfl rfl rfl (by (first | rfl | assumption | (simp only [decide_eq_true_eq, decide_eq_false_iff_not, bne_iff_ne, beq_iff_eq, beq_eq_false_iff_ne, bne_eq_false_iff_eq, ne_eq] ; omega))) rfl ?_ | refine PWops.fitsK rfl rfl rfl rfl (by omega) (by omega) rfl ?_ | refine PWops.remK rfl rfl rfl rfl (by omega) rfl ?_ | refine PWops.quoK rfl rfl rfl rfl (by omega) rfl ?_ | refine PWops.app rfl rfl rfl rfl rfl rfl rfl (by omega) (by omega) (by first | rfl | exact one_pint _ | exact one_pstr _ | exact one_pbyte _ | exact one_pattrs _) ?_ | refine PWops.app0 rfl rfl rfl rfl rfl rfl rfl (by omega) (by omega) (by first | rfl | exact one_pint _ | exact one_pstr _ | exact one_pbyte _ | exact one_pattrs _) ?_ | refine PWops.idx1 rfl rfl rfl rfl rfl rfl rfl rfl (by omega) ?_ | refine PWops.idx rfl rfl rfl rfl rfl rfl rfl rfl (by omega) ?_ | refine PWops.ld rfl rfl rfl rfl rfl rfl rfl (by assumption) rfl ?_ | refine PWops.ldA rfl rfl rfl rfl rfl rfl (by omega) (by assumption) ?_ | refine PWops.str rfl rfl rfl rfl rfl rfl rfl rfl rfl rfl rfl ?_) | (first | (refine PWops.call rfl rfl rfl (by assumption) ?_) | refine PWops.idxZ1 rfl rfl rfl rfl rfl rfl rfl rfl (by omega) ?_ | refine PWops.idxZ rfl rfl rfl rfl rfl rfl rfl rfl (by omega) ?_ | refine PWops.ld rfl rfl rfl rfl rfl rfl rfl rfl rfl ?_ | refine PWops.slcL rfl rfl rfl rfl rfl rfl rfl rfl (by omega) ?_ | refine PWops.slcH rfl rfl rfl rfl rfl rfl rfl rfl (by omega) ?_ | refine PWops.slcRL rfl rfl rfl rfl rfl rfl rfl rfl (by intro; rfl) (by omega) ?_ | refine PWops.slcRH rfl rfl rfl rfl rfl rfl rfl rfl (by intro; rfl) (by omega) ?_ | refine PWops.slcM rfl rfl rfl rfl rfl rfl rfl rfl rfl (by omega) ?_ | refine PWops.ldM rfl rfl rfl rfl rfl rfl rfl (by omega) rfl ?_ | refine PWops.ldR rfl rfl rfl rfl rfl rfl rfl (by intro; rfl) (by omega) rfl rfl ?_ | refine PWops.ldRA rfl rfl rfl rfl rfl rfl (by intro; rfl) (by omega) rfl ?_)) | (first | ((with_reducible refine PW.idd ?_) ; (first | refine PW.region typeTab_ok (by kernel_rfl) ?_ | refine PW.draw typeTab_ok (by kernel_rfl) (by kernel_rfl) (by kernel_rfl) ?_ | refine PW.condT rfl ?_ | refine PW.condF rfl ?_ | refine blockP_other (by decide) ?_)) | with_reducible refine blockP_other (by decide) ?_)))
    exact retP (r := .tup [nilE, pint 11]) rfl (low_nilE _) (hbad (by omega))
  (repeat (first | (with_reducible first | refine PW.seq ?_ | refine PW.block ?_ | refine PW.skip ?_ | refine PW.exit ?_ | refine PW.ret ?_ | refine thenP ?_ | refine thenP_exit ?_ | refine thenP_ret ?_ | refine blockP ?_ | refine blockP_exit ?_ | refine blockP_ret ?_ | refine loopP_exit ?_ | refine loopP_ret ?_) | ((with_reducible refine PWops.idd ?_) ; first | (first | refine PWops.stepA rfl ?_ | refine PWops.doneI rfl ?_ | refine PWops.boolK true rfl rfl rfl rfl (by (first | rfl | assumption | (simp only [decide_eq_true_eq, decide_eq_false_iff_not, bne_iff_ne, beq_iff_eq, beq_eq_false_iff_ne, bne_eq_false_iff_eq, ne_eq] ; omega))) rfl ?_ | refine PWops.boolK false rfl rfl rfl rfl (by (first | rfl | assumption | (simp only [decide_eq_true_eq, decide_eq_false_iff_not, bne_iff_ne, beq_iff_eq, beq_eq_false_iff_ne, bne_eq_false_iff_eq, ne_eq] ; omega))) rfl ?_ | refine PWops.fitsK rfl rfl rfl rfl (by omega) (by omega) rfl ?_ | refine PWops.remK rfl rfl rfl rfl (by omega) rfl ?_ | refine PWops.quoK rfl rfl rfl rfl (by omega) rfl ?_ | refine PWops.app rfl rfl rfl rfl rfl rfl rfl (by omega) (by omega) (by first | rfl | exact one_pint _ | exact one_pstr _ | exact one_pbyte _ | exact one_pattrs _) ?_ | refine PWops.app0 rfl rfl rfl rfl rfl rfl rfl (by omega) (by omega) (by first | rfl | exact one_pint _ | exact one_pstr _ | exact one_pbyte _ | exact one_pattrs _) ?_ | refine PWops.idx1 rfl rfl rfl rfl rfl rfl rfl rfl (by omega) ?_ | refine PWops.idx rfl rfl rfl rfl rfl rfl rfl rfl (by omega) ?_ | refine PWops.ld rfl rfl rfl rfl rfl rfl rfl (by assumption) rfl ?_ | refine PWops.ldA rfl rfl rfl rfl rfl rfl (by omega) (by assumption) ?_ | refine PWops.str rfl rfl rfl rfl rfl rfl rfl rfl rfl rfl rfl ?_) | (first | (refine PWops.call rfl rfl rfl (by assumption) ?_) | refine PWops.idxZ1 rfl rfl rfl rfl rfl rfl rfl rfl (by omega) ?_ | refine PWops.idxZ rfl rfl rfl rfl rfl rfl rfl rfl (by omega) ?_ | refine PWops.ld rfl rfl rfl rfl rfl rfl rfl rfl rfl ?_ | refine PWops.slcL rfl rfl rfl rfl rfl rfl rfl rfl (by omega) ?_ | refine PWops.slcH rfl rfl rfl rfl rfl rfl rfl rfl (by omega) ?_ | refine PWops.slcRL rfl rfl rfl rfl rfl rfl rfl rfl (by intro; rfl) (by omega) ?_ | refine PWops.slcRH rfl rfl rfl rfl rfl rfl rfl rfl (by intro; rfl) (by omega) ?_ | refine PWops.slcM rfl rfl rfl rfl rfl rfl rfl rfl rfl (by omega) ?_ | refine PWops.ldM rfl rfl rfl rfl rfl rfl rfl (by omega) rfl ?_ | refine PWops.ldR rfl rfl rfl rfl rfl rfl rfl (by intro; rfl) (by omega) rfl rfl ?_ | refine PWops.ldRA rfl rfl rfl rfl rfl rfl (by intro; rfl) (by omega) rfl ?_)) | (first | ((with_reducible refine PW.idd ?_) ; (first | refine PW.region typeTab_ok (by kernel_rfl) ?_ | refine PW.draw typeTab_ok (by kernel_rfl) (by kernel_rfl) (by kernel_rfl) ?_ | refine PW.condT rfl ?_ | refine PW.condF rfl ?_ | refine blockP_other (by decide) ?_)) | with_reducible refine blockP_other (by decide) ?_)))
  obtain ⟨L, hL⟩ : ∃ L, attrsOf q s = L := ⟨_, rfl⟩
  obtain ⟨b1, b2, b3⟩ := attrsOf_back (s.length / 2) q s (by omega) (by omega)
  rw [hL] at b1 b2 b3
  have hfin : decE bs = (⟨i, v, o, f, a, t, b, r.take C, L⟩, 0) := by
    rw [hD2, hE0, if_neg (by omega), hL]
  have hget : ∀ k, k < s.length / 2 → L[k]? = some ⟨s.getD (2 * (k : Int)).toNat default, (m :: q).getD (1 + 2 * (k : Int)).toNat default, (m :: q).getD (2 + 2 * (k : Int)).toNat default, s.getD (2 * (k : Int) + 1).toNat default⟩ := by
    intro k hk
    rw [← hL]
    refine attrsOf_get k q s _ _ _ _ ?_ ?_ ?_ ?_
    · rw [show (1 + 2 * (k : Int)).toNat = 2 * k + 1 by omega, List.getD_cons_succ]; exact getD_get _ (by omega)
    · rw [show (2 + 2 * (k : Int)).toNat = (2 * k + 1) + 1 by omega, List.getD_cons_succ]; exact getD_get _ (by omega)
    · rw [show (2 * (k : Int)).toNat = 2 * k by omega]; exact getD_get _ (by omega)
    · rw [show (2 * (k : Int) + 1).toNat = 2 * k + 1 by omega]; exact getD_get _ (by omega)
  have hlow : ∀ k, ∀ c ∈ entC i v o f a t b (r.take C) (fldA L k), Low c := fun k => low_entC k
  clear hbad hD2 hE0 cg cs cc e1 e2
  refine PW.loop (fun k : Nat => ((((((((bot.setb 0 zeroEC).setb 9029 (entC i v o f a t b (r.take C) (fldA L k))).put 2 (.ptr 0 0)).put 3 (pint 0)).put 7 (pstrs s)).put 9 (.ptr 9029 0)).put 10 (pints (m :: q))).put 120 (pint m)).put 121 (pint k)) (fun k => k ≤ s.length / 2) (fun k => s.length / 2 - k) 0 (by omega) ?_ ?_
  · (exact Sub.drop (by (repeat (first | exact bot_b | with_reducible refine put_b ?_ | refine setb_b ?_ rfl))) (by (repeat (first | exact bot_c | with_reducible refine put_c ?_ | with_reducible refine setb_c ?_ (by first | assumption | exact hlow _ | (first | exact low_mapI | exact low_mapS | exact low_mapB | simp [low_val, low_nilsl, low_sl, low_ep, low_agg, low_tup, low_fn, low_pint, low_pstr, low_pbool, low_pints, low_pstrs, low_pbyte, low_pbytes, low_pattrs, low_pdefs, low_pschema, low_pentry]) | exact low_entCells _ | exact low_schCells _ | exact low_pdefL _ | exact low_pattrL _)))) (by (repeat (first | exact bot_l | with_reducible refine setb_l ?_ | with_reducible refine put_l ?_ (by first | (left; (first | exact low_mapI | exact low_mapS | exact low_mapB | simp [low_val, low_nilsl, low_sl, low_ep, low_agg, low_tup, low_fn, low_pint, low_pstr, low_pbool, low_pints, low_pstrs, low_pbyte, low_pbytes, low_pattrs, low_pdefs, low_pschema, low_pentry])) | exact .inr ⟨_, _, rfl, (by simp [PS.setb, PS.put, upd_if])⟩)))) (by (repeat (first | exact sub_bot | with_reducible refine setb_t ?_ | refine sub_put ?_ (.inl rfl) | refine sub_put ?_ (.inr (.inl rfl)) | refine sub_put ?_ (.inr (.inr ⟨_, _, rfl, rfl⟩))))))
  · intro k hk
    by_cases hlt : k < s.length / 2
    · have hx := hget k hlt
      cases k with
      | zero =>
        (repeat (first | (with_reducible first | refine PW.seq ?_ | refine PW.block ?_ | refine PW.skip ?_ | refine PW.exit ?_ | refine PW.ret ?_ | refine thenP ?_ | refine thenP_exit ?_ | refine thenP_ret ?_ | refine blockP ?_ | refine blockP_exit ?_ | refine blockP_ret ?_ | refine loopP_exit ?_ | refine loopP_ret ?_) | ((with_reducible refine PWops.idd ?_) ; first | (first | refine PWops.stepA rfl ?_ | refine PWops.doneI rfl ?_ | refine PWops.boolK true rfl rfl rfl rfl (by (first | rfl | assumption | (simp only [decide_eq_true_eq, decide_eq_false_iff_not, bne_iff_ne, beq_iff_eq, beq_eq_false_iff_ne, bne_eq_false_iff_eq, ne_eq] ; omega))) rfl ?_ | refine PWops.boolK false rfl rfl rfl rfl (by (first | rfl | assumption | (simp only [decide_eq_true_eq, decide_eq_false_iff_not, bne_iff_ne, beq_iff_eq, beq_eq_false_iff_ne, bne_eq_false_iff_eq, ne_eq] ; omega))) rfl ?_ | refine PWops.fitsK rfl rfl rfl rfl (by omega) (by omega) rfl ?_ | refine PWops.remK rfl rfl rfl rfl (by omega) rfl ?_ | refine PWops.quoK rfl rfl rfl rfl (by omega) rfl ?_ | refine PWops.app rfl rfl rfl rfl rfl rfl rfl (by omega) (by omega) (by first | rfl | exact one_pint _ | exact one_pstr _ | exact one_pbyte _ | exact one_pattrs _) ?_ | refine PWops.app0 rfl rfl rfl rfl rfl rfl rfl (by omega) (by omega) (by first | rfl | exact one_pint _ | exact one_pstr _ | exact one_pbyte _ | exact one_pattrs _) ?_ | refine PWops.idx1 rfl rfl rfl rfl rfl rfl rfl rfl (by omega) ?_ | refine PWops.idx rfl rfl rfl rfl rfl rfl rfl rfl (by omega) ?_ | refine PWops.ld rfl rfl rfl rfl rfl rfl rfl (by assumption) rfl ?_ | refine PWops.ldA rfl rfl rfl rfl rfl rfl (by omega) (by assumption) ?_ | refine PWops.str rfl rfl rfl rfl rfl rfl rfl rfl rfl rfl rfl ?_) | (first | (refine PWops.call rfl rfl rfl (by assumption) ?_) | refine PWops.idxZ1 rfl rfl rfl rfl rfl rfl rfl rfl (by omega) ?_ | refine PWops.idxZ rfl rfl rfl rfl rfl rfl rfl rfl (by omega) ?_ | refine PWops.ld rfl rfl rfl rfl rfl rfl rfl rfl rfl ?_ | refine PWops.slcL rfl rfl rfl rfl rfl rfl rfl rfl (by omega) ?_ | refine PWops.slcH rfl rfl rfl rfl rfl rfl rfl rfl (by omega) ?_ | refine PWops.slcRL rfl rfl rfl rfl rfl rfl rfl rfl (by intro; rfl) (by omega) ?_ | refine PWops.slcRH rfl rfl rfl rfl rfl rfl rfl rfl (by intro; rfl) (by omega) ?_ | refine PWops.slcM rfl rfl rfl rfl rfl rfl rfl rfl rfl (by omega) ?_ | refine PWops.ldM rfl rfl rfl rfl rfl rfl rfl (by omega) rfl ?_ | refine PWops.ldR rfl rfl rfl rfl rfl rfl rfl (by intro; rfl) (by omega) rfl rfl ?_ | refine PWops.ldRA rfl rfl rfl rfl rfl rfl (by intro; rfl) (by omega) rfl ?_)) | (first | ((with_reducible refine PW.idd ?_) ; (first | refine PW.region typeTab_ok (by kernel_rfl) ?_ | refine PW.draw typeTab_ok (by kernel_rfl) (by kernel_rfl) (by kernel_rfl) ?_ | refine PW.condT rfl ?_ | refine PW.condF rfl ?_ | refine blockP_other (by decide) ?_)) | with_reducible refine blockP_other (by decide) ?_)))
        refine loopP 1 (by omega) (by omega) ?_
        show Sub _ _ (((((((((bot.setb 0 zeroEC).setb 9029 (entC i v o f a t b (r.take C) (fldA L 1))).put 2 (.ptr 0 0)).put 3 (pint 0)).put 7 (pstrs s)).put 9 (.ptr 9029 0)).put 10 (pints (m :: q))).put 120 (pint m)).put 121 (pint ((1 : Nat) : Int)))
        have hl2 := hlow 1
        rw [fldA_succ hx] at hl2 ⊢
        (exact Sub.drop (by (repeat (first | exact bot_b | with_reducible refine put_b ?_ | refine setb_b ?_ rfl))) (by (repeat (first | exact bot_c | with_reducible refine put_c ?_ | with_reducible refine setb_c ?_ (by first | assumption | exact hlow _ | (first | exact low_mapI | exact low_mapS | exact low_mapB | simp [low_val, low_nilsl, low_sl, low_ep, low_agg, low_tup, low_fn, low_pint, low_pstr, low_pbool, low_pints, low_pstrs, low_pbyte, low_pbytes, low_pattrs, low_pdefs, low_pschema, low_pentry]) | exact low_entCells _ | exact low_schCells _ | exact low_pdefL _ | exact low_pattrL _)))) (by (repeat (first | exact bot_l | with_reducible refine setb_l ?_ | with_reducible refine put_l ?_ (by first | (left; (first | exact low_mapI | exact low_mapS | exact low_mapB | simp [low_val, low_nilsl, low_sl, low_ep, low_agg, low_tup, low_fn, low_pint, low_pstr, low_pbool, low_pints, low_pstrs, low_pbyte, low_pbytes, low_pattrs, low_pdefs, low_pschema, low_pentry])) | exact .inr ⟨_, _, rfl, (by simp [PS.setb, PS.put, upd_if])⟩)))) (by (repeat (first | exact sub_bot | with_reducible refine setb_t ?_ | refine sub_put ?_ (.inl rfl) | refine sub_put ?_ (.inr (.inl rfl)) | refine sub_put ?_ (.inr (.inr ⟨_, _, rfl, rfl⟩))))))
      | succ k =>
        (repeat (first | (with_reducible first | refine PW.seq ?_ | refine PW.block ?_ | refine PW.skip ?_ | refine PW.exit ?_ | refine PW.ret ?_ | refine thenP ?_ | refine thenP_exit ?_ | refine thenP_ret ?_ | refine blockP ?_ | refine blockP_exit ?_ | refine blockP_ret ?_ | refine loopP_exit ?_ | refine loopP_ret ?_) | ((with_reducible refine PWops.idd ?_) ; first | (first | refine PWops.stepA rfl ?_ | refine PWops.doneI rfl ?_ | refine PWops.boolK true rfl rfl rfl rfl (by (first | rfl | assumption | (simp only [decide_eq_true_eq, decide_eq_false_iff_not, bne_iff_ne, beq_iff_eq, beq_eq_false_iff_ne, bne_eq_false_iff_eq, ne_eq] ; omega))) rfl ?_ | refine PWops.boolK false rfl rfl rfl rfl (by (first | rfl | assumption | (simp only [decide_eq_true_eq, decide_eq_false_iff_not, bne_iff_ne, beq_iff_eq, beq_eq_false_iff_ne, bne_eq_false_iff_eq, ne_eq] ; omega))) rfl ?_ | refine PWops.fitsK rfl rfl rfl rfl (by omega) (by omega) rfl ?_ | refine PWops.remK rfl rfl rfl rfl (by omega) rfl ?_ | refine PWops.quoK rfl rfl rfl rfl (by omega) rfl ?_ | refine PWops.app rfl rfl rfl rfl rfl rfl rfl (by omega) (by omega) (by first | rfl | exact one_pint _ | exact one_pstr _ | exact one_pbyte _ | exact one_pattrs _) ?_ | refine PWops.app0 rfl rfl rfl rfl rfl rfl rfl (by omega) (by omega) (by first | rfl | exact one_pint _ | exact one_pstr _ | exact one_pbyte _ | exact one_pattrs _) ?_ | refine PWops.idx1 rfl rfl rfl rfl rfl rfl rfl rfl (by omega) ?_ | refine PWops.idx rfl rfl rfl rfl rfl rfl rfl rfl (by omega) ?_ | refine PWops.ld rfl rfl rfl rfl rfl rfl rfl (by assumption) rfl ?_ | refine PWops.ldA rfl rfl rfl rfl rfl rfl (by omega) (by assumption) ?_ | refine PWops.str rfl rfl rfl rfl rfl rfl rfl rfl rfl rfl rfl ?_) | (first | (refine PWops.call rfl rfl rfl (by assumption) ?_) | refine PWops.idxZ1 rfl rfl rfl rfl rfl rfl rfl rfl (by omega) ?_ | refine PWops.idxZ rfl rfl rfl rfl rfl rfl rfl rfl (by omega) ?_ | refine PWops.ld rfl rfl rfl rfl rfl rfl rfl rfl rfl ?_ | refine PWops.slcL rfl rfl rfl rfl rfl rfl rfl rfl (by omega) ?_ | refine PWops.slcH rfl rfl rfl rfl rfl rfl rfl rfl (by omega) ?_ | refine PWops.slcRL rfl rfl rfl rfl rfl rfl rfl rfl (by intro; rfl) (by omega) ?_ | refine PWops.slcRH rfl rfl rfl rfl rfl rfl rfl rfl (by intro; rfl) (by omega) ?_ | refine PWops.slcM rfl rfl rfl rfl rfl rfl rfl rfl rfl (by omega) ?_ | refine PWops.ldM rfl rfl rfl rfl rfl rfl rfl (by omega) rfl ?_ | refine PWops.ldR rfl rfl rfl rfl rfl rfl rfl (by intro; rfl) (by omega) rfl rfl ?_ | refine PWops.ldRA rfl rfl rfl rfl rfl rfl (by intro; rfl) (by omega) rfl ?_)) | (first | ((with_reducible refine PW.idd ?_) ; (first | refine PW.region typeTab_ok (by kernel_rfl) ?_ | refine PW.draw typeTab_ok (by kernel_rfl) (by kernel_rfl) (by kernel_rfl) ?_ | refine PW.condT rfl ?_ | refine PW.condF rfl ?_ | refine blockP_other (by decide) ?_)) | with_reducible refine blockP_other (by decide) ?_)))
        refine loopP (k + 1 + 1) (by omega) (by omega) ?_
        have hl2 := hlow (k + 1 + 1)
        simp only [fldA_succ hx] at hl2 ⊢
        (exact Sub.drop (by (repeat (first | exact bot_b | with_reducible refine put_b ?_ | refine setb_b ?_ rfl))) (by (repeat (first | exact bot_c | with_reducible refine put_c ?_ | with_reducible refine setb_c ?_ (by first | assumption | exact hlow _ | (first | exact low_mapI | exact low_mapS | exact low_mapB | simp [low_val, low_nilsl, low_sl, low_ep, low_agg, low_tup, low_fn, low_pint, low_pstr, low_pbool, low_pints, low_pstrs, low_pbyte, low_pbytes, low_pattrs, low_pdefs, low_pschema, low_pentry]) | exact low_entCells _ | exact low_schCells _ | exact low_pdefL _ | exact low_pattrL _)))) (by (repeat (first | exact bot_l | with_reducible refine setb_l ?_ | with_reducible refine put_l ?_ (by first | (left; (first | exact low_mapI | exact low_mapS | exact low_mapB | simp [low_val, low_nilsl, low_sl, low_ep, low_agg, low_tup, low_fn, low_pint, low_pstr, low_pbool, low_pints, low_pstrs, low_pbyte, low_pbytes, low_pattrs, low_pdefs, low_pschema, low_pentry])) | exact .inr ⟨_, _, rfl, (by simp [PS.setb, PS.put, upd_if])⟩)))) (by (repeat (first | exact sub_bot | with_reducible refine setb_t ?_ | refine sub_put ?_ (.inl rfl) | refine sub_put ?_ (.inr (.inl rfl)) | refine sub_put ?_ (.inr (.inr ⟨_, _, rfl, rfl⟩))))))
    · have e : L.take k = L := List.take_of_length_le (by omega)
      cases k with
      | zero =>
        (repeat (first | (with_reducible first | refine PW.seq ?_ | refine PW.block ?_ | refine PW.skip ?_ | refine PW.exit ?_ | refine PW.ret ?_ | refine thenP ?_ | refine thenP_exit ?_ | refine thenP_ret ?_ | refine blockP ?_ | refine blockP_exit ?_ | refine blockP_ret ?_ | refine loopP_exit ?_ | refine loopP_ret ?_) | ((with_reducible refine PWops.idd ?_) ; first | (first | refine PWops.stepA rfl ?_ | refine PWops.doneI rfl ?_ | refine PWops.boolK true rfl rfl rfl rfl (by (first | rfl | assumption | (simp only [decide_eq_true_eq, decide_eq_false_iff_not, bne_iff_ne, beq_iff_eq, beq_eq_false_iff_ne, bne_eq_false_iff_eq, ne_eq] ; omega))) rfl ?_ | refine PWops.boolK false rfl rfl rfl rfl (by (first | rfl | assumption | (simp only [decide_eq_true_eq, decide_eq_false_iff_not, bne_iff_ne, beq_iff_eq, beq_eq_false_iff_ne, bne_eq_false_iff_eq, ne_eq] ; omega))) rfl ?_ | refine PWops.fitsK rfl rfl rfl rfl (by omega) (by omega) rfl ?_ | refine PWops.remK rfl rfl rfl rfl (by omega) rfl ?_ | refine PWops.quoK rfl rfl rfl rfl (by omega) rfl ?_ | refine PWops.app rfl rfl rfl rfl rfl rfl rfl (by omega) (by omega) (by first | rfl | exact one_pint _ | exact one_pstr _ | exact one_pbyte _ | exact one_pattrs _) ?_ | refine PWops.app0 rfl rfl rfl rfl rfl rfl rfl (by omega) (by omega) (by first | rfl | exact one_pint _ | exact one_pstr _ | exact one_pbyte _ | exact one_pattrs _) ?_ | refine PWops.idx1 rfl rfl rfl rfl rfl rfl rfl rfl (by omega) ?_ | refine PWops.idx rfl rfl rfl rfl rfl rfl rfl rfl (by omega) ?_ | refine PWops.ld rfl rfl rfl rfl rfl rfl rfl (by assumption) rfl ?_ | refine PWops.ldA rfl rfl rfl rfl rfl rfl (by omega) (by assumption) ?_ | refine PWops.str rfl rfl rfl rfl rfl rfl rfl rfl rfl rfl rfl ?_) | (first | (refine PWops.call rfl rfl rfl (by assumption) ?_) | refine PWops.idxZ1 rfl rfl rfl rfl rfl rfl rfl rfl (by omega) ?_ | refine PWops.idxZ rfl rfl rfl rfl rfl rfl rfl rfl (by omega) ?_ | refine PWops.ld rfl rfl rfl rfl rfl rfl rfl rfl rfl ?_ | refine PWops.slcL rfl rfl rfl rfl rfl rfl rfl rfl (by omega) ?_ | refine PWops.slcH rfl rfl rfl rfl rfl rfl rfl rfl (by omega) ?_ | refine PWops.slcRL rfl rfl rfl rfl rfl rfl rfl rfl (by intro; rfl) (by omega) ?_ | refine PWops.slcRH rfl rfl rfl rfl rfl rfl rfl rfl (by intro; rfl) (by omega) ?_ | refine PWops.slcM rfl rfl rfl rfl rfl rfl rfl rfl rfl (by omega) ?_ | refine PWops.ldM rfl rfl rfl rfl rfl rfl rfl (by omega) rfl ?_ | refine PWops.ldR rfl rfl rfl rfl rfl rfl rfl (by intro; rfl) (by omega) rfl rfl ?_ | refine PWops.ldRA rfl rfl rfl rfl rfl rfl (by intro; rfl) (by omega) rfl ?_)) | (first | ((with_reducible refine PW.idd ?_) ; (first | refine PW.region typeTab_ok (by kernel_rfl) ?_ | refine PW.draw typeTab_ok (by kernel_rfl) (by kernel_rfl) (by kernel_rfl) ?_ | refine PW.condT rfl ?_ | refine PW.condF rfl ?_ | refine blockP_other (by decide) ?_)) | with_reducible refine blockP_other (by decide) ?_)))
        refine retP (r := .tup [.agg [pint i, pint v, pint o, pint f, pint a, pint t, pint b, pints (r.take C), .nilsl], pint 0]) rfl (by simp [low_tup, low_agg, low_pint, low_pints, low_nilsl]) ?_
        have : L = [] := List.eq_nil_of_length_eq_zero (by omega)
        rw [hfin, this]
        exact .tup (.cons (.agg (.cons (.refl _) (.cons (.refl _) (.cons (.refl _) (.cons (.refl _) (.cons (.refl _) (.cons (.refl _) (.cons (.refl _) (.cons (.refl _) (.cons (.nil 4) .nil)))))))))) (.cons (.refl _) .nil))
      | succ k =>
        (repeat (first | (with_reducible first | refine PW.seq ?_ | refine PW.block ?_ | refine PW.skip ?_ | refine PW.exit ?_ | refine PW.ret ?_ | refine thenP ?_ | refine thenP_exit ?_ | refine thenP_ret ?_ | refine blockP ?_ | refine blockP_exit ?_ | refine blockP_ret ?_ | refine loopP_exit ?_ | refine loopP_ret ?_) | ((with_reducible refine PWops.idd ?_) ; first | (first | refine PWops.stepA rfl ?_ | refine PWops.doneI rfl ?_ | refine PWops.boolK true rfl rfl rfl rfl (by (first | rfl | assumption | (simp only [decide_eq_true_eq, decide_eq_false_iff_not, bne_iff_ne, beq_iff_eq, beq_eq_false_iff_ne, bne_eq_false_iff_eq, ne_eq] ; omega))) rfl ?_ | refine PWops.boolK false rfl rfl rfl rfl (by (first | rfl | assumption | (simp only [decide_eq_true_eq, decide_eq_false_iff_not, bne_iff_ne, beq_iff_eq, beq_eq_false_iff_ne, bne_eq_false_iff_eq, ne_eq] ; omega))) rfl ?_ | refine PWops.fitsK rfl rfl rfl rfl (by omega) (by omega) rfl ?_ | refine PWops.remK rfl rfl rfl rfl (by omega) rfl ?_ | refine PWops.quoK rfl rfl rfl rfl (by omega) rfl ?_ | refine PWops.app rfl rfl rfl rfl rfl rfl rfl (by omega) (by omega) (by first | rfl | exact one_pint _ | exact one_pstr _ | exact one_pbyte _ | exact one_pattrs _) ?_ | refine PWops.app0 rfl rfl rfl rfl rfl rfl rfl (by omega) (by omega) (by first | rfl | exact one_pint _ | exact one_pstr _ | exact one_pbyte _ | exact one_pattrs _) ?_ | refine PWops.idx1 rfl rfl rfl rfl rfl rfl rfl rfl (by omega) ?_ | refine PWops.idx rfl rfl rfl rfl rfl rfl rfl rfl (by omega) ?_ | refine PWops.ld rfl rfl rfl rfl rfl rfl rfl (by assumption) rfl ?_ | refine PWops.ldA rfl rfl rfl rfl rfl rfl (by omega) (by assumption) ?_ | refine PWops.str rfl rfl rfl rfl rfl rfl rfl rfl rfl rfl rfl ?_) | (first | (refine PWops.call rfl rfl rfl (by assumption) ?_) | refine PWops.idxZ1 rfl rfl rfl rfl rfl rfl rfl rfl (by omega) ?_ | refine PWops.idxZ rfl rfl rfl rfl rfl rfl rfl rfl (by omega) ?_ | refine PWops.ld rfl rfl rfl rfl rfl rfl rfl rfl rfl ?_ | refine PWops.slcL rfl rfl rfl rfl rfl rfl rfl rfl (by omega) ?_ | refine PWops.slcH rfl rfl rfl rfl rfl rfl rfl rfl (by omega) ?_ | refine PWops.slcRL rfl rfl rfl rfl rfl rfl rfl rfl (by intro; rfl) (by omega) ?_ | refine PWops.slcRH rfl rfl rfl rfl rfl rfl rfl rfl (by intro; rfl) (by omega) ?_ | refine PWops.slcM rfl rfl rfl rfl rfl rfl rfl rfl rfl (by omega) ?_ | refine PWops.ldM rfl rfl rfl rfl rfl rfl rfl (by omega) rfl ?_ | refine PWops.ldR rfl rfl rfl rfl rfl rfl rfl (by intro; rfl) (by omega) rfl rfl ?_ | refine PWops.ldRA rfl rfl rfl rfl rfl rfl (by intro; rfl) (by omega) rfl ?_)) | (first | ((with_reducible refine PW.idd ?_) ; (first | refine PW.region typeTab_ok (by kernel_rfl) ?_ | refine PW.draw typeTab_ok (by kernel_rfl) (by kernel_rfl) (by kernel_rfl) ?_ | refine PW.condT rfl ?_ | refine PW.condF rfl ?_ | refine blockP_other (by decide) ?_)) | with_reducible refine blockP_other (by decide) ?_)))
        refine retP (r := .tup [.agg [pint i, pint v, pint o, pint f, pint a, pint t, pint b, pints (r.take C), .sl (k + 1) 4 ((L.take (k + 1)).flatMap pattrL) none], pint 0]) rfl (by simp [low_tup, low_agg, low_pint, low_pints]; exact (fldA_low L (k + 1))) ?_
        have : k + 1 = L.length := by omega
        rw [hfin, e, this]
        exact .refl _
end Go.Proofs.Ytnjopfjmepbpoaa

/- Pure walks: FewDefs. -/
namespace Go.Proofs.Ytnjopfjmepbpoaa
set_option linter.unusedSimpArgs false
set_option linter.unusedVariables false
set_option linter.unnecessarySimpa false
open Go.RowKit
def smallDefB (d : PDef) : Bool := decide (d.words.length ≤ 60) && (decide (d.name.size ≤ 100) && d.words.all (fun s => decide (s.size ≤ 100)))
def fewDefsB (s : PSchema) : Bool := (s.defs.take 21).all smallDefB && decide (s.defs.length ≤ 20)
def schCellsP (s : PSchema) : List PV := [pint s.dims, pint s.metric, pdefs s.defs]
theorem low_schCells (s : PSchema) : ∀ c ∈ schCellsP s, Low c := low_agg.1 ((low_pschema s).2 trivial)

set_option maxRecDepth 10000 in
set_option maxHeartbeats 1000000 in
theorem pw_fewDefs (s : PSchema) (hl : s.defs.length ≤ 20000000000000) (hw : ∀ d ∈ s.defs, d.words.length ≤ 20000000000000) : PCalls Try.prog 7 [pschema s, pint 20] (· = pbool (fewDefsB s)) := by
  refine pcalls_of_pw typeTab_ok Try.func7 rfl (by kernel_rfl) (by (first | exact low_mapI | exact low_mapS | exact low_mapB | simp [low_val, low_nilsl, low_sl, low_ep, low_agg, low_tup, low_fn, low_pint, low_pstr, low_pbool, low_pints, low_pstrs, low_pbyte, low_pbytes, low_pattrs, low_pdefs, low_pschema, low_pentry])) (by simp [pschema, pint, PV.ownB]) (by rw [Try.ntmps7]; simp) ?_
  rw [Try.ntmps7, Try.results7]
  (repeat (first | (with_reducible first | refine PW.seq ?_ | refine PW.block ?_ | refine PW.skip ?_ | refine PW.exit ?_ | refine PW.ret ?_ | refine thenP ?_ | refine thenP_exit ?_ | refine thenP_ret ?_ | refine blockP ?_ | refine blockP_exit ?_ | refine blockP_ret ?_ | refine loopP_exit ?_ | refine loopP_ret ?_) | ((with_reducible refine PWops.idd ?_) ; first | (first | refine PWops.stepA rfl ?_ | refine PWops.doneI rfl ?_ | refine PWops.boolK true rfl rfl rfl rfl (by (first | rfl | assumption | (simp only [decide_eq_true_eq, decide_eq_false_iff_not, bne_iff_ne, beq_iff_eq, beq_eq_false_iff_ne, bne_eq_false_iff_eq, ne_eq] ; omega))) rfl ?_ | refine PWops.boolK false rfl rfl rfl rfl (by (first | rfl | assumption | (simp only [decide_eq_true_eq, decide_eq_false_iff_not, bne_iff_ne, beq_iff_eq, beq_eq_false_iff_ne, bne_eq_false_iff_eq, ne_eq] ; omega))) rfl ?_ | refine PWops.fitsK rfl rfl rfl rfl (by omega) (by omega) rfl ?_ | refine PWops.remK rfl rfl rfl rfl (by omega) rfl ?_ | refine PWops.quoK rfl rfl rfl rfl (by omega) rfl ?_ | refine PWops.app rfl rfl rfl rfl rfl rfl rfl (by omega) (by omega) (by first | rfl | exact one_pint _ | exact one_pstr _ | exact one_pbyte _ | exact one_pattrs _) ?_ | refine PWops.app0 rfl rfl rfl rfl rfl rfl rfl (by omega) (by omega) (by first | rfl | exact one_pint _ | exact one_pstr _ | exact one_pbyte _ | exact one_pattrs _) ?_ | refine PWops.idx1 rfl rfl rfl rfl rfl rfl rfl rfl (by omega) ?_ | refine PWops.idx rfl rfl rfl rfl rfl rfl rfl rfl (by omega) ?_ | refine PWops.ld rfl rfl rfl rfl rfl rfl rfl (by assumption) rfl ?_ | refine PWops.ldA rfl rfl rfl rfl rfl rfl (by omega) (by assumption) ?_ | refine PWops.str rfl rfl rfl rfl rfl rfl rfl rfl rfl rfl rfl ?_) | (first | (refine PWops.call rfl rfl rfl (by assumption) ?_) | refine PWops.idxZ1 rfl rfl rfl rfl rfl rfl rfl rfl (by omega) ?_ | refine PWops.idxZ rfl rfl rfl rfl rfl rfl rfl rfl (by omega) ?_ | refine PWops.ld rfl rfl rfl rfl rfl rfl rfl rfl rfl ?_ | refine PWops.slcL rfl rfl rfl rfl rfl rfl rfl rfl (by omega) ?_ | refine PWops.slcH rfl rfl rfl rfl rfl rfl rfl rfl (by omega) ?_ | refine PWops.slcRL rfl rfl rfl rfl rfl rfl rfl rfl (by intro; rfl) (by omega) ?_ | refine PWops.slcRH rfl rfl rfl rfl rfl rfl rfl rfl (by intro; rfl) (by omega) ?_ | refine PWops.slcM rfl rfl rfl rfl rfl rfl rfl rfl rfl (by omega) ?_ | refine PWops.ldM rfl rfl rfl rfl rfl rfl rfl (by omega) rfl ?_ | refine PWops.ldR rfl rfl rfl rfl rfl rfl rfl (by intro; rfl) (by omega) rfl rfl ?_ | refine PWops.ldRA rfl rfl rfl rfl rfl rfl (by intro; rfl) (by omega) rfl ?_)) | (first | ((with_reducible refine PW.idd ?_) ; (first | refine PW.region typeTab_ok (by kernel_rfl) ?_ | refine PW.draw typeTab_ok (by kernel_rfl) (by kernel_rfl) (by kernel_rfl) ?_ | refine PW.condT rfl ?_ | refine PW.condF rfl ?_ | refine blockP_other (by decide) ?_)) | with_reducible refine blockP_other (by decide) ?_)))
  refine PW.loop (fun k : Nat => ((((bot.setb 0 (schCellsP s)).put 1 (pint 20)).put 2 (.ptr 0 0)).put 4 (pbool false)).put 5 (pint k)) (fun k => k ≤ s.defs.length ∧ k ≤ 21 ∧ (s.defs.take k).all smallDefB = true) (fun k => s.defs.length - k) 0 ⟨by omega, by omega, by simp⟩ ?_ ?_
  · (exact Sub.drop (by (repeat (first | exact bot_b | with_reducible refine put_b ?_ | refine setb_b ?_ rfl))) (by (repeat (first | exact bot_c | with_reducible refine put_c ?_ | with_reducible refine setb_c ?_ (by first | assumption | exact hlow _ | (first | exact low_mapI | exact low_mapS | exact low_mapB | simp [low_val, low_nilsl, low_sl, low_ep, low_agg, low_tup, low_fn, low_pint, low_pstr, low_pbool, low_pints, low_pstrs, low_pbyte, low_pbytes, low_pattrs, low_pdefs, low_pschema, low_pentry]) | exact low_entCells _ | exact low_schCells _ | exact low_pdefL _ | exact low_pattrL _)))) (by (repeat (first | exact bot_l | with_reducible refine setb_l ?_ | with_reducible refine put_l ?_ (by first | (left; (first | exact low_mapI | exact low_mapS | exact low_mapB | simp [low_val, low_nilsl, low_sl, low_ep, low_agg, low_tup, low_fn, low_pint, low_pstr, low_pbool, low_pints, low_pstrs, low_pbyte, low_pbytes, low_pattrs, low_pdefs, low_pschema, low_pentry])) | exact .inr ⟨_, _, rfl, (by simp [PS.setb, PS.put, upd_if])⟩)))) (by (repeat (first | exact sub_bot | with_reducible refine setb_t ?_ | refine sub_put ?_ (.inl rfl) | refine sub_put ?_ (.inr (.inl rfl)) | refine sub_put ?_ (.inr (.inr ⟨_, _, rfl, rfl⟩))))))
  · rintro k ⟨hk, hk2, hall⟩
    by_cases hlt : k < s.defs.length
    · by_cases h20 : k ≤ 20
      · obtain ⟨d, hd⟩ := ints_get s.defs k hlt
        have hrow := flatMap_row (f := pdefL) (k := 5) (fun _ => rfl) hd
        have hlen := flatMap_len (f := pdefL) (k := 5) (fun _ => rfl) s.defs
        have hbad : smallDefB d = false → fewDefsB s = false := by
          intro hs
          have : (s.defs.take 21).all smallDefB = false := by
            rw [List.all_eq_false]
            exact ⟨d, by rw [List.mem_take_iff_getElem]; obtain ⟨h3, h4⟩ := List.getElem?_eq_some_iff.1 hd; exact ⟨k, by omega, h4⟩, by simp [hs]⟩
          simp [fewDefsB, this]
        have hwl := hw d (mem_of_get hd)
        have hrow' : (((s.defs.flatMap pdefL).drop (k * 5)).take 5).map PV.bare = pdefL d := by rw [hrow]; rfl
        by_cases h60 : 60 < d.words.length
        · (repeat (first | (with_reducible first | refine PW.seq ?_ | refine PW.block ?_ | refine PW.skip ?_ | refine PW.exit ?_ | refine PW.ret ?_ | refine thenP ?_ | refine thenP_exit ?_ | refine thenP_ret ?_ | refine blockP ?_ | refine blockP_exit ?_ | refine blockP_ret ?_ | refine loopP_exit ?_ | refine loopP_ret ?_) | ((with_reducible refine PWops.idd ?_) ; first | (first | refine PWops.stepA rfl ?_ | refine PWops.doneI rfl ?_ | refine PWops.boolK true rfl rfl rfl rfl (by (first | rfl | assumption | (simp only [decide_eq_true_eq, decide_eq_false_iff_not, bne_iff_ne, beq_iff_eq, beq_eq_false_iff_ne, bne_eq_false_iff_eq, ne_eq] ; omega))) rfl ?_ | refine PWops.boolK false rfl rfl rfl rfl (by (first | rfl | assumption | (simp only [decide_eq_true_eq, decide_eq_false_iff_not, bne_iff_ne, beq_iff_eq, beq_eq_false_iff_ne, bne_eq_false_iff_eq, ne_eq] ; omega))) rfl ?_ | refine PWops.fitsK rfl rfl rfl rfl (by omega) (by omega) rfl ?_ | refine PWops.remK rfl rfl rfl rfl (by omega) rfl ?_ | refine PWops.quoK rfl rfl rfl rfl (by omega) rfl ?_ | refine PWops.app rfl rfl rfl rfl rfl rfl rfl (by omega) (by omega) (by first | rfl | exact one_pint _ | exact one_pstr _ | exact one_pbyte _ | exact one_pattrs _) ?_ | refine PWops.app0 rfl rfl rfl rfl rfl rfl rfl (by omega) (by omega) (by first | rfl | exact one_pint _ | exact one_pstr _ | exact one_pbyte _ | exact one_pattrs _) ?_ | refine PWops.idx1 rfl rfl rfl rfl rfl rfl rfl rfl (by omega) ?_ | refine PWops.idx rfl rfl rfl rfl rfl rfl rfl rfl (by omega) ?_ | refine PWops.ld rfl rfl rfl rfl rfl rfl rfl (by assumption) rfl ?_ | refine PWops.ldA rfl rfl rfl rfl rfl rfl (by omega) (by assumption) ?_ | refine PWops.str rfl rfl rfl rfl rfl rfl rfl rfl rfl rfl rfl ?_) | (first | (refine PWops.call rfl rfl rfl (by assumption) ?_) | refine PWops.idxZ1 rfl rfl rfl rfl rfl rfl rfl rfl (by omega) ?_ | refine PWops.idxZ rfl rfl rfl rfl rfl rfl rfl rfl (by omega) ?_ | refine PWops.ld rfl rfl rfl rfl rfl rfl rfl rfl rfl ?_ | refine PWops.slcL rfl rfl rfl rfl rfl rfl rfl rfl (by omega) ?_ | refine PWops.slcH rfl rfl rfl rfl rfl rfl rfl rfl (by omega) ?_ | refine PWops.slcRL rfl rfl rfl rfl rfl rfl rfl rfl (by intro; rfl) (by omega) ?_ | refine PWops.slcRH rfl rfl rfl rfl rfl rfl rfl rfl (by intro; rfl) (by omega) ?_ | refine PWops.slcM rfl rfl rfl rfl rfl rfl rfl rfl rfl (by omega) ?_ | refine PWops.ldM rfl rfl rfl rfl rfl rfl rfl (by omega) rfl ?_ | refine PWops.ldR rfl rfl rfl rfl rfl rfl rfl (by intro; rfl) (by omega) rfl rfl ?_ | refine PWops.ldRA rfl rfl rfl rfl rfl rfl (by intro; rfl) (by omega) rfl ?_)) | (first | ((with_reducible refine PW.idd ?_) ; (first | refine PW.region typeTab_ok (by kernel_rfl) ?_ | refine PW.draw typeTab_ok (by kernel_rfl) (by kernel_rfl) (by kernel_rfl) ?_ | refine PW.condT rfl ?_ | refine PW.condF rfl ?_ | refine blockP_other (by decide) ?_)) | with_reducible refine blockP_other (by decide) ?_)))
          refine retP rfl (by (first | exact low_mapI | exact low_mapS | exact low_mapB | simp [low_val, low_nilsl, low_sl, low_ep, low_agg, low_tup, low_fn, low_pint, low_pstr, low_pbool, low_pints, low_pstrs, low_pbyte, low_pbytes, low_pattrs, low_pdefs, low_pschema, low_pentry])) ?_
          rw [hbad (by simp [smallDefB]; omega)]; rfl
        · by_cases h100 : 100 < d.name.size
          · (repeat (first | (with_reducible first | refine PW.seq ?_ | refine PW.block ?_ | refine PW.skip ?_ | refine PW.exit ?_ | refine PW.ret ?_ | refine thenP ?_ | refine thenP_exit ?_ | refine thenP_ret ?_ | refine blockP ?_ | refine blockP_exit ?_ | refine blockP_ret ?_ | refine loopP_exit ?_ | refine loopP_ret ?_) | ((with_reducible refine PWops.idd ?_) ; first | (first | refine PWops.stepA rfl ?_ | refine PWops.doneI rfl ?_ | refine PWops.boolK true rfl rfl rfl rfl (by (first | rfl | assumption | (simp only [decide_eq_true_eq, decide_eq_false_iff_not, bne_iff_ne, beq_iff_eq, beq_eq_false_iff_ne, bne_eq_false_iff_eq, ne_eq] ; omega))) rfl ?_ | refine PWops.boolK false rfl rfl rfl rfl (by (first | rfl | assumption | (simp only [decide_eq_true_eq, decide_eq_false_iff_not, bne_iff_ne, beq_iff_eq, beq_eq_false_iff_ne, bne_eq_false_iff_eq, ne_eq] ; omega))) rfl ?_ | refine PWops.fitsK rfl rfl rfl rfl (by omega) (by omega) rfl ?_ | refine PWops.remK rfl rfl rfl rfl (by omega) rfl ?_ | refine PWops.quoK rfl rfl rfl rfl (by omega) rfl ?_ | refine PWops.app rfl rfl rfl rfl rfl rfl rfl (by omega) (by omega) (by first | rfl | exact one_pint _ | exact one_pstr _ | exact one_pbyte _ | exact one_pattrs _) ?_ | refine PWops.app0 rfl rfl rfl rfl rfl rfl rfl (by omega) (by omega) (by first | rfl | exact one_pint _ | exact one_pstr _ | exact one_pbyte _ | exact one_pattrs _) ?_ | refine PWops.idx1 rfl rfl rfl rfl rfl rfl rfl rfl (by omega) ?_ | refine PWops.idx rfl rfl rfl rfl rfl rfl rfl rfl (by omega) ?_ | refine PWops.ld rfl rfl rfl rfl rfl rfl rfl (by assumption) rfl ?_ | refine PWops.ldA rfl rfl rfl rfl rfl rfl (by omega) (by assumption) ?_ | refine PWops.str rfl rfl rfl rfl rfl rfl rfl rfl rfl rfl rfl ?_) | (first | (refine PWops.call rfl rfl rfl (by assumption) ?_) | refine PWops.idxZ1 rfl rfl rfl rfl rfl rfl rfl rfl (by omega) ?_ | refine PWops.idxZ rfl rfl rfl rfl rfl rfl rfl rfl (by omega) ?_ | refine PWops.ld rfl rfl rfl rfl rfl rfl rfl rfl rfl ?_ | refine PWops.slcL rfl rfl rfl rfl rfl rfl rfl rfl (by omega) ?_ | refine PWops.slcH rfl rfl rfl rfl rfl rfl rfl rfl (by omega) ?_ | refine PWops.slcRL rfl rfl rfl rfl rfl rfl rfl rfl (by intro; rfl) (by omega) ?_ | refine PWops.slcRH rfl rfl rfl rfl rfl rfl rfl rfl (by intro; rfl) (by omega) ?_ | refine PWops.slcM rfl rfl rfl rfl rfl rfl rfl rfl rfl (by omega) ?_ | refine PWops.ldM rfl rfl rfl rfl rfl rfl rfl (by omega) rfl ?_ | refine PWops.ldR rfl rfl rfl rfl rfl rfl rfl (by intro; rfl) (by omega) rfl rfl ?_ | refine PWops.ldRA rfl rfl rfl rfl rfl rfl (by intro; rfl) (by omega) rfl ?_)) | (first | ((with_reducible refine PW.idd ?_) ; (first | refine PW.region typeTab_ok (by kernel_rfl) ?_ | refine PW.draw typeTab_ok (by kernel_rfl) (by kernel_rfl) (by kernel_rfl) ?_ | refine PW.condT rfl ?_ | refine PW.condF rfl ?_ | refine blockP_other (by decide) ?_)) | with_reducible refine blockP_other (by decide) ?_)))
            refine retP rfl (by (first | exact low_mapI | exact low_mapS | exact low_mapB | simp [low_val, low_nilsl, low_sl, low_ep, low_agg, low_tup, low_fn, low_pint, low_pstr, low_pbool, low_pints, low_pstrs, low_pbyte, low_pbytes, low_pattrs, low_pdefs, low_pschema, low_pentry])) ?_
            rw [hbad (by simp [smallDefB]; omega)]; rfl
          · (repeat (first | (with_reducible first | refine PW.seq ?_ | refine PW.block ?_ | refine PW.skip ?_ | refine PW.exit ?_ | refine PW.ret ?_ | refine thenP ?_ | refine thenP_exit ?_ | refine thenP_ret ?_ | refine blockP ?_ | refine blockP_exit ?_ | refine blockP_ret ?_ | refine loopP_exit ?_ | refine loopP_ret ?_) | ((with_reducible refine PWops.idd ?_) ; first | (first | refine PWops.stepA rfl ?_ | refine PWops.doneI rfl ?_ | refine PWops.boolK true rfl rfl rfl rfl (by (first | rfl | assumption | (simp only [decide_eq_true_eq, decide_eq_false_iff_not, bne_iff_ne, beq_iff_eq, beq_eq_false_iff_ne, bne_eq_false_iff_eq, ne_eq] ; omega))) rfl ?_ | refine PWops.boolK false rfl rfl rfl rfl (by (first | rfl | assumption | (simp only [decide_eq_true_eq, decide_eq_false_iff_not, bne_iff_ne, beq_iff_eq, beq_eq_false_iff_ne, bne_eq_false_iff_eq, ne_eq] ; omega))) rfl ?_ | refine PWops.fitsK rfl rfl rfl rfl (by omega) (by omega) rfl ?_ | refine PWops.remK rfl rfl rfl rfl (by omega) rfl ?_ | refine PWops.quoK rfl rfl rfl rfl (by omega) rfl ?_ | refine PWops.app rfl rfl rfl rfl rfl rfl rfl (by omega) (by omega) (by first | rfl | exact one_pint _ | exact one_pstr _ | exact one_pbyte _ | exact one_pattrs _) ?_ | refine PWops.app0 rfl rfl rfl rfl rfl rfl rfl (by omega) (by omega) (by first | rfl | exact one_pint _ | exact one_pstr _ | exact one_pbyte _ | exact one_pattrs _) ?_ | refine PWops.idx1 rfl rfl rfl rfl rfl rfl rfl rfl (by omega) ?_ | refine PWops.idx rfl rfl rfl rfl rfl rfl rfl rfl (by omega) ?_ | refine PWops.ld rfl rfl rfl rfl rfl rfl rfl (by assumption) rfl ?_ | refine PWops.ldA rfl rfl rfl rfl rfl rfl (by omega) (by assumption) ?_ | refine PWops.str rfl rfl rfl rfl rfl rfl rfl rfl rfl rfl rfl ?_) | (first | (refine PWops.call rfl rfl rfl (by assumption) ?_) | refine PWops.idxZ1 rfl rfl rfl rfl rfl rfl rfl rfl (by omega) ?_ | refine PWops.idxZ rfl rfl rfl rfl rfl rfl rfl rfl (by omega) ?_ | refine PWops.ld rfl rfl rfl rfl rfl rfl rfl rfl rfl ?_ | refine PWops.slcL rfl rfl rfl rfl rfl rfl rfl rfl (by omega) ?_ | refine PWops.slcH rfl rfl rfl rfl rfl rfl rfl rfl (by omega) ?_ | refine PWops.slcRL rfl rfl rfl rfl rfl rfl rfl rfl (by intro; rfl) (by omega) ?_ | refine PWops.slcRH rfl rfl rfl rfl rfl rfl rfl rfl (by intro; rfl) (by omega) ?_ | refine PWops.slcM rfl rfl rfl rfl rfl rfl rfl rfl rfl (by omega) ?_ | refine PWops.ldM rfl rfl rfl rfl rfl rfl rfl (by omega) rfl ?_ | refine PWops.ldR rfl rfl rfl rfl rfl rfl rfl (by intro; rfl) (by omega) rfl rfl ?_ | refine PWops.ldRA rfl rfl rfl rfl rfl rfl (by intro; rfl) (by omega) rfl ?_)) | (first | ((with_reducible refine PW.idd ?_) ; (first | refine PW.region typeTab_ok (by kernel_rfl) ?_ | refine PW.draw typeTab_ok (by kernel_rfl) (by kernel_rfl) (by kernel_rfl) ?_ | refine PW.condT rfl ?_ | refine PW.condF rfl ?_ | refine blockP_other (by decide) ?_)) | with_reducible refine blockP_other (by decide) ?_)))
            refine PW.loop (fun j : Nat => ((((((bot.setb 0 (schCellsP s)).setb 4005 (pdefL d)).put 1 (pint 20)).put 2 (.ptr 0 0)).put 4 (pbool false)).put 5 (pint k)).put 6 (.ptr 4005 0) |>.put 7 (pint j)) (fun j => j ≤ d.words.length ∧ (d.words.take j).all (fun s => decide (s.size ≤ 100)) = true) (fun j => d.words.length - j) 0 ⟨by omega, by simp⟩ ?_ ?_
            · (exact Sub.drop (by (repeat (first | exact bot_b | with_reducible refine put_b ?_ | refine setb_b ?_ rfl))) (by (repeat (first | exact bot_c | with_reducible refine put_c ?_ | with_reducible refine setb_c ?_ (by first | assumption | exact hlow _ | (first | exact low_mapI | exact low_mapS | exact low_mapB | simp [low_val, low_nilsl, low_sl, low_ep, low_agg, low_tup, low_fn, low_pint, low_pstr, low_pbool, low_pints, low_pstrs, low_pbyte, low_pbytes, low_pattrs, low_pdefs, low_pschema, low_pentry]) | exact low_entCells _ | exact low_schCells _ | exact low_pdefL _ | exact low_pattrL _)))) (by (repeat (first | exact bot_l | with_reducible refine setb_l ?_ | with_reducible refine put_l ?_ (by first | (left; (first | exact low_mapI | exact low_mapS | exact low_mapB | simp [low_val, low_nilsl, low_sl, low_ep, low_agg, low_tup, low_fn, low_pint, low_pstr, low_pbool, low_pints, low_pstrs, low_pbyte, low_pbytes, low_pattrs, low_pdefs, low_pschema, low_pentry])) | exact .inr ⟨_, _, rfl, (by simp [PS.setb, PS.put, upd_if])⟩)))) (by (repeat (first | exact sub_bot | with_reducible refine setb_t ?_ | refine sub_put ?_ (.inl rfl) | refine sub_put ?_ (.inr (.inl rfl)) | refine sub_put ?_ (.inr (.inr ⟨_, _, rfl, rfl⟩))))))
            · rintro j ⟨hj, hja⟩
              by_cases hjl : j < d.words.length
              · obtain ⟨x, hx⟩ := ints_get d.words j hjl
                have hx' := map_get (f := pstr) hx
                by_cases hx100 : 100 < x.size
                · (repeat (first | (with_reducible first | refine PW.seq ?_ | refine PW.block ?_ | refine PW.skip ?_ | refine PW.exit ?_ | refine PW.ret ?_ | refine thenP ?_ | refine thenP_exit ?_ | refine thenP_ret ?_ | refine blockP ?_ | refine blockP_exit ?_ | refine blockP_ret ?_ | refine loopP_exit ?_ | refine loopP_ret ?_) | ((with_reducible refine PWops.idd ?_) ; first | (first | refine PWops.stepA rfl ?_ | refine PWops.doneI rfl ?_ | refine PWops.boolK true rfl rfl rfl rfl (by (first | rfl | assumption | (simp only [decide_eq_true_eq, decide_eq_false_iff_not, bne_iff_ne, beq_iff_eq, beq_eq_false_iff_ne, bne_eq_false_iff_eq, ne_eq] ; omega))) rfl ?_ | refine PWops.boolK false rfl rfl rfl rfl (by (first | rfl | assumption | (simp only [decide_eq_true_eq, decide_eq_false_iff_not, bne_iff_ne, beq_iff_eq, beq_eq_false_iff_ne, bne_eq_false_iff_eq, ne_eq] ; omega))) rfl ?_ | refine PWops.fitsK rfl rfl rfl rfl (by omega) (by omega) rfl ?_ | refine PWops.remK rfl rfl rfl rfl (by omega) rfl ?_ | refine PWops.quoK rfl rfl rfl rfl (by omega) rfl ?_ | refine PWops.app rfl rfl rfl rfl rfl rfl rfl (by omega) (by omega) (by first | rfl | exact one_pint _ | exact one_pstr _ | exact one_pbyte _ | exact one_pattrs _) ?_ | refine PWops.app0 rfl rfl rfl rfl rfl rfl rfl (by omega) (by omega) (by first | rfl | exact one_pint _ | exact one_pstr _ | exact one_pbyte _ | exact one_pattrs _) ?_ | refine PWops.idx1 rfl rfl rfl rfl rfl rfl rfl rfl (by omega) ?_ | refine PWops.idx rfl rfl rfl rfl rfl rfl rfl rfl (by omega) ?_ | refine PWops.ld rfl rfl rfl rfl rfl rfl rfl (by assumption) rfl ?_ | refine PWops.ldA rfl rfl rfl rfl rfl rfl (by omega) (by assumption) ?_ | refine PWops.str rfl rfl rfl rfl rfl rfl rfl rfl rfl rfl rfl ?_) | (first | (refine PWops.call rfl rfl rfl (by assumption) ?_) | refine PWops.idxZ1 rfl rfl rfl rfl rfl rfl rfl rfl (by omega) ?_ | refine PWops.idxZ rfl rfl rfl rfl rfl rfl rfl rfl (by omega) ?_ | refine PWops.ld rfl rfl rfl rfl rfl rfl rfl rfl rfl ?_ | refine PWops.slcL rfl rfl rfl rfl rfl rfl rfl rfl (by omega) ?_ | refine PWops.slcH rfl rfl rfl rfl rfl rfl rfl rfl (by omega) ?_ | refine PWops.slcRL rfl rfl rfl rfl rfl rfl rfl rfl (by intro; rfl) (by omega) ?_ | refine PWops.slcRH rfl rfl rfl rfl rfl rfl rfl rfl (by intro; rfl) (by omega) ?_ | refine PWops.slcM rfl rfl rfl rfl rfl rfl rfl rfl rfl (by omega) ?_ | refine PWops.ldM rfl rfl rfl rfl rfl rfl rfl (by omega) rfl ?_ | refine PWops.ldR rfl rfl rfl rfl rfl rfl rfl (by intro; rfl) (by omega) rfl rfl ?_ | refine PWops.ldRA rfl rfl rfl rfl rfl rfl (by intro; rfl) (by omega) rfl ?_)) | (first | ((with_reducible refine PW.idd ?_) ; (first | refine PW.region typeTab_ok (by kernel_rfl) ?_ | refine PW.draw typeTab_ok (by kernel_rfl) (by kernel_rfl) (by kernel_rfl) ?_ | refine PW.condT rfl ?_ | refine PW.condF rfl ?_ | refine blockP_other (by decide) ?_)) | with_reducible refine blockP_other (by decide) ?_)))
                  refine retP rfl (by (first | exact low_mapI | exact low_mapS | exact low_mapB | simp [low_val, low_nilsl, low_sl, low_ep, low_agg, low_tup, low_fn, low_pint, low_pstr, low_pbool, low_pints, low_pstrs, low_pbyte, low_pbytes, low_pattrs, low_pdefs, low_pschema, low_pentry])) ?_
                  rw [hbad ?_]
                  · rfl
                  · have : d.words.all (fun s => decide (s.size ≤ 100)) = false := by
                      rw [List.all_eq_false]; exact ⟨x, mem_of_get hx, by simp; omega⟩
                    simp [smallDefB, this]
                · (repeat (first | (with_reducible first | refine PW.seq ?_ | refine PW.block ?_ | refine PW.skip ?_ | refine PW.exit ?_ | refine PW.ret ?_ | refine thenP ?_ | refine thenP_exit ?_ | refine thenP_ret ?_ | refine blockP ?_ | refine blockP_exit ?_ | refine blockP_ret ?_ | refine loopP_exit ?_ | refine loopP_ret ?_) | ((with_reducible refine PWops.idd ?_) ; first | (first | refine PWops.stepA rfl ?_ | refine PWops.doneI rfl ?_ | refine PWops.boolK true rfl rfl rfl rfl (by (first | rfl | assumption | (simp only [decide_eq_true_eq, decide_eq_false_iff_not, bne_iff_ne, beq_iff_eq, beq_eq_false_iff_ne, bne_eq_false_iff_eq, ne_eq] ; omega))) rfl ?_ | refine PWops.boolK false rfl rfl rfl rfl (by (first | rfl | assumption | (simp only [decide_eq_true_eq, decide_eq_false_iff_not, bne_iff_ne, beq_iff_eq, beq_eq_false_iff_ne, bne_eq_false_iff_eq, ne_eq] ; omega))) rfl ?_ | refine PWops.fitsK rfl rfl rfl rfl (by omega) (by omega) rfl ?_ | refine PWops.remK rfl rfl rfl rfl (by omega) rfl ?_ | refine PWops.quoK rfl rfl rfl rfl (by omega) rfl ?_ | refine PWops.app rfl rfl rfl rfl rfl rfl rfl (by omega) (by omega) (by first | rfl | exact one_pint _ | exact one_pstr _ | exact one_pbyte _ | exact one_pattrs _) ?_ | refine PWops.app0 rfl rfl rfl rfl rfl rfl rfl (by omega) (by omega) (by first | rfl | exact one_pint _ | exact one_pstr _ | exact one_pbyte _ | exact one_pattrs _) ?_ | refine PWops.idx1 rfl rfl rfl rfl rfl rfl rfl rfl (by omega) ?_ | refine PWops.idx rfl rfl rfl rfl rfl rfl rfl rfl (by omega) ?_ | refine PWops.ld rfl rfl rfl rfl rfl rfl rfl (by assumption) rfl ?_ | refine PWops.ldA rfl rfl rfl rfl rfl rfl (by omega) (by assumption) ?_ | refine PWops.str rfl rfl rfl rfl rfl rfl rfl rfl rfl rfl rfl ?_) | (first | (refine PWops.call rfl rfl rfl (by assumption) ?_) | refine PWops.idxZ1 rfl rfl rfl rfl rfl rfl rfl rfl (by omega) ?_ | refine PWops.idxZ rfl rfl rfl rfl rfl rfl rfl rfl (by omega) ?_ | refine PWops.ld rfl rfl rfl rfl rfl rfl rfl rfl rfl ?_ | refine PWops.slcL rfl rfl rfl rfl rfl rfl rfl rfl (by omega) ?_ | refine PWops.slcH rfl rfl rfl rfl rfl rfl rfl rfl (by omega) ?_ | refine PWops.slcRL rfl rfl rfl rfl rfl rfl rfl rfl (by intro; rfl) (by omega) ?_ | refine PWops.slcRH rfl rfl rfl rfl rfl rfl rfl rfl (by intro; rfl) (by omega) ?_ | refine PWops.slcM rfl rfl rfl rfl rfl rfl rfl rfl rfl (by omega) ?_ | refine PWops.ldM rfl rfl rfl rfl rfl rfl rfl (by omega) rfl ?_ | refine PWops.ldR rfl rfl rfl rfl rfl rfl rfl (by intro; rfl) (by omega) rfl rfl ?_ | refine PWops.ldRA rfl rfl rfl rfl rfl rfl (by intro; rfl) (by omega) rfl ?_)) | (first | ((with_reducible refine PW.idd ?_) ; (first | refine PW.region typeTab_ok (by kernel_rfl) ?_ | refine PW.draw typeTab_ok (by kernel_rfl) (by kernel_rfl) (by kernel_rfl) ?_ | refine PW.condT rfl ?_ | refine PW.condF rfl ?_ | refine blockP_other (by decide) ?_)) | with_reducible refine blockP_other (by decide) ?_)))
                  refine loopP (j + 1) ⟨by omega, ?_⟩ (by omega) ?_
                  · rw [List.take_add_one, List.all_append, hja, hx]
                    simp; omega
                  · (exact Sub.drop (by (repeat (first | exact bot_b | with_reducible refine put_b ?_ | refine setb_b ?_ rfl))) (by (repeat (first | exact bot_c | with_reducible refine put_c ?_ | with_reducible refine setb_c ?_ (by first | assumption | exact hlow _ | (first | exact low_mapI | exact low_mapS | exact low_mapB | simp [low_val, low_nilsl, low_sl, low_ep, low_agg, low_tup, low_fn, low_pint, low_pstr, low_pbool, low_pints, low_pstrs, low_pbyte, low_pbytes, low_pattrs, low_pdefs, low_pschema, low_pentry]) | exact low_entCells _ | exact low_schCells _ | exact low_pdefL _ | exact low_pattrL _)))) (by (repeat (first | exact bot_l | with_reducible refine setb_l ?_ | with_reducible refine put_l ?_ (by first | (left; (first | exact low_mapI | exact low_mapS | exact low_mapB | simp [low_val, low_nilsl, low_sl, low_ep, low_agg, low_tup, low_fn, low_pint, low_pstr, low_pbool, low_pints, low_pstrs, low_pbyte, low_pbytes, low_pattrs, low_pdefs, low_pschema, low_pentry])) | exact .inr ⟨_, _, rfl, (by simp [PS.setb, PS.put, upd_if])⟩)))) (by (repeat (first | exact sub_bot | with_reducible refine setb_t ?_ | refine sub_put ?_ (.inl rfl) | refine sub_put ?_ (.inr (.inl rfl)) | refine sub_put ?_ (.inr (.inr ⟨_, _, rfl, rfl⟩))))))
              · have hwa : d.words.all (fun s => decide (s.size ≤ 100)) = true := by rw [List.take_of_length_le (by omega)] at hja; exact hja
                (repeat (first | (with_reducible first | refine PW.seq ?_ | refine PW.block ?_ | refine PW.skip ?_ | refine PW.exit ?_ | refine PW.ret ?_ | refine thenP ?_ | refine thenP_exit ?_ | refine thenP_ret ?_ | refine blockP ?_ | refine blockP_exit ?_ | refine blockP_ret ?_ | refine loopP_exit ?_ | refine loopP_ret ?_) | ((with_reducible refine PWops.idd ?_) ; first | (first | refine PWops.stepA rfl ?_ | refine PWops.doneI rfl ?_ | refine PWops.boolK true rfl rfl rfl rfl (by (first | rfl | assumption | (simp only [decide_eq_true_eq, decide_eq_false_iff_not, bne_iff_ne, beq_iff_eq, beq_eq_false_iff_ne, bne_eq_false_iff_eq, ne_eq] ; omega))) rfl ?_ | refine PWops.boolK false rfl rfl rfl rfl (by (first | rfl | assumption | (simp only [decide_eq_true_eq, decide_eq_false_iff_not, bne_iff_ne, beq_iff_eq, beq_eq_false_iff_ne, bne_eq_false_iff_eq, ne_eq] ; omega))) rfl ?_ | refine PWops.fitsK rfl rfl rfl rfl (by omega) (by omega) rfl ?_ | refine PWops.remK rfl rfl rfl rfl (by omega) rfl ?_ | refine PWops.quoK rfl rfl rfl rfl (by omega) rfl ?_ | refine PWops.app rfl rfl rfl rfl rfl rfl rfl (by omega) (by omega) (by first | rfl | exact one_pint _ | exact one_pstr _ | exact one_pbyte _ | exact one_pattrs _) ?_ | refine PWops.app0 rfl rfl rfl rfl rfl rfl rfl (by omega) (by omega) (by first | rfl | exact one_pint _ | exact one_pstr _ | exact one_pbyte _ | exact one_pattrs _) ?_ | refine PWops.idx1 rfl rfl rfl rfl rfl rfl rfl rfl (by omega) ?_ | refine PWops.idx rfl rfl rfl rfl rfl rfl rfl rfl (by omega) ?_ | refine PWops.ld rfl rfl rfl rfl rfl rfl rfl (by assumption) rfl ?_ | refine PWops.ldA rfl rfl rfl rfl rfl rfl (by omega) (by assumption) ?_ | refine PWops.str rfl rfl rfl rfl rfl rfl rfl rfl rfl rfl rfl ?_) | (first | (refine PWops.call rfl rfl rfl (by assumption) ?_) | refine PWops.idxZ1 rfl rfl rfl rfl rfl rfl rfl rfl (by omega) ?_ | refine PWops.idxZ rfl rfl rfl rfl rfl rfl rfl rfl (by omega) ?_ | refine PWops.ld rfl rfl rfl rfl rfl rfl rfl rfl rfl ?_ | refine PWops.slcL rfl rfl rfl rfl rfl rfl rfl rfl (by omega) ?_ | refine PWops.slcH rfl rfl rfl rfl rfl rfl rfl rfl (by omega) ?_ | refine PWops.slcRL rfl rfl rfl rfl rfl rfl rfl rfl (by intro; rfl) (by omega) ?_ | refine PWops.slcRH rfl rfl rfl rfl rfl rfl rfl rfl (by intro; rfl) (by omega) ?_ | refine PWops.slcM rfl rfl rfl rfl rfl rfl rfl rfl rfl (by omega) ?_ | refine PWops.ldM rfl rfl rfl rfl rfl rfl rfl (by omega) rfl ?_ | refine PWops.ldR rfl rfl rfl rfl rfl rfl rfl (by intro; rfl) (by omega) rfl rfl ?_ | refine PWops.ldRA rfl rfl rfl rfl rfl rfl (by intro; rfl) (by omega) rfl ?_)) | (first | ((with_reducible refine PW.idd ?_) ; (first | refine PW.region typeTab_ok (by kernel_rfl) ?_ | refine PW.draw typeTab_ok (by kernel_rfl) (by kernel_rfl) (by kernel_rfl) ?_ | refine PW.condT rfl ?_ | refine PW.condF rfl ?_ | refine blockP_other (by decide) ?_)) | with_reducible refine blockP_other (by decide) ?_)))
                refine loopP (k + 1) ⟨by omega, by omega, ?_⟩ (by omega) ?_
                · rw [List.take_add_one, List.all_append, hall, hd]
                  simp only [Option.toList_some, List.all_cons, List.all_nil, Bool.and_true, Bool.true_and]
                  simp only [smallDefB, hwa, Bool.and_true, Bool.and_eq_true, decide_eq_true_eq]; omega
                · (exact Sub.drop (by (repeat (first | exact bot_b | with_reducible refine put_b ?_ | refine setb_b ?_ rfl))) (by (repeat (first | exact bot_c | with_reducible refine put_c ?_ | with_reducible refine setb_c ?_ (by first | assumption | exact hlow _ | (first | exact low_mapI | exact low_mapS | exact low_mapB | simp [low_val, low_nilsl, low_sl, low_ep, low_agg, low_tup, low_fn, low_pint, low_pstr, low_pbool, low_pints, low_pstrs, low_pbyte, low_pbytes, low_pattrs, low_pdefs, low_pschema, low_pentry]) | exact low_entCells _ | exact low_schCells _ | exact low_pdefL _ | exact low_pattrL _)))) (by (repeat (first | exact bot_l | with_reducible refine setb_l ?_ | with_reducible refine put_l ?_ (by first | (left; (first | exact low_mapI | exact low_mapS | exact low_mapB | simp [low_val, low_nilsl, low_sl, low_ep, low_agg, low_tup, low_fn, low_pint, low_pstr, low_pbool, low_pints, low_pstrs, low_pbyte, low_pbytes, low_pattrs, low_pdefs, low_pschema, low_pentry])) | exact .inr ⟨_, _, rfl, (by simp [PS.setb, PS.put, upd_if])⟩)))) (by (repeat (first | exact sub_bot | with_reducible refine setb_t ?_ | refine sub_put ?_ (.inl rfl) | refine sub_put ?_ (.inr (.inl rfl)) | refine sub_put ?_ (.inr (.inr ⟨_, _, rfl, rfl⟩))))))
      · have hr : fewDefsB s = false := by simp [fewDefsB]; omega
        have h20' : ¬ s.defs.length ≤ 20 := by omega
        (repeat (first | (with_reducible first | refine PW.seq ?_ | refine PW.block ?_ | refine PW.skip ?_ | refine PW.exit ?_ | refine PW.ret ?_ | refine thenP ?_ | refine thenP_exit ?_ | refine thenP_ret ?_ | refine blockP ?_ | refine blockP_exit ?_ | refine blockP_ret ?_ | refine loopP_exit ?_ | refine loopP_ret ?_) | ((with_reducible refine PWops.idd ?_) ; first | (first | refine PWops.stepA rfl ?_ | refine PWops.doneI rfl ?_ | refine PWops.boolK true rfl rfl rfl rfl (by (first | rfl | assumption | (simp only [decide_eq_true_eq, decide_eq_false_iff_not, bne_iff_ne, beq_iff_eq, beq_eq_false_iff_ne, bne_eq_false_iff_eq, ne_eq] ; omega))) rfl ?_ | refine PWops.boolK false rfl rfl rfl rfl (by (first | rfl | assumption | (simp only [decide_eq_true_eq, decide_eq_false_iff_not, bne_iff_ne, beq_iff_eq, beq_eq_false_iff_ne, bne_eq_false_iff_eq, ne_eq] ; omega))) rfl ?_ | refine PWops.fitsK rfl rfl rfl rfl (by omega) (by omega) rfl ?_ | refine PWops.remK rfl rfl rfl rfl (by omega) rfl ?_ | refine PWops.quoK rfl rfl rfl rfl (by omega) rfl ?_ | refine PWops.app rfl rfl rfl rfl rfl rfl rfl (by omega) (by omega) (by first | rfl | exact one_pint _ | exact one_pstr _ | exact one_pbyte _ | exact one_pattrs _) ?_ | refine PWops.app0 rfl rfl rfl rfl rfl rfl rfl (by omega) (by omega) (by first | rfl | exact one_pint _ | exact one_pstr _ | exact one_pbyte _ | exact one_pattrs _) ?_ | refine PWops.idx1 rfl rfl rfl rfl rfl rfl rfl rfl (by omega) ?_ | refine PWops.idx rfl rfl rfl rfl rfl rfl rfl rfl (by omega) ?_ | refine PWops.ld rfl rfl rfl rfl rfl rfl rfl (by assumption) rfl ?_ | refine PWops.ldA rfl rfl rfl rfl rfl rfl (by omega) (by assumption) ?_ | refine PWops.str rfl rfl rfl rfl rfl rfl rfl rfl rfl rfl rfl ?_) | (first | (refine PWops.call rfl rfl rfl (by assumption) ?_) | refine PWops.idxZ1 rfl rfl rfl rfl rfl rfl rfl rfl (by omega) ?_ | refine PWops.idxZ rfl rfl rfl rfl rfl rfl rfl rfl (by omega) ?_ | refine PWops.ld rfl rfl rfl rfl rfl rfl rfl rfl rfl ?_ | refine PWops.slcL rfl rfl rfl rfl rfl rfl rfl rfl (by omega) ?_ | refine PWops.slcH rfl rfl rfl rfl rfl rfl rfl rfl (by omega) ?_ | refine PWops.slcRL rfl rfl rfl rfl rfl rfl rfl rfl (by intro; rfl) (by omega) ?_ | refine PWops.slcRH rfl rfl rfl rfl rfl rfl rfl rfl (by intro; rfl) (by omega) ?_ | refine PWops.slcM rfl rfl rfl rfl rfl rfl rfl rfl rfl (by omega) ?_ | refine PWops.ldM rfl rfl rfl rfl rfl rfl rfl (by omega) rfl ?_ | refine PWops.ldR rfl rfl rfl rfl rfl rfl rfl (by intro; rfl) (by omega) rfl rfl ?_ | refine PWops.ldRA rfl rfl rfl rfl rfl rfl (by intro; rfl) (by omega) rfl ?_)) | (first | ((with_reducible refine PW.idd ?_) ; (first | refine PW.region typeTab_ok (by kernel_rfl) ?_ | refine PW.draw typeTab_ok (by kernel_rfl) (by kernel_rfl) (by kernel_rfl) ?_ | refine PW.condT rfl ?_ | refine PW.condF rfl ?_ | refine blockP_other (by decide) ?_)) | with_reducible refine blockP_other (by decide) ?_)))
        refine retP rfl (by (first | exact low_mapI | exact low_mapS | exact low_mapB | simp [low_val, low_nilsl, low_sl, low_ep, low_agg, low_tup, low_fn, low_pint, low_pstr, low_pbool, low_pints, low_pstrs, low_pbyte, low_pbytes, low_pattrs, low_pdefs, low_pschema, low_pentry])) ?_
        rw [hr]; rfl
    · have e21 : (s.defs.take 21).all smallDefB = true := by
        rw [List.take_of_length_le (by omega)] at hall
        rw [List.all_eq_true] at hall ⊢
        exact fun x hx => hall x (List.mem_of_mem_take hx)
      by_cases h20 : s.defs.length ≤ 20
      · (repeat (first | (with_reducible first | refine PW.seq ?_ | refine PW.block ?_ | refine PW.skip ?_ | refine PW.exit ?_ | refine PW.ret ?_ | refine thenP ?_ | refine thenP_exit ?_ | refine thenP_ret ?_ | refine blockP ?_ | refine blockP_exit ?_ | refine blockP_ret ?_ | refine loopP_exit ?_ | refine loopP_ret ?_) | ((with_reducible refine PWops.idd ?_) ; first | (first | refine PWops.stepA rfl ?_ | refine PWops.doneI rfl ?_ | refine PWops.boolK true rfl rfl rfl rfl (by (first | rfl | assumption | (simp only [decide_eq_true_eq, decide_eq_false_iff_not, bne_iff_ne, beq_iff_eq, beq_eq_false_iff_ne, bne_eq_false_iff_eq, ne_eq] ; omega))) rfl ?_ | refine PWops.boolK false rfl rfl rfl rfl (by (first | rfl | assumption | (simp only [decide_eq_true_eq, decide_eq_false_iff_not, bne_iff_ne, beq_iff_eq, beq_eq_false_iff_ne, bne_eq_false_iff_eq, ne_eq] ; omega))) rfl ?_ | refine PWops.fitsK rfl rfl rfl rfl (by omega) (by omega) rfl ?_ | refine PWops.remK rfl rfl rfl rfl (by omega) rfl ?_ | refine PWops.quoK rfl rfl rfl rfl (by omega) rfl ?_ | refine PWops.app rfl rfl rfl rfl rfl rfl rfl (by omega) (by omega) (by first | rfl | exact one_pint _ | exact one_pstr _ | exact one_pbyte _ | exact one_pattrs _) ?_ | refine PWops.app0 rfl rfl rfl rfl rfl rfl rfl (by omega) (by omega) (by first | rfl | exact one_pint _ | exact one_pstr _ | exact one_pbyte _ | exact one_pattrs _) ?_ | refine PWops.idx1 rfl rfl rfl rfl rfl rfl rfl rfl (by omega) ?_ | refine PWops.idx rfl rfl rfl rfl rfl rfl rfl rfl (by omega) ?_ | refine PWops.ld rfl rfl rfl rfl rfl rfl rfl (by assumption) rfl ?_ | refine PWops.ldA rfl rfl rfl rfl rfl rfl (by omega) (by assumption) ?_ | refine PWops.str rfl rfl rfl rfl rfl rfl rfl rfl rfl rfl rfl ?_) | (first | (refine PWops.call rfl rfl rfl (by assumption) ?_) | refine PWops.idxZ1 rfl rfl rfl rfl rfl rfl rfl rfl (by omega) ?_ | refine PWops.idxZ rfl rfl rfl rfl rfl rfl rfl rfl (by omega) ?_ | refine PWops.ld rfl rfl rfl rfl rfl rfl rfl rfl rfl ?_ | refine PWops.slcL rfl rfl rfl rfl rfl rfl rfl rfl (by omega) ?_ | refine PWops.slcH rfl rfl rfl rfl rfl rfl rfl rfl (by omega) ?_ | refine PWops.slcRL rfl rfl rfl rfl rfl rfl rfl rfl (by intro; rfl) (by omega) ?_ | refine PWops.slcRH rfl rfl rfl rfl rfl rfl rfl rfl (by intro; rfl) (by omega) ?_ | refine PWops.slcM rfl rfl rfl rfl rfl rfl rfl rfl rfl (by omega) ?_ | refine PWops.ldM rfl rfl rfl rfl rfl rfl rfl (by omega) rfl ?_ | refine PWops.ldR rfl rfl rfl rfl rfl rfl rfl (by intro; rfl) (by omega) rfl rfl ?_ | refine PWops.ldRA rfl rfl rfl rfl rfl rfl (by intro; rfl) (by omega) rfl ?_)) | (first | ((with_reducible refine PW.idd ?_) ; (first | refine PW.region typeTab_ok (by kernel_rfl) ?_ | refine PW.draw typeTab_ok (by kernel_rfl) (by kernel_rfl) (by kernel_rfl) ?_ | refine PW.condT rfl ?_ | refine PW.condF rfl ?_ | refine blockP_other (by decide) ?_)) | with_reducible refine blockP_other (by decide) ?_)))
        refine retP rfl (by (first | exact low_mapI | exact low_mapS | exact low_mapB | simp [low_val, low_nilsl, low_sl, low_ep, low_agg, low_tup, low_fn, low_pint, low_pstr, low_pbool, low_pints, low_pstrs, low_pbyte, low_pbytes, low_pattrs, low_pdefs, low_pschema, low_pentry])) ?_
        simp [fewDefsB, e21, h20, pbool]
      · (repeat (first | (with_reducible first | refine PW.seq ?_ | refine PW.block ?_ | refine PW.skip ?_ | refine PW.exit ?_ | refine PW.ret ?_ | refine thenP ?_ | refine thenP_exit ?_ | refine thenP_ret ?_ | refine blockP ?_ | refine blockP_exit ?_ | refine blockP_ret ?_ | refine loopP_exit ?_ | refine loopP_ret ?_) | ((with_reducible refine PWops.idd ?_) ; first | (first | refine PWops.stepA rfl ?_ | refine PWops.doneI rfl ?_ | refine PWops.boolK true rfl rfl rfl rfl (by (first | rfl | assumption | (simp only [decide_eq_true_eq, decide_eq_false_iff_not, bne_iff_ne, beq_iff_eq, beq_eq_false_iff_ne, bne_eq_false_iff_eq, ne_eq] ; omega))) rfl ?_ | refine PWops.boolK false rfl rfl rfl rfl (by (first | rfl | assumption | (simp only [decide_eq_true_eq, decide_eq_false_iff_not, bne_iff_ne, beq_iff_eq, beq_eq_false_iff_ne, bne_eq_false_iff_eq, ne_eq] ; omega))) rfl ?_ | refine PWops.fitsK rfl rfl rfl rfl (by omega) (by omega) rfl ?_ | refine PWops.remK rfl rfl rfl rfl (by omega) rfl ?_ | refine PWops.quoK rfl rfl rfl rfl (by omega) rfl ?_ | refine PWops.app rfl rfl rfl rfl rfl rfl rfl (by omega) (by omega) (by first | rfl | exact one_pint _ | exact one_pstr _ | exact one_pbyte _ | exact one_pattrs _) ?_ | refine PWops.app0 rfl rfl rfl rfl rfl rfl rfl (by omega) (by omega) (by first | rfl | exact one_pint _ | exact one_pstr _ | exact one_pbyte _ | exact one_pattrs _) ?_ | refine PWops.idx1 rfl rfl rfl rfl rfl rfl rfl rfl (by omega) ?_ | refine PWops.idx rfl rfl rfl rfl rfl rfl rfl rfl (by omega) ?_ | refine PWops.ld rfl rfl rfl rfl rfl rfl rfl (by assumption) rfl ?_ | refine PWops.ldA rfl rfl rfl rfl rfl rfl (by omega) (by assumption) ?_ | refine PWops.str rfl rfl rfl rfl rfl rfl rfl rfl rfl rfl rfl ?_) | (first | (refine PWops.call rfl rfl rfl (by assumption) ?_) | refine PWops.idxZ1 rfl rfl rfl rfl rfl rfl rfl rfl (by omega) ?_ | refine PWops.idxZ rfl rfl rfl rfl rfl rfl rfl rfl (by omega) ?_ | refine PWops.ld rfl rfl rfl rfl rfl rfl rfl rfl rfl ?_ | refine PWops.slcL rfl rfl rfl rfl rfl rfl rfl rfl (by omega) ?_ | refine PWops.slcH rfl rfl rfl rfl rfl rfl rfl rfl (by omega) ?_ | refine PWops.slcRL rfl rfl rfl rfl rfl rfl rfl rfl (by intro; rfl) (by omega) ?_ | refine PWops.slcRH rfl rfl rfl rfl rfl rfl rfl rfl (by intro; rfl) (by omega) ?_ | refine PWops.slcM rfl rfl rfl rfl rfl rfl rfl rfl rfl (by omega) ?_ | refine PWops.ldM rfl rfl rfl rfl rfl rfl rfl (by omega) rfl ?_ | refine PWops.ldR rfl rfl rfl rfl rfl rfl rfl (by intro; rfl) (by omega) rfl rfl ?_ | refine PWops.ldRA rfl rfl rfl rfl rfl rfl (by intro; rfl) (by omega) rfl ?_)) | (first | ((with_reducible refine PW.idd ?_) ; (first | refine PW.region typeTab_ok (by kernel_rfl) ?_ | refine PW.draw typeTab_ok (by kernel_rfl) (by kernel_rfl) (by kernel_rfl) ?_ | refine PW.condT rfl ?_ | refine PW.condF rfl ?_ | refine blockP_other (by decide) ?_)) | with_reducible refine blockP_other (by decide) ?_)))
        refine retP rfl (by (first | exact low_mapI | exact low_mapS | exact low_mapB | simp [low_val, low_nilsl, low_sl, low_ep, low_agg, low_tup, low_fn, low_pint, low_pstr, low_pbool, low_pints, low_pstrs, low_pbyte, low_pbytes, low_pattrs, low_pdefs, low_pschema, low_pentry])) ?_
        simp [fewDefsB, h20, pbool]

theorem fewDefsB_few {s : PSchema} (h : fewDefsB s = true) : FewS s := by
  simp only [fewDefsB, Bool.and_eq_true, decide_eq_true_eq, List.all_eq_true] at h
  obtain ⟨h1, h2⟩ := h
  refine ⟨h2, fun d hd => ?_⟩
  rw [List.take_of_length_le (by omega)] at h1
  have := h1 d hd
  simpa [smallDefB, FewD] using this
end Go.Proofs.Ytnjopfjmepbpoaa
