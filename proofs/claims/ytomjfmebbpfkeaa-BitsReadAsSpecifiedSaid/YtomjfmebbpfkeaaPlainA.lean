/- Plain lists: what the functions of the packages bits and antiquaryref11 compute, and lemmas on it. No program in sight. -/
namespace Go.Proofs.Ytomjfmebbpfkeaa
set_option linter.unusedSimpArgs false
set_option linter.unusedVariables false
set_option linter.unnecessarySimpa false

def hasL : List Int → Int → Bool
  | a :: b :: r, x => (decide (a ≤ x) && decide (x < b)) || hasL r x
  | _, _ => false

theorem hasL_short (l : List Int) (x : Int) (h : l.length ≤ 1) : hasL l x = false := by
  match l with
  | [] => rfl
  | [_] => rfl
  | _ :: _ :: _ => simp at h

theorem drop_two {α : Type} (zs : List α) (k : Nat) (a b : α) (ha : zs[k]? = some a) (hb : zs[k+1]? = some b) : zs.drop k = a :: b :: zs.drop (k+2) := by
  obtain ⟨hk, rfl⟩ := List.getElem?_eq_some_iff.1 hb
  rw [List.drop_eq_getElem_cons (by omega), List.drop_eq_getElem_cons (by omega)]
  obtain ⟨hk', rfl⟩ := List.getElem?_eq_some_iff.1 ha
  rfl

theorem drop_one {α : Type} (zs : List α) (k : Nat) (a : α) (ha : zs[k]? = some a) : zs.drop k = a :: zs.drop (k+1) := by
  obtain ⟨hk, rfl⟩ := List.getElem?_eq_some_iff.1 ha
  rw [List.drop_eq_getElem_cons (by omega)]

theorem take_one {α : Type} (zs : List α) (k : Nat) (a : α) (ha : zs[k]? = some a) : zs.take (k+1) = zs.take k ++ [a] := by
  rw [List.take_add_one, ha]; rfl

theorem hasL_drop (zs : List Int) (k : Nat) (a b x : Int) (ha : zs[k]? = some a) (hb : zs[k+1]? = some b) :
    hasL (zs.drop k) x = ((decide (a ≤ x) && decide (x < b)) || hasL (zs.drop (k+2)) x) := by
  rw [drop_two zs k a b ha hb, hasL]

/-- Each element is greater than the one before it (the first: than lo) and at most 4096. -/
def ascB (lo : Int) : List Int → Bool
  | [] => true
  | z :: r => decide (lo < z) && decide (z ≤ 4096) && ascB z r

def validB (zs : List Int) : Bool := ascB (-1) zs && decide (zs.length % 2 = 0)

def prevAt (zs : List Int) (k : Nat) : Int := if k = 0 then -1 else zs.getD (k - 1) 0

theorem ascB_drop (zs : List Int) (k : Nat) (a lo : Int) (ha : zs[k]? = some a) : ascB lo (zs.drop k) = (decide (lo < a) && decide (a ≤ 4096) && ascB a (zs.drop (k+1))) := by
  rw [drop_one zs k a ha, ascB]

theorem prevAt_succ (zs : List Int) (k : Nat) (a : Int) (ha : zs[k]? = some a) : prevAt zs (k+1) = a := by
  simp [prevAt, ha]

theorem ascB_end (zs : List Int) (k : Nat) (lo : Int) (h : zs.length ≤ k) : ascB lo (zs.drop k) = true := by
  rw [List.drop_eq_nil_of_le h, ascB]

/-- What is known of a valid set. -/
structure Good (zs : List Int) : Prop where
  even : zs.length % 2 = 0
  len : zs.length ≤ 4097
  rng : ∀ (k : Nat) (y : Int), zs[k]? = some y → 0 ≤ y ∧ y ≤ 4096
  asc : ∀ (k : Nat) (y z : Int), zs[k]? = some y → zs[k+1]? = some z → y < z

theorem ascB_rng : ∀ (zs : List Int) (lo : Int), ascB lo zs = true → ∀ (k : Nat) (y : Int), zs[k]? = some y → lo < y ∧ y ≤ 4096
  | [], _, _, k, y, h => by simp at h
  | z :: r, lo, h, k, y, hk => by
    simp only [ascB, Bool.and_eq_true, decide_eq_true_eq] at h
    cases k with
    | zero => simp at hk; subst hk; exact h.1
    | succ k => have := ascB_rng r z h.2 k y (by simpa using hk); omega

theorem ascB_asc : ∀ (zs : List Int) (lo : Int), ascB lo zs = true → ∀ (k : Nat) (y z : Int), zs[k]? = some y → zs[k+1]? = some z → y < z
  | [], _, _, k, y, z, h, _ => by simp at h
  | x :: r, lo, h, k, y, z, hk, hk1 => by
    simp only [ascB, Bool.and_eq_true, decide_eq_true_eq] at h
    cases k with
    | zero => simp at hk; subst hk; exact (ascB_rng r x h.2 0 z (by simpa using hk1)).1
    | succ k => exact ascB_asc r x h.2 k y z (by simpa using hk) (by simpa using hk1)

theorem ascB_len : ∀ (zs : List Int) (lo : Int), ascB lo zs = true → lo ≤ 4096 → (zs.length : Int) ≤ 4096 - lo
  | [], lo, _, h => by simp; omega
  | z :: r, lo, h, _ => by
    simp only [ascB, Bool.and_eq_true, decide_eq_true_eq] at h
    have := ascB_len r z h.2 h.1.2
    simp; omega

theorem good_of_valid {zs : List Int} (h : validB zs = true) : Good zs := by
  simp only [validB, Bool.and_eq_true, decide_eq_true_eq] at h
  refine ⟨h.2, ?_, fun k y hk => ?_, ascB_asc zs (-1) h.1⟩
  · have := ascB_len zs (-1) h.1 (by omega); omega
  · have := ascB_rng zs (-1) h.1 k y hk; omega

def rankL : List Int → Int → Int
  | a :: b :: r, s => if a < s then (min b s - a) + rankL r s else 0
  | _, _ => 0

theorem rankL_drop (zs : List Int) (k : Nat) (a b s : Int) (ha : zs[k]? = some a) (hb : zs[k+1]? = some b) :
    rankL (zs.drop k) s = if a < s then (min b s - a) + rankL (zs.drop (k+2)) s else 0 := by
  rw [drop_two zs k a b ha hb, rankL]

theorem rankL_short (l : List Int) (x : Int) (h : l.length ≤ 1) : rankL l x = 0 := by
  match l with
  | [] => rfl
  | [_] => rfl
  | _ :: _ :: _ => simp at h

def selL : List Int → Int → Int
  | a :: b :: r, n => if b - a ≤ n then selL r (n - (b - a)) else a + n
  | _, _ => -1

theorem selL_drop (zs : List Int) (k : Nat) (a b s : Int) (ha : zs[k]? = some a) (hb : zs[k+1]? = some b) :
    selL (zs.drop k) s = if b - a ≤ s then selL (zs.drop (k+2)) (s - (b - a)) else a + s := by
  rw [drop_two zs k a b ha hb, selL]

theorem selL_short (l : List Int) (x : Int) (h : l.length ≤ 1) : selL l x = -1 := by
  match l with
  | [] => rfl
  | [_] => rfl
  | _ :: _ :: _ => simp at h

def selB (zs : List Int) (s : Int) : Int := if s < 0 then -1 else selL zs s

def sameFrom (a b : List Int) (k : Nat) : Bool := a.drop k == b.drop k

theorem sameFrom_step (a b : List Int) (k : Nat) (x y : Int) (ha : a[k]? = some x) (hb : b[k]? = some y) : sameFrom a b k = ((x == y) && sameFrom a b (k+1)) := by
  unfold sameFrom
  rw [drop_one a k x ha, drop_one b k y hb]
  rfl


/-- What bits.merge does from here on; pa, pb, po: whether an odd number of borders of a, of b, of the result has been passed. -/
def mergeF (r : Bool → Bool → Bool) : Nat → List Int → List Int → Bool → Bool → Bool → List Int
  | 0, _, _, _, _, _ => []
  | _ + 1, [], [], _, _, _ => []
  | n + 1, a :: as, [], pa, pb, po => if r (!pa) pb != po then a :: mergeF r n as [] (!pa) pb (!po) else mergeF r n as [] (!pa) pb po
  | n + 1, [], b :: bs, pa, pb, po => if r pa (!pb) != po then b :: mergeF r n [] bs pa (!pb) (!po) else mergeF r n [] bs pa (!pb) po
  | n + 1, a :: as, b :: bs, pa, pb, po =>
    if a < b then (if r (!pa) pb != po then a :: mergeF r n as (b :: bs) (!pa) pb (!po) else mergeF r n as (b :: bs) (!pa) pb po)
    else if b < a then (if r pa (!pb) != po then b :: mergeF r n (a :: as) bs pa (!pb) (!po) else mergeF r n (a :: as) bs pa (!pb) po)
    else (if r (!pa) (!pb) != po then a :: mergeF r n as bs (!pa) (!pb) (!po) else mergeF r n as bs (!pa) (!pb) po)

def mergeL (r : Bool → Bool → Bool) (as bs : List Int) : List Int := mergeF r (as.length + bs.length) as bs false false false

theorem mergeF_nil (r : Bool → Bool → Bool) (n : Nat) (pa pb po : Bool) : mergeF r n [] [] pa pb po = [] := by cases n <;> rfl

theorem mergeF_left (r : Bool → Bool → Bool) (n : Nat) (a : Int) (as : List Int) (pa pb po : Bool) :
    mergeF r (n+1) (a :: as) [] pa pb po = if r (!pa) pb != po then a :: mergeF r n as [] (!pa) pb (!po) else mergeF r n as [] (!pa) pb po := rfl
theorem mergeF_right (r : Bool → Bool → Bool) (n : Nat) (b : Int) (bs : List Int) (pa pb po : Bool) :
    mergeF r (n+1) [] (b :: bs) pa pb po = if r pa (!pb) != po then b :: mergeF r n [] bs pa (!pb) (!po) else mergeF r n [] bs pa (!pb) po := rfl

theorem mergeF_more (r : Bool → Bool → Bool) : ∀ (n : Nat) (as bs : List Int) (pa pb po : Bool), as.length + bs.length ≤ n → mergeF r (n+1) as bs pa pb po = mergeF r n as bs pa pb po
  | 0, as, bs, pa, pb, po, h => by
    have h1 : as = [] := List.eq_nil_of_length_eq_zero (by omega)
    have h2 : bs = [] := List.eq_nil_of_length_eq_zero (by omega)
    subst h1; subst h2; rfl
  | n + 1, as, bs, pa, pb, po, h => by
    match as, bs with
    | [], [] => rfl
    | a :: as, [] =>
      have := fun po => mergeF_more r n as [] (!pa) pb po (by simp at h ⊢; omega)
      rw [mergeF_left, mergeF_left, this, this]
    | [], b :: bs =>
      have := fun po => mergeF_more r n [] bs pa (!pb) po (by simp at h ⊢; omega)
      rw [mergeF_right, mergeF_right, this, this]
    | a :: as, b :: bs =>
      have h1 := fun po => mergeF_more r n as (b :: bs) (!pa) pb po (by simp at h ⊢; omega)
      have h2 := fun po => mergeF_more r n (a :: as) bs pa (!pb) po (by simp at h ⊢; omega)
      have h3 := fun po => mergeF_more r n as bs (!pa) (!pb) po (by simp at h ⊢; omega)
      simp only [mergeF.eq_5, h1, h2, h3]

theorem mergeF_len (r : Bool → Bool → Bool) : ∀ (n : Nat) (as bs : List Int) (pa pb po : Bool), (mergeF r n as bs pa pb po).length ≤ n
  | 0, _, _, _, _, _ => by simp [mergeF]
  | n + 1, as, bs, pa, pb, po => by
    match as, bs with
    | [], [] => simp [mergeF]
    | a :: as, [] =>
      have := fun po => mergeF_len r n as [] (!pa) pb po
      rw [mergeF_left]; split <;> simp <;> grind
    | [], b :: bs =>
      have := fun po => mergeF_len r n [] bs pa (!pb) po
      rw [mergeF_right]; split <;> simp <;> grind
    | a :: as, b :: bs =>
      have h1 := fun po => mergeF_len r n as (b :: bs) (!pa) pb po
      have h2 := fun po => mergeF_len r n (a :: as) bs pa (!pb) po
      have h3 := fun po => mergeF_len r n as bs (!pa) (!pb) po
      simp only [mergeF.eq_5]
      repeat' split
      all_goals simp
      all_goals grind

/-- The state of the loop in merge: i and k borders have been passed, out has been laid down. -/
def MergeAt (r : Bool → Bool → Bool) (as bs : List Int) (i k : Nat) (out : List Int) : Prop :=
  mergeL r as bs = out ++ mergeF r (as.length - i + (bs.length - k)) (as.drop i) (bs.drop k) (decide (i % 2 = 1)) (decide (k % 2 = 1)) (decide (out.length % 2 = 1))

theorem MergeAt.start (r : Bool → Bool → Bool) (as bs : List Int) : MergeAt r as bs 0 0 [] := by simp [MergeAt, mergeL]

theorem MergeAt.done {r : Bool → Bool → Bool} {as bs : List Int} {i k : Nat} {out : List Int} (h : MergeAt r as bs i k out) (hi : as.length ≤ i) (hk : bs.length ≤ k) : mergeL r as bs = out := by
  rw [MergeAt, List.drop_eq_nil_of_le hi, List.drop_eq_nil_of_le hk, mergeF_nil] at h
  simpa using h

theorem odd_succ (i : Nat) : decide ((i+1) % 2 = 1) = !decide (i % 2 = 1) := by
  by_cases h : i % 2 = 1
  · have : (i+1) % 2 = 0 := by omega
    simp [h, this]
  · have : (i+1) % 2 = 1 := by omega
    simp [h, this]

/-- What one round adds. -/
def addIf (c : Bool) (out : List Int) (x : Int) : List Int := if c then out ++ [x] else out

theorem MergeAt.left {r : Bool → Bool → Bool} {as bs : List Int} {i k : Nat} {out : List Int} (h : MergeAt r as bs i k out) (x : Int) (hx : as[i]? = some x) (hk : bs.length ≤ k ∨ ∃ y, bs[k]? = some y ∧ x < y) (c : Bool)
    (hc : c = (r (decide ((i+1) % 2 = 1)) (decide (k % 2 = 1)) != decide (out.length % 2 = 1))) : MergeAt r as bs (i+1) k (addIf c out x) := by
  obtain ⟨hi, _⟩ := List.getElem?_eq_some_iff.1 hx
  unfold MergeAt at h ⊢
  rw [h]
  have e1 : as.length - i + (bs.length - k) = (as.length - (i+1) + (bs.length - k)) + 1 := by omega
  rw [e1, drop_one as i x hx]
  rw [odd_succ] at hc
  have step : mergeF r (as.length - (i + 1) + (bs.length - k) + 1) (x :: as.drop (i+1)) (bs.drop k) (decide (i % 2 = 1)) (decide (k % 2 = 1)) (decide (out.length % 2 = 1)) =
      if c then x :: mergeF r (as.length - (i + 1) + (bs.length - k)) (as.drop (i+1)) (bs.drop k) (!decide (i % 2 = 1)) (decide (k % 2 = 1)) (!decide (out.length % 2 = 1))
      else mergeF r (as.length - (i + 1) + (bs.length - k)) (as.drop (i+1)) (bs.drop k) (!decide (i % 2 = 1)) (decide (k % 2 = 1)) (decide (out.length % 2 = 1)) := by
    rcases hk with hk | ⟨y, hy, hxy⟩
    · rw [List.drop_eq_nil_of_le hk, mergeF_left, hc]
    · rw [drop_one bs k y hy, mergeF.eq_5, if_pos hxy, hc]
  rw [step, odd_succ]
  cases c
  · simp [addIf]
  · simp only [addIf, if_true, List.length_append, List.length_cons, List.length_nil, Nat.zero_add, odd_succ, List.append_assoc, List.cons_append, List.nil_append]

theorem MergeAt.right {r : Bool → Bool → Bool} {as bs : List Int} {i k : Nat} {out : List Int} (h : MergeAt r as bs i k out) (x : Int) (hx : bs[k]? = some x) (hk : as.length ≤ i ∨ ∃ y, as[i]? = some y ∧ x < y) (c : Bool)
    (hc : c = (r (decide (i % 2 = 1)) (decide ((k+1) % 2 = 1)) != decide (out.length % 2 = 1))) : MergeAt r as bs i (k+1) (addIf c out x) := by
  obtain ⟨hi, _⟩ := List.getElem?_eq_some_iff.1 hx
  unfold MergeAt at h ⊢
  rw [h]
  have e1 : as.length - i + (bs.length - k) = (as.length - i + (bs.length - (k+1))) + 1 := by omega
  rw [e1, drop_one bs k x hx]
  rw [odd_succ] at hc
  have step : mergeF r (as.length - i + (bs.length - (k+1)) + 1) (as.drop i) (x :: bs.drop (k+1)) (decide (i % 2 = 1)) (decide (k % 2 = 1)) (decide (out.length % 2 = 1)) =
      if c then x :: mergeF r (as.length - i + (bs.length - (k+1))) (as.drop i) (bs.drop (k+1)) (decide (i % 2 = 1)) (!decide (k % 2 = 1)) (!decide (out.length % 2 = 1))
      else mergeF r (as.length - i + (bs.length - (k+1))) (as.drop i) (bs.drop (k+1)) (decide (i % 2 = 1)) (!decide (k % 2 = 1)) (decide (out.length % 2 = 1)) := by
    rcases hk with hk | ⟨y, hy, hxy⟩
    · rw [List.drop_eq_nil_of_le hk, mergeF_right, hc]
    · rw [drop_one as i y hy, mergeF.eq_5, if_neg (by omega), if_pos hxy, hc]
  rw [step, odd_succ]
  cases c
  · simp [addIf]
  · simp only [addIf, if_true, List.length_append, List.length_cons, List.length_nil, Nat.zero_add, odd_succ, List.append_assoc, List.cons_append, List.nil_append]

theorem MergeAt.both {r : Bool → Bool → Bool} {as bs : List Int} {i k : Nat} {out : List Int} (h : MergeAt r as bs i k out) (x : Int) (hx : as[i]? = some x) (hy : bs[k]? = some x) (c : Bool)
    (hc : c = (r (decide ((i+1) % 2 = 1)) (decide ((k+1) % 2 = 1)) != decide (out.length % 2 = 1))) : MergeAt r as bs (i+1) (k+1) (addIf c out x) := by
  obtain ⟨hi, _⟩ := List.getElem?_eq_some_iff.1 hx
  obtain ⟨hj, _⟩ := List.getElem?_eq_some_iff.1 hy
  unfold MergeAt at h ⊢
  rw [h]
  have e1 : as.length - i + (bs.length - k) = (as.length - (i+1) + (bs.length - (k+1)) + 1) + 1 := by omega
  rw [e1, drop_one bs k x hy, drop_one as i x hx]
  rw [odd_succ, odd_succ] at hc
  have m := fun po => mergeF_more r (as.length - (i+1) + (bs.length - (k+1))) (as.drop (i+1)) (bs.drop (k+1)) (!decide (i % 2 = 1)) (!decide (k % 2 = 1)) po (by simp)
  rw [mergeF.eq_5, if_neg (by omega), if_neg (by omega), ← hc, m, m, odd_succ, odd_succ]
  cases c
  · simp [addIf]
  · simp only [addIf, if_true, List.length_append, List.length_cons, List.length_nil, Nat.zero_add, odd_succ, List.append_assoc, List.cons_append, List.nil_append]

theorem odd_int (n : Nat) : (((n : Int) % 2) == 1) = decide (n % 2 = 1) := by
  rw [Bool.eq_iff_iff]; simp only [beq_iff_eq, decide_eq_true_eq]; omega
theorem odd_int1 (n : Nat) : ((((n : Int) + 1) % 2) == 1) = decide ((n + 1) % 2 = 1) := by
  rw [Bool.eq_iff_iff]; simp only [beq_iff_eq, decide_eq_true_eq]; omega


/-- The table of a rule at 0 to 4095. -/
def tab (f : Int → Bool) : List Bool := (List.range 4096).map (fun j => f (j : Nat))

theorem tab_length (f : Int → Bool) : (tab f).length = 4096 := by simp [tab]
theorem tab_get (f : Int → Bool) (x : Nat) (h : x < 4096) : (tab f)[x]? = some (f x) := by simp [tab, h]
theorem tab_set (f : Int → Bool) (x : Nat) (b : Bool) : (tab f).set x b = tab (fun j => if j = x then b else f j) := by
  apply List.ext_getElem
  · simp [tab]
  · intro k h1 h2
    simp only [tab, List.getElem_set, List.getElem_map, List.getElem_range]
    by_cases h : x = k
    · subst h; simp
    · rw [if_neg h, if_neg (by omega)]
theorem tab_congr {f g : Int → Bool} (h : ∀ j : Int, 0 ≤ j → j < 4096 → f j = g j) : tab f = tab g := by
  apply List.ext_getElem
  · simp [tab]
  · intro k h1 h2
    simp only [tab, List.getElem_map, List.getElem_range]
    simp [tab] at h1
    exact h k (by omega) (by omega)
theorem tab_false : List.replicate 4096 false = tab (fun _ => false) := by
  apply List.ext_getElem
  · rw [List.length_replicate, tab_length]
  · intro k h1 h2
    rw [List.getElem_replicate]
    simp only [tab, List.getElem_map]

theorem hasL_snoc (a b x : Int) : ∀ (l : List Int), l.length % 2 = 0 → hasL (l ++ [a, b]) x = (hasL l x || (decide (a ≤ x) && decide (x < b)))
  | [], _ => by simp [hasL]
  | [_], h => by simp at h
  | c :: d :: r, h => by
    have := hasL_snoc a b x r (by simp at h; omega)
    simp only [List.cons_append, hasL, this, Bool.or_assoc]

theorem take_two {α : Type} (zs : List α) (k : Nat) (a b : α) (ha : zs[k]? = some a) (hb : zs[k+1]? = some b) : zs.take (k+2) = zs.take k ++ [a, b] := by
  rw [take_one zs (k+1) b hb, take_one zs k a ha]; simp

theorem hasL_take (zs : List Int) (k : Nat) (a b x : Int) (ha : zs[k]? = some a) (hb : zs[k+1]? = some b) (hk : k % 2 = 0) :
    hasL (zs.take (k+2)) x = (hasL (zs.take k) x || (decide (a ≤ x) && decide (x < b))) := by
  rw [take_two zs k a b ha hb]
  refine hasL_snoc a b x _ ?_
  obtain ⟨h, _⟩ := List.getElem?_eq_some_iff.1 ha
  rw [List.length_take, Nat.min_eq_left (by omega)]; exact hk

/-- What antiquaryref11.Bits does. -/
def bitsGo : List Bool → Int → Bool → List Int
  | [], x, was => if was then [x] else []
  | c :: r, x, was => if c = was then bitsGo r (x + 1) was else x :: bitsGo r (x + 1) c
def bitsL (l : List Bool) : List Int := bitsGo l 0 false

theorem bitsGo_drop (l : List Bool) (k : Nat) (c : Bool) (x : Int) (was : Bool) (h : l[k]? = some c) : bitsGo (l.drop k) x was = if c = was then bitsGo (l.drop (k+1)) (x + 1) was else x :: bitsGo (l.drop (k+1)) (x + 1) c := by
  rw [drop_one l k c h, bitsGo]

/-- The slots of a set, one after the other. -/
def upto (a : Int) : Nat → List Int
  | 0 => []
  | n + 1 => a :: upto (a + 1) n
def slotsL : List Int → List Int
  | a :: b :: r => upto a (b - a).toNat ++ slotsL r
  | _ => []

theorem upto_snoc (a : Int) : ∀ n, upto a (n + 1) = upto a n ++ [a + n]
  | 0 => by simp [upto]
  | n + 1 => by
    have := upto_snoc (a + 1) n
    rw [upto, this, upto]
    simp; omega
theorem upto_length (a : Int) : ∀ n, (upto a n).length = n
  | 0 => rfl
  | n + 1 => by simp [upto, upto_length (a+1) n]

theorem slotsL_snoc (a b : Int) : ∀ (l : List Int), l.length % 2 = 0 → slotsL (l ++ [a, b]) = slotsL l ++ upto a (b - a).toNat
  | [], _ => by simp [slotsL]
  | [_], h => by simp at h
  | c :: d :: r, h => by
    have := slotsL_snoc a b r (by simp at h; omega)
    simp only [List.cons_append, slotsL, this, List.append_assoc]
theorem slotsL_take (zs : List Int) (k : Nat) (a b : Int) (ha : zs[k]? = some a) (hb : zs[k+1]? = some b) (hk : k % 2 = 0) :
    slotsL (zs.take (k+2)) = slotsL (zs.take k) ++ upto a (b - a).toNat := by
  rw [take_two zs k a b ha hb]
  refine slotsL_snoc a b _ ?_
  obtain ⟨h, _⟩ := List.getElem?_eq_some_iff.1 ha
  rw [List.length_take, Nat.min_eq_left (by omega)]; exact hk

end Go.Proofs.Ytomjfmebbpfkeaa
