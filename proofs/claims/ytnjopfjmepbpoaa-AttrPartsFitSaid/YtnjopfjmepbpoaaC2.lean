/- Merged: PwM, Region, PwN, PwO, PwP, BitOps, PlainW, Wire, Wire2, PlainX, Wire3, PlainY, Wire4, Elem, Wire5, PlainT, AttrM, AttrA, AttrB, AttrC, AttrD, AttrE, AttrF, AttrJ, AttrK, PlainA, PlainB. -/
import Derived.Orders
import Derived.WalkKit
import GoSem.Step
import Derived.Laws.RangeAny
import Derived.Lib.OthersKept
import Derived.Outline
import Derived.Lib.Hide
import Derived.Laws.EntriesVeiled
import Derived.Test.YtnjopfjmepbpoaaC1
/- Pure states: a region that draws its order. -/
namespace Go.Proofs.Ytnjopfjmepbpoaa
set_option linter.unusedSimpArgs false
set_option linter.unusedVariables false
set_option linter.unnecessarySimpa false
open Go.RowKit

def tmpsOf (xs : List Operand) : List Nat := xs.filterMap fun | .tmp t => some t | _ => none
def guardT (ops : Array Oper) (o : Oper) : List Nat := match o.guard with
  | some (j, _) => ((ops.toList[j]?).bind (·.dst)).toList
  | none => []
/-- The slots that an operation may take from. -/
def takesB (hd : Bool) (o : Oper) : List Nat := match o.op with
  | .assign (.tmp s) => [s]
  | .move (.tmp s) => if hd then [s] else []
  | .store _ _ (.tmp s) => [s]
  | .call c => match c.callee, c.args.toList with
    | .builtin .append, .tmp s :: _ => [s]
    | _, _ => []
  | _ => []
def isStore (hd : Bool) (o : Oper) : Bool := match o.op with | .store .. => true | .load .. => hd | _ => false
def storeB (o : Oper) : Bool := match o.op with | .store .. => true | _ => false
def usesBox (o : Oper) : Bool := match o.op with | .store .. => true | .load .. => true | _ => false

/-- The operation that made the variable to which a slot points. -/
def allocGo (a : Nat) : List Oper → Nat → Option Nat
  | [], _ => none
  | o :: r, k => match o.op, o.dst with
    | .alloc _, some d => if Nat.beq d a then some k else allocGo a r (k + 1)
    | .box _ _, some d => if Nat.beq d a then some k else allocGo a r (k + 1)
    | _, _ => allocGo a r (k + 1)
/-- The one variable that an operation may look at. -/
def resOf (ops : List Oper) (o : Oper) : Option Nat := match o.op with
  | .store _ (.tmp a) _ => allocGo a ops 0
  | .load _ (.tmp a) => allocGo a ops 0
  | _ => none
def seeB (ops : List Oper) (cl : List (List Nat)) (i : Nat) (o : Oper) (k : Nat) : Bool := (cl.getD i []).contains k && (match resOf ops o with | some k' => Nat.beq k k' | none => true)
def sepB (ops : List Oper) (cl : List (List Nat)) (iy ix : Nat) (y x : Oper) : Bool :=
  (match resOf ops y with | some k => !seeB ops cl ix x k | none => false) || (match resOf ops x with | some k => !seeB ops cl iy y k | none => false)

/-- Two operations that may come in either order. -/
def indB (ops : Array Oper) (cl : List (List Nat)) (iy ix : Nat) (y x : Oper) : Bool :=
  (match y.dst, x.dst with | some a, some b => a != b | _, _ => true) &&
  (match y.dst with | some a => !(tmpsOf x.op.operands.toList).contains a && !(guardT ops x).contains a | none => true) &&
  (match x.dst with | some b => !(tmpsOf y.op.operands.toList).contains b && !(guardT ops y).contains b | none => true) &&
  (takesB (headB ops y.dst) y).all (fun s => !(takesB (headB ops x.dst) x).contains s) &&
  ((!(storeB y && usesBox x) && !(storeB x && usesBox y) && !(isStore (headB ops y.dst) y && isStore (headB ops x.dst) x)) || sepB ops.toList cl iy ix y x)

/-- The operations that must come first, each list for one operation. -/
def cloOf (acc : List (List Nat)) (o : Oper) : List Nat := o.after.toList.flatMap fun e => if Region.binds .any e then e.on :: (acc.getD e.on []) else []
def closB : List Oper → List (List Nat) → List (List Nat)
  | [], acc => acc
  | o :: r, acc => closB r (acc ++ [cloOf acc o])
def clos (ops : List Oper) : List (List Nat) := closB ops []

/-- What a variable of this region an operation may look at: those that were made before it. -/
def okD (cl : List (List Nat)) (base len : Nat) (i id : Nat) : Bool := decide (id < base) || decide (base + len ≤ id) || (cl.getD i []).contains (id - base)

def okR (ops : List Oper) (base i id : Nat) : Bool := okD (clos ops) base ops.length i id && (match (ops[i]?).bind (resOf ops) with | some k => Nat.beq id (base + k) | none => true)

theorem allocGo_lt {a : Nat} : ∀ (l : List Oper) (k j : Nat), allocGo a l k = some j → k ≤ j ∧ j < k + l.length
  | [], k, j, h => by cases h
  | o :: r, k, j, h => by
    have step : allocGo a r (k + 1) = some j → k ≤ j ∧ j < k + (o :: r).length := fun h => by
      have := allocGo_lt r (k + 1) j h
      simp only [List.length_cons]; omega
    have here : some k = some j → k ≤ j ∧ j < k + (o :: r).length := fun h => by cases h; simp
    unfold allocGo at h
    split at h
    · split at h
      · exact here h
      · exact step h
    · split at h
      · exact here h
      · exact step h
    · exact step h
theorem resOf_lt {ops : List Oper} {o : Oper} {k : Nat} (h : resOf ops o = some k) : k < ops.length := by
  unfold resOf at h
  split at h
  · have := allocGo_lt _ _ _ h; omega
  · have := allocGo_lt _ _ _ h; omega
  · cases h
/-- Two operations that look at different variables. -/
theorem sep_ok {ops : List Oper} {base iy ix : Nat} {y x : Oper} (hy : ops[iy]? = some y) (hx : ops[ix]? = some x) (hs : sepB ops (clos ops) iy ix y x = true) (j : Nat) (h1 : okR ops base iy j = true) (h2 : okR ops base ix j = true) : False := by
  have key : ∀ (i : Nat) o k, ops[i]? = some o → okR ops base i (base + k) = true → k < ops.length → seeB ops (clos ops) i o k = true := by
    intro i o k ho h hk
    simp only [okR, ho, Option.bind_some, Bool.and_eq_true] at h
    obtain ⟨ha, hb⟩ := h
    simp only [seeB, Bool.and_eq_true]
    refine ⟨?_, ?_⟩
    · simp only [okD, Bool.or_eq_true, decide_eq_true_eq] at ha
      rcases ha with (ha | ha) | ha
      · omega
      · omega
      · rwa [Nat.add_sub_cancel_left] at ha
    · cases hr : resOf ops o with
      | none => rfl
      | some k' =>
        rw [hr] at hb
        simp only at hb ⊢
        have := Nat.eq_of_beq_eq_true hb
        rw [show k = k' by omega]; exact Nat.beq_refl k'
  have res : ∀ (i : Nat) o k, ops[i]? = some o → okR ops base i j = true → resOf ops o = some k → j = base + k := by
    intro i o k ho h hr
    simp only [okR, ho, Option.bind_some, hr, Bool.and_eq_true] at h
    exact Nat.eq_of_beq_eq_true h.2
  simp only [sepB, Bool.or_eq_true] at hs
  rcases hs with hs | hs
  · cases hr : resOf ops y with
    | none => rw [hr] at hs; cases hs
    | some k =>
      rw [hr] at hs
      have e := res iy y k hy h1 hr
      subst e
      have := key ix x k hx h2 (resOf_lt hr)
      simp [this] at hs
  · cases hr : resOf ops x with
    | none => rw [hr] at hs; cases hs
    | some k =>
      rw [hr] at hs
      have e := res ix x k hx h2 hr
      subst e
      have := key iy y k hy h1 (resOf_lt hr)
      simp [this] at hs

def drawB (ops : List Oper) : Bool :=
  let cl := clos ops
  (indexed 0 ops).all fun x => x.2.after.toList.all (fun e => !Region.binds .any e || decide (e.on < x.1)) &&
    (indexed 0 ops).all fun y => !decide (y.1 < x.1) || (cl.getD x.1 []).contains y.1 || indB ops.toArray cl y.1 x.1 y.2 x.2

section
variable {P : Program} {T : Tab} {σ : PS} {ops : Array Oper} {base : Nat}

/-- What an effect touches. -/
theorem presE_foot {hd : Bool} {id : Nat} {o : Oper} {E : Eff} (h : presE T hd id σ o.op = some E) : (∀ s, E.dis = some s → s ∈ takesB hd o) ∧ (∀ i cs, E.bx = some (i, cs) → i = id ∨ (isStore hd o = true ∧ ∃ bs, σ.b i = some bs)) := by
  obtain ⟨dst, op, ty, pos, after, guard⟩ := o
  simp only at h
  have plain : ∀ p, E = ⟨p, none, none⟩ → (∀ s, E.dis = some s → s ∈ takesB hd ⟨dst, op, ty, pos, after, guard⟩) ∧ (∀ i cs, E.bx = some (i, cs) → i = id ∨ (isStore hd ⟨dst, op, ty, pos, after, guard⟩ = true ∧ ∃ bs, σ.b i = some bs)) := by
    intro p e
    subst e
    exact ⟨fun s e => (by cases e), fun i cs e => (by cases e)⟩
  have hother : ∀ op', ((pval T σ op').map fun v => (⟨v, none, none⟩ : Eff)) = some E → ∃ p, E = ⟨p, none, none⟩ := by
    intro op' e
    obtain ⟨p, hp, rfl⟩ := Option.map_eq_some_iff.1 e
    exact ⟨p, rfl⟩
  have htake : ∀ x, takeE σ x = E → (∃ p, E = ⟨p, none, none⟩) ∨ ∃ s p, x = .tmp s ∧ E = ⟨p, none, some s⟩ := by
    intro x e
    cases x with
    | tmp s =>
      simp only [takeE] at e
      split at e
      · exact .inr ⟨s, _, rfl, e.symm⟩
      · exact .inl ⟨_, e.symm⟩
    | _ => exact .inl ⟨_, e.symm⟩
  unfold presE at h
  split at h
  · rename_i x
    simp only [Option.some.injEq] at h
    rcases htake x h with ⟨p, rfl⟩ | ⟨s, p, rfl, rfl⟩
    · exact plain p rfl
    · exact ⟨fun s' e => (by simp at e; subst e; simp [takesB]), fun i cs e => (by cases e)⟩
  · rename_i x
    split at h
    · rename_i hhd
      simp only [Option.some.injEq] at h
      rcases htake x h with ⟨p, rfl⟩ | ⟨s, p, rfl, rfl⟩
      · exact plain p rfl
      · exact ⟨fun s' e => (by simp at e; subst e; simp [takesB, hhd]), fun i cs e => (by cases e)⟩
    · simp only [Option.some.injEq] at h
      exact plain _ h.symm
  · split at h
    · simp only [Option.some.injEq] at h
      subst h
      exact ⟨fun s e => (by cases e), fun i cs e => (by simp at e; exact .inl e.1.symm)⟩
    · cases h
  · split at h
    · simp only [Option.some.injEq] at h
      subst h
      exact ⟨fun s e => (by cases e), fun i cs e => (by simp at e; exact .inl e.1.symm)⟩
    · cases h
  · rename_i t x y
    split at h
    · rename_i j off hx
      split at h
      · rename_i hown
        split at h
        · rename_i bs ti hb ht
          split at h
          · simp only [Option.some.injEq] at h
            subst h
            refine ⟨fun s e => ?_, fun i cs e => ?_⟩
            · cases y with
              | tmp s0 => simp [disOf] at e; subst e; simp [takesB]
              | _ => simp [disOf] at e
            · simp at e
              obtain ⟨rfl, -⟩ := e
              exact .inr ⟨rfl, bs, hb⟩
          · cases h
        · cases h
      · split at h
        · rename_i bs ti new hb ht hn
          split at h
          · simp only [Option.some.injEq] at h
            subst h
            refine ⟨fun s e => (by cases e), fun i cs e => ?_⟩
            simp at e
            obtain ⟨rfl, -⟩ := e
            exact .inr ⟨rfl, bs, hb⟩
          · cases h
        · cases h
    · cases h
  · rename_i t x
    split at h
    · rename_i E' hE
      simp only [Option.some.injEq] at h
      subst h
      unfold ploadO at hE
      split at hE
      · rename_i j off hx
        split at hE
        · rename_i hhd
          split at hE
          · rename_i bs hb
            split at hE
            · split at hE
              · split at hE
                · simp only [Option.some.injEq] at hE
                  subst hE
                  refine ⟨fun s e => (by cases e), fun i cs e => ?_⟩
                  simp at e
                  obtain ⟨rfl, -⟩ := e
                  exact .inr ⟨by simp [isStore, hhd], bs, hb⟩
                · cases hE
              · cases hE
            · cases hE
          · cases hE
        · cases hE
      · cases hE
    · obtain ⟨p, rfl⟩ := hother _ h
      exact plain p rfl
  · split at h
    · split at h
      · split at h
        · obtain ⟨cs, -, rfl⟩ := Option.map_eq_some_iff.1 h
          exact plain _ rfl
        · cases h
      · cases h
    · cases h
  · rename_i c
    obtain ⟨callee, args, argTypes⟩ := c
    simp only at h
    split at h
    · split at h
      · rename_i s x t t' ea et
        split at h
        · split at h
          · split at h
            · unfold pappend at h
              split at h
              · split at h
                · simp only [Option.some.injEq] at h
                  subst h
                  refine ⟨fun s' e => ?_, fun i cs e => (by cases e)⟩
                  cases s with
                  | tmp s0 => simp [disOf] at e; subst e; simp [takesB, ea]
                  | _ => simp [disOf] at e
                · cases h
              · cases h
            · cases h
          · cases h
        · cases h
      · cases h
    · obtain ⟨p, rfl⟩ := hother _ h
      exact plain p rfl
  · obtain ⟨p, rfl⟩ := hother _ h
    exact plain p rfl

theorem set_bare {bs : List PV} {off n k : Nat} {cs : List PV} {E : Option TypeId} (h : bs[off]? = some (.sl n k cs E)) : (bs.set off (.sl n k cs none)).map PV.bare = bs.map PV.bare := by
  apply List.ext_getElem?
  intro j
  rw [List.getElem?_map, List.getElem?_map, List.getElem?_set]
  by_cases hj : off = j
  · subst hj
    rw [if_pos rfl, h]
    have := (List.getElem?_eq_some_iff.1 h).1
    rw [if_pos this]
    rfl
  · rw [if_neg hj]
/-- A load that takes what is one's own takes a mark alone. -/
theorem presE_marks {hd : Bool} {id : Nat} {o : Oper} {E : Eff} (h : presE T hd id σ o.op = some E) (hs : isStore hd o = true) (hn : storeB o = false) : ∀ i cs, E.bx = some (i, cs) → ∃ bs, σ.b i = some bs ∧ cs.map PV.bare = bs.map PV.bare := by
  obtain ⟨dst, op, ty, pos, after, guard⟩ := o
  cases op <;> simp_all [isStore, storeB]
  rename_i t x
  simp only [presE] at h
  split at h
  · rename_i E' hE
    simp only [Option.some.injEq] at h
    subst h
    unfold ploadO at hE
    split at hE
    · rename_i j off hx
      split at hE
      · split at hE
        · rename_i bs hb
          split at hE
          · rename_i n k cs E1 hc
            split at hE
            · split at hE
              · simp only [Option.some.injEq] at hE
                subst hE
                intro i cs' e
                simp only [Option.some.injEq, Prod.mk.injEq] at e
                obtain ⟨rfl, rfl⟩ := e
                exact ⟨bs, hb, set_bare hc⟩
              · cases hE
            · cases hE
          · cases hE
        · cases hE
      · cases hE
    · cases hE
  · obtain ⟨p, hp, rfl⟩ := Option.map_eq_some_iff.1 h
    intro i cs' e
    cases e

/-- An operation does the same in a state that reads alike where it looks. -/
theorem presE_congr {σ' : PS} {hd : Bool} {id : Nat} {o : Oper} {E : Eff} (h : presE T hd id σ o.op = some E) (hev : ∀ t ∈ tmpsOf o.op.operands.toList, (σ'.t t).bare = (σ.t t).bare) (htk : ∀ s ∈ takesB hd o, σ'.t s = σ.t s)
    (hb : isStore hd o = true → ∀ i bs, σ.b i = some bs → σ'.b i = some bs) (hbl : usesBox o = true → ∀ i bs, σ.b i = some bs → ∃ bs', σ'.b i = some bs' ∧ bs'.map PV.bare = bs.map PV.bare) (hid : σ'.b id = none) : presE T hd id σ' o.op = some E := by
  obtain ⟨dst, op, ty, pos, after, guard⟩ := o
  simp only at h hev ⊢
  have ev : ∀ x ∈ op.operands.toList, pev σ' x = pev σ x := by
    intro x hx
    cases x with
    | tmp t => exact hev t (by simp only [tmpsOf, List.mem_filterMap]; exact ⟨.tmp t, hx, rfl⟩)
    | _ => rfl
  have hload : usesBox ⟨dst, op, ty, pos, after, guard⟩ = true → ∀ (x : TyI) (q p : PV), ploadAt x σ.b q = some p → ploadAt x σ'.b q = some p := by
    intro hu x q p e
    cases q with
    | ptr i off =>
      simp only [ploadAt] at e ⊢
      cases hbi : σ.b i with
      | none => rw [hbi] at e; cases e
      | some bs =>
        rw [hbi] at e
        obtain ⟨bs', h1, h2⟩ := hbl hu i bs hbi
        rw [h1]
        simp only [asVal] at e ⊢
        have hlen : bs'.length = bs.length := by have := congrArg List.length h2; simpa using this
        split
        · rename_i hag
          rw [if_pos hag] at e
          rw [hlen, List.map_take, List.map_drop, h2, ← List.map_drop, ← List.map_take]
          exact e
        · rename_i hag
          rw [if_neg hag] at e
          rw [← List.getElem?_map, h2, List.getElem?_map]
          exact e
    | _ => exact e
  have hother : (∀ p, pval T σ op = some p → pval T σ' op = some p) → ((pval T σ op).map fun v => (⟨v, none, none⟩ : Eff)) = some E → ((pval T σ' op).map fun v => (⟨v, none, none⟩ : Eff)) = some E := by
    intro hv e
    obtain ⟨p, hp, rfl⟩ := Option.map_eq_some_iff.1 e
    rw [hv p hp]; rfl
  cases op with
  | assign x =>
    simp only [presE] at h ⊢
    rw [← h]
    congr 1
    cases x with
    | tmp s => simp only [takeE, htk s (by simp [takesB])]
    | _ => rfl
  | move x =>
    simp only [presE] at h ⊢
    have e1 := ev x (by simp [Op.operands])
    rw [← h, e1]
    by_cases hhd : hd = true
    · cases x with
      | tmp s => simp only [takeE, htk s (by simp [takesB, hhd])]
      | _ => rfl
    · simp [hhd]
  | alloc e =>
    simp only [presE] at h ⊢
    rw [hid]
    split at h
    · rename_i ti ht hbn; rw [ht]; exact h
    · cases h
  | box e x =>
    simp only [presE, ev x (by simp [Op.operands])] at h ⊢
    rw [hid]
    split at h
    · rename_i cs hcs hbn; rw [hcs]; exact h
    · cases h
  | store t x y =>
    have how : ownPV σ' y = ownPV σ y := by
      cases y with
      | tmp s0 => exact htk s0 (by simp [takesB])
      | _ => rfl
    simp only [presE, ev x (by simp [Op.operands]), ev y (by simp [Op.operands]), how] at h ⊢
    split at h
    · rename_i j off hx
      split at h
      · rename_i ho
        simp only [ho, if_true]
        split at h
        · rename_i bs ti hbs ht
          rw [hb rfl j bs hbs, ht]
          exact h
        · cases h
      · rename_i ho
        simp only [ho, if_false, Bool.false_eq_true]
        split at h
        · rename_i bs ti new hbs ht hn
          rw [hb rfl j bs hbs, ht, hn]
          exact h
        · cases h
    · cases h
  | buildSlice t len parts =>
    simp only [presE] at h ⊢
    have e1 : (parts.toList.map fun x => (x.1, pev σ' x.2)) = parts.toList.map fun x => (x.1, pev σ x.2) := by
      apply List.map_congr_left
      intro x hx
      rw [ev x.2 (by simp [Op.operands]; exact ⟨x.1, by simpa using hx⟩)]
    rw [e1]; exact h
  | call c =>
    obtain ⟨callee, args, argTypes⟩ := c
    have evA : ∀ x ∈ args.toList, pev σ' x = pev σ x := fun x hx => ev x (by simp [Op.operands, Call.operands]; right; simpa using hx)
    simp only [presE] at h ⊢
    split at h
    · split at h
      · rename_i s x t t' ea et
        have e1 := evA x (by rw [ea]; simp)
        have e2 : ownPV σ' s = ownPV σ s := by
          cases s with
          | tmp s0 => exact htk s0 (by simp [takesB, ea])
          | _ => rfl
        simp only [ea, et, e1, e2]
        exact h
      · cases h
    · refine hother (fun p hp => ?_) h
      simp only [pval] at hp ⊢
      split at hp
      · split at hp
        · rename_i x t ea et
          simp only [ea, et, evA x (by rw [ea]; simp)]
          exact hp
        · cases hp
      · cases hp
  | load t x =>
    have e1 := ev x (by simp [Op.operands])
    have hvl : ∀ p, pval T σ (.load t x) = some p → pval T σ' (.load t x) = some p := by
      intro p hp
      simp only [pval, e1] at hp ⊢
      split at hp
      · exact hload rfl _ _ _ hp
      · cases hp
    simp only [presE, e1] at h ⊢
    have hO1 : ∀ (q : PV) E', ploadO T hd σ.b t q = some E' → ploadO T hd σ'.b t q = some E' := by
      intro q E' e
      unfold ploadO at e ⊢
      split at e
      · rename_i j off
        split at e
        · rename_i hhd
          simp only [hhd, if_true]
          split at e
          · rename_i bs hbs
            rw [hb (by simpa [isStore] using hhd) j bs hbs]
            exact e
          · cases e
        · cases e
      · cases e
    have hO2 : ploadO T hd σ.b t (pev σ x) = none → ∀ p, pval T σ (.load t x) = some p → ploadO T hd σ'.b t (pev σ x) = none := by
      intro e p hp
      unfold ploadO at e ⊢
      split
      · rename_i j off hq
        split
        · rename_i hhd
          rw [hq] at e
          simp only [hhd, if_true] at e
          simp only [pval, hq] at hp
          cases ht : T.at t with
          | none => rw [ht] at hp; cases hp
          | some ti =>
            rw [ht] at hp
            simp only [ploadAt] at hp
            cases hbj : σ.b j with
            | none => rw [hbj] at hp; cases hp
            | some bs =>
              rw [hbj, ht] at e
              rw [hb (by simpa [isStore] using hhd) j bs hbj]
              exact e
        · rfl
      · rfl
    split at h
    · rename_i E' hE
      rw [hO1 _ E' hE]
      exact h
    · rename_i hE
      obtain ⟨p, hp, rfl⟩ := Option.map_eq_some_iff.1 h
      rw [hO2 hE p hp, hvl p hp]
      rfl
  | pick c x y => exact hother (fun p hp => by simpa only [pval, ev c (by simp [Op.operands]), ev x (by simp [Op.operands]), ev y (by simp [Op.operands])] using hp) h
  | fieldAddr s x f => exact hother (fun p hp => by simpa only [pval, ev x (by simp [Op.operands])] using hp) h
  | field s x f => exact hother (fun p hp => by simpa only [pval, ev x (by simp [Op.operands])] using hp) h
  | indexAddr t x i => exact hother (fun p hp => by simpa only [pval, ev x (by simp [Op.operands]), ev i (by simp [Op.operands])] using hp) h
  | index t x i => exact hother (fun p hp => by simpa only [pval, ev x (by simp [Op.operands]), ev i (by simp [Op.operands])] using hp) h
  | binOp op t x y yt => exact hother (fun p hp => by simpa only [pval, ev x (by simp [Op.operands]), ev y (by simp [Op.operands])] using hp) h
  | unOp op t x => exact hother (fun p hp => by simpa only [pval, ev x (by simp [Op.operands])] using hp) h
  | convert s d x => exact hother (fun p hp => by simpa only [pval, ev x (by simp [Op.operands])] using hp) h
  | extract x i => exact hother (fun p hp => by simpa only [pval, ev x (by simp [Op.operands])] using hp) h
  | slice t x lo hi mx =>
    refine hother (fun p hp => ?_) h
    have e1 : lo.map (pev σ') = lo.map (pev σ) := by
      cases lo with
      | none => rfl
      | some y => simp only [Option.map_some]; rw [ev y (by simp [Op.operands])]
    have e2 : hi.map (pev σ') = hi.map (pev σ) := by
      cases hi with
      | none => rfl
      | some y => simp only [Option.map_some]; rw [ev y (by simp [Op.operands])]
    simpa only [pval, ev x (by simp [Op.operands]), e1, e2] using hp
  | makeFunc fn first caps =>
    refine hother (fun p hp => ?_) h
    have e1 : caps.toList.map (pev σ') = caps.toList.map (pev σ) := by
      apply List.map_congr_left
      intro x hx
      exact ev x (by simp [Op.operands]; right; simpa using hx)
    simpa only [pval, e1] using hp
  | build t parts =>
    refine hother (fun p hp => ?_) h
    have e1 : (parts.toList.map fun x => (x.1, pev σ' x.2)) = parts.toList.map fun x => (x.1, pev σ x.2) := by
      apply List.map_congr_left
      intro x hx
      rw [ev x.2 (by simp [Op.operands]; exact ⟨x.1, by simpa using hx⟩)]
    simpa only [pval, e1] using hp
  | _ => simp [presE, pval] at h
end
end Go.Proofs.Ytnjopfjmepbpoaa

/- A region that draws its order, by contracts: each operation once, in whatever world it is met; not each order. -/
namespace Go.Proofs.Ytnjopfjmepbpoaa
set_option linter.unusedSimpArgs false
set_option linter.unusedVariables false
set_option linter.unnecessarySimpa false
open Go.RowKit

/-- j must come up ahead of o. -/
def depO (o : Oper) (j : Nat) : Bool := o.after.any fun e => Region.binds .any e && e.on == j
/-- The operation i must come up behind the operation j. -/
def depB (ops : Array Oper) (i j : Nat) : Bool := ((ops[i]?).map fun o => depO o j).getD false
/-- What operation j has left in its slot. -/
def valOf (ops : Array Oper) (a : Act) (j : Nat) : Value := match (ops[j]?).bind (·.dst) with | some d => a.tmps.getD d undef | none => undef
/-- While operation i has not come up nothing has been written into slot t. -/
def oldB (ops : Array Oper) (i t : Nat) : Bool := (List.range ops.size).all fun j => ((ops[j]?).map fun o => !(o.dst == some t) || depO o i || j == i).getD true
/-- No operation writes slot t. -/
def idleB (ops : Array Oper) (t : Nat) : Bool := (List.range ops.size).all fun j => ((ops[j]?).map fun o => !(o.dst == some t)).getD true
/-- Edges lead back; each slot is written once, and is there. -/
def shapeB (ops : Array Oper) (n : Nat) : Bool :=
  (List.range ops.size).all fun i => ((ops[i]?).map fun o => (o.after.all fun e => !Region.binds .any e || e.on < i) && (match o.dst with | some d => decide (d < n) && (List.range i).all fun j => !(((ops[j]?).bind (·.dst)) == some d) | none => true)).getD true

structure RInv (ops : Array Oper) (a0 : Act) (w1 : World) (R : Nat → Value → World → Prop) (le : World → World → Prop) (listed : Array Bool) (a : Act) (w : World) : Prop where
  size : listed.size = ops.size
  defers : a.defers = a0.defers
  tmps : a.tmps.size = a0.tmps.size
  le : le w1 w
  closed : ∀ (i : Nat) (o : Oper), ops[i]? = some o → listed.getD i false = true → ∀ j, depO o j = true → listed.getD j false = true
  vals : ∀ (i : Nat) (o : Oper), ops[i]? = some o → listed.getD i false = true → R i (valOf ops a i) w
  old : ∀ t : Nat, (∀ (i : Nat) (o : Oper), ops[i]? = some o → listed.getD i false = true → o.dst ≠ some t) → a.tmps.getD t undef = a0.tmps.getD t undef

theorem getD_set (l : Array Bool) (i j : Nat) (h : i < l.size) : (l.setIfInBounds i true).getD j false = (decide (j = i) || l.getD j false) := by
  simp only [Array.getD_eq_getD_getElem?, Array.getElem?_setIfInBounds]
  by_cases e : i = j
  · subst e; simp [h]
  · have e' : ¬ j = i := fun x => e x.symm
    simp [e, e']

theorem put_getD (a : Act) (d t : Nat) (v : Value) (hd : d < a.tmps.size) : (a.put (some d) v).tmps.getD t undef = if t = d then v else a.tmps.getD t undef := by
  simp only [Act.put, Array.getD_eq_getD_getElem?, Array.getElem?_setIfInBounds]
  by_cases e : d = t
  · subst e; simp [hd]
  · have e' : ¬ t = d := fun x => e x.symm
    simp [e, e']

theorem shape_spec {ops : Array Oper} {n : Nat} (h : shapeB ops n = true) : ∀ (i : Nat) (o : Oper), ops[i]? = some o → (∀ j, depO o j = true → j < i) ∧ (∀ d, o.dst = some d → d < n ∧ ∀ (j : Nat) (oj : Oper), j < i → ops[j]? = some oj → oj.dst ≠ some d) := by
  intro i o ho
  have hi : i < ops.size := (Array.getElem?_eq_some_iff.1 ho).1
  have := List.all_eq_true.1 h i (List.mem_range.2 hi)
  rw [ho] at this
  simp only [Option.map_some, Option.getD_some, Bool.and_eq_true] at this
  obtain ⟨h1, h2⟩ := this
  refine ⟨fun j hj => ?_, fun d hd => ?_⟩
  · unfold depO at hj
    rw [Array.any_eq_true] at hj
    obtain ⟨k, hk, hk2⟩ := hj
    rw [Array.all_eq_true] at h1
    have := h1 k hk
    simp only [Bool.and_eq_true, beq_iff_eq] at hk2
    rw [hk2.1] at this
    simp at this
    omega
  · rw [hd] at h2
    simp only [Bool.and_eq_true, decide_eq_true_eq] at h2
    refine ⟨h2.1, fun j oj hj hoj hc => ?_⟩
    have := List.all_eq_true.1 h2.2 j (List.mem_range.2 hj)
    rw [hoj] at this
    simp [hc] at this

theorem dst_apart {ops : Array Oper} {n : Nat} (h : shapeB ops n = true) {i j : Nat} {o oj : Oper} (hi : ops[i]? = some o) (hj : ops[j]? = some oj) (hne : i ≠ j) {d : Nat} (hd : o.dst = some d) : oj.dst ≠ some d := by
  intro hc
  rcases Nat.lt_or_gt_of_ne hne with h1 | h1
  · exact ((shape_spec h j oj hj).2 d hc).2 i o h1 hi hd
  · exact ((shape_spec h i o hi).2 d hd).2 j oj h1 hj hc

theorem mem_ready {ops : Array Oper} {listed : Array Bool} {i : Nat} (hs : listed.size = ops.size) : i ∈ Region.ready .any ops listed ↔ ∃ o, ops[i]? = some o ∧ listed.getD i false = false ∧ ∀ j, depO o j = true → listed.getD j false = true := by
  unfold Region.ready
  rw [List.mem_filter, List.mem_range]
  constructor
  · rintro ⟨h1, h2⟩
    obtain ⟨o, ho⟩ : ∃ o, ops[i]? = some o := ⟨ops[i], by simp [h1]⟩
    rw [ho] at h2
    simp only [Option.map_some, Option.getD_some, Bool.and_eq_true] at h2
    refine ⟨o, ho, ?_, fun j hj => ?_⟩
    · have : i < listed.size := by omega
      have h3 := h2.1
      simp only [Array.getD_eq_getD_getElem?, Array.getElem?_eq_getElem this, Option.getD_some] at h3 ⊢
      simpa using h3
    · unfold depO at hj
      rw [Array.any_eq_true] at hj
      obtain ⟨k, hk, hk2⟩ := hj
      simp only [Bool.and_eq_true, beq_iff_eq] at hk2
      have := (Array.all_eq_true.1 h2.2) k hk
      rw [hk2.1, hk2.2] at this
      simpa using this
  · rintro ⟨o, ho, h1, h2⟩
    have hi : i < ops.size := (Array.getElem?_eq_some_iff.1 ho).1
    refine ⟨hi, ?_⟩
    rw [ho]
    simp only [Option.map_some, Option.getD_some, Bool.and_eq_true]
    refine ⟨?_, ?_⟩
    · have : i < listed.size := by omega
      simp only [Array.getD_eq_getD_getElem?, Array.getElem?_eq_getElem this, Option.getD_some] at h1 ⊢
      simp [h1]
    · rw [Array.all_eq_true]
      intro k hk
      cases hb : Region.binds .any o.after[k]
      · simp
      · have : depO o o.after[k].on = true := by
          unfold depO
          rw [Array.any_eq_true]
          exact ⟨k, hk, by simp [hb]⟩
        simpa using h2 _ this

/-- Where nothing may come up all has come up. -/
theorem all_listed {ops : Array Oper} {n : Nat} (h : shapeB ops n = true) {listed : Array Bool} (hs : listed.size = ops.size) (hr : Region.ready .any ops listed = []) : ∀ i, i < ops.size → listed.getD i false = true := by
  intro i
  induction i using Nat.strongRecOn with
  | ind i ih =>
    intro hi
    obtain ⟨o, ho⟩ : ∃ o, ops[i]? = some o := ⟨ops[i], by simp [hi]⟩
    cases hl : listed.getD i false
    · have : i ∈ Region.ready .any ops listed := (mem_ready hs).2 ⟨o, ho, hl, fun j hj => ih j ((shape_spec h i o ho).1 j hj) (by have := (shape_spec h i o ho).1 j hj; omega)⟩
      rw [hr] at this
      simp at this
    · rfl

section
variable {P : Program} {ops : Array Oper} {Q : Exit → Act → World → Prop} {a0 : Act} {w1 : World} {R : Nat → Value → World → Prop} {le : World → World → Prop}

/-- What operation i may rely on. -/
structure RCtx (ops : Array Oper) (a0 : Act) (w1 : World) (R : Nat → Value → World → Prop) (le : World → World → Prop) (i : Nat) (a : Act) (w : World) : Prop where
  defers : a.defers = a0.defers
  tmps : a.tmps.size = a0.tmps.size
  le : le w1 w
  dep : ∀ j, depB ops i j = true → R j (valOf ops a j) w
  old : ∀ t, oldB ops i t = true → a.tmps.getD t undef = a0.tmps.getD t undef

/-- What operation i is to leave. -/
def RPost (R : Nat → Value → World → Prop) (le : World → World → Prop) (i : Nat) (o : Oper) (a : Act) (w : World) (a' : Act) (w' : World) : Prop :=
  ∃ v, a' = a.put o.dst v ∧ R i (match o.dst with | some _ => v | none => undef) w' ∧ le w w'

theorem rinv_step (hsh : shapeB ops a0.tmps.size = true) (htr : ∀ x y z, le x y → le y z → le x z) (hst : ∀ i v w w', le w1 w → R i v w → le w w' → R i v w')
    {listed : Array Bool} {a : Act} {w : World} (h : RInv ops a0 w1 R le listed a w) {i : Nat} {o : Oper} (ho : ops[i]? = some o) (hni : listed.getD i false = false) (hdep : ∀ j, depO o j = true → listed.getD j false = true) {a' : Act} {w' : World} (hp : RPost R le i o a w a' w') :
    RInv ops a0 w1 R le (listed.setIfInBounds i true) a' w' := by
  have hi : i < listed.size := by rw [h.size]; exact (Array.getElem?_eq_some_iff.1 ho).1
  obtain ⟨v, rfl, hv, hle⟩ := hp
  have hdst := (shape_spec hsh i o ho).2
  refine ⟨by simpa using h.size, ?_, ?_, htr _ _ _ h.le hle, ?_, ?_, ?_⟩
  · cases hd : o.dst <;> simp [Act.put, h.defers]
  · cases hd : o.dst <;> simp [Act.put, h.tmps]
  · intro k ok hok hk j hj
    rw [getD_set _ _ _ hi] at hk ⊢
    simp only [Bool.or_eq_true, decide_eq_true_eq] at hk ⊢
    rcases hk with rfl | hk
    · rw [ho] at hok; cases hok; exact .inr (hdep j hj)
    · exact .inr (h.closed k ok hok hk j hj)
  · intro k ok hok hk
    rw [getD_set _ _ _ hi] at hk
    simp only [Bool.or_eq_true, decide_eq_true_eq] at hk
    by_cases e : k = i
    · subst e
      rw [ho] at hok; cases hok
      cases hd : o.dst with
      | none =>
        rw [hd] at hv
        have : valOf ops (a.put none v) k = undef := by simp [valOf, ho, hd]
        rw [this]; exact hv
      | some d =>
        rw [hd] at hv
        have : valOf ops (a.put (some d) v) k = v := by
          simp only [valOf, ho, Option.bind_some, hd]
          rw [put_getD _ _ _ _ (by rw [h.tmps]; exact (hdst d hd).1)]
          simp
        rw [this]; exact hv
    · have hk' := hk.resolve_left e
      have : valOf ops (a.put o.dst v) k = valOf ops a k := by
        cases hd : o.dst with
        | none => rfl
        | some d =>
          simp only [valOf, hok, Option.bind_some]
          cases hdk : ok.dst with
          | none => rfl
          | some dk =>
            simp only
            rw [put_getD _ _ _ _ (by rw [h.tmps]; exact (hdst d hd).1), if_neg]
            rintro rfl
            exact dst_apart hsh ho hok (fun x => e x.symm) hd hdk
      rw [this]
      exact hst _ _ _ _ h.le (h.vals k ok hok hk') hle
  · intro t ht
    have h1 : o.dst ≠ some t := ht i o ho (by rw [getD_set _ _ _ hi]; simp)
    have h2 := h.old t (fun k ok hok hk => ht k ok hok (by rw [getD_set _ _ _ hi]; simp [hk]))
    rw [← h2]
    cases hd : o.dst with
    | none => rfl
    | some d =>
      rw [put_getD _ _ _ _ (by rw [h.tmps]; exact (hdst d hd).1), if_neg]
      rintro rfl
      exact h1 hd

theorem rinv_ctx {listed : Array Bool} {a : Act} {w : World} (h : RInv ops a0 w1 R le listed a w) {i : Nat} {o : Oper} (ho : ops[i]? = some o) (hni : listed.getD i false = false) (hdep : ∀ j, depO o j = true → listed.getD j false = true) (hall : ∀ j, depO o j = true → j < ops.size) :
    RCtx ops a0 w1 R le i a w := by
  refine ⟨h.defers, h.tmps, h.le, fun j hj => ?_, fun t ht => h.old t fun k ok hok hk hc => ?_⟩
  · simp only [depB, ho, Option.map_some, Option.getD_some] at hj
    have hlt := hall j hj
    exact h.vals j ops[j] (by simp [hlt]) (hdep j hj)
  · have hk2 : k < ops.size := (Array.getElem?_eq_some_iff.1 hok).1
    have := List.all_eq_true.1 ht k (List.mem_range.2 hk2)
    rw [hok] at this
    simp only [Option.map_some, Option.getD_some, hc, beq_self_eq_true, Bool.not_true, Bool.false_or, Bool.or_eq_true, beq_iff_eq] at this
    rcases this with e | e
    · rw [h.closed k ok hok hk i e] at hni; cases hni
    · subst e; rw [hk] at hni; cases hni

def unlisted (l : Array Bool) : Nat := (List.range l.size).countP fun i => !l.getD i false
theorem unlisted_set (l : Array Bool) (i : Nat) (hi : i < l.size) (h : l.getD i false = false) : unlisted (l.setIfInBounds i true) < unlisted l := by
  unfold unlisted
  rw [Array.size_setIfInBounds]
  have key : ∀ (r : List Nat), (r.countP fun j => !(l.setIfInBounds i true).getD j false) ≤ (r.countP fun j => !l.getD j false) ∧ (i ∈ r → (r.countP fun j => !(l.setIfInBounds i true).getD j false) < (r.countP fun j => !l.getD j false)) := by
    intro r
    induction r with
    | nil => simp
    | cons x xs ih =>
      rw [List.countP_cons, List.countP_cons, getD_set _ _ _ hi]
      by_cases e : x = i
      · subst e
        simp only [h, decide_true, Bool.true_or, Bool.not_true, Bool.not_false, if_true, Bool.false_eq_true, if_false]
        exact ⟨by omega, fun _ => by omega⟩
      · simp only [e, decide_false, Bool.false_or]
        refine ⟨by omega, fun hm => ?_⟩
        have := ih.2 (by simpa [Ne.symm e] using hm)
        omega
  exact (key _).2 (List.mem_range.2 hi)
theorem unlisted_zero {l : Array Bool} (h : unlisted l = 0) : ∀ i, i < l.size → l.getD i false = true := by
  intro i hi
  unfold unlisted at h
  rw [List.countP_eq_zero] at h
  simpa using h i (List.mem_range.2 hi)

theorem rinv_any (hsh : shapeB ops a0.tmps.size = true) (htr : ∀ x y z, le x y → le y z → le x z) (hst : ∀ i v w w', le w1 w → R i v w → le w w' → R i v w')
    (hstep : ∀ (i : Nat) (o : Oper), ops[i]? = some o → ∀ a w, RCtx ops a0 w1 R le i a w → wpOp P ops Q i (RPost R le i o a w) a w)
    (hend : ∀ (a : Act) (w : World), a.defers = a0.defers → a.tmps.size = a0.tmps.size → le w1 w → (∀ j, j < ops.size → R j (valOf ops a j) w) → (∀ t, idleB ops t = true → a.tmps.getD t undef = a0.tmps.getD t undef) → Q .normal a w) :
    ∀ (fuel : Nat) (listed : Array Bool) (a : Act) (w : World), unlisted listed ≤ fuel → RInv ops a0 w1 R le listed a w → wpAny P .any ops Q fuel listed a w := by
  have fin : ∀ (listed : Array Bool) (a : Act) (w : World), RInv ops a0 w1 R le listed a w → (∀ i, i < ops.size → listed.getD i false = true) → Q .normal a w := by
    intro listed a w h hall
    refine hend a w h.defers h.tmps h.le (fun j hj => h.vals j ops[j] (by simp [hj]) (hall j hj)) (fun t ht => h.old t fun k ok hok hk hc => ?_)
    have hk2 : k < ops.size := (Array.getElem?_eq_some_iff.1 hok).1
    have := List.all_eq_true.1 ht k (List.mem_range.2 hk2)
    rw [hok] at this
    simp [hc] at this
  intro fuel
  induction fuel with
  | zero =>
    intro listed a w hu h
    have hall := unlisted_zero (Nat.le_zero.1 hu)
    rw [h.size] at hall
    refine ⟨?_, fin listed a w h hall⟩
    apply List.eq_nil_iff_forall_not_mem.2
    intro i hi
    obtain ⟨o, ho, h1, _⟩ := (mem_ready h.size).1 hi
    rw [hall i (Array.getElem?_eq_some_iff.1 ho).1] at h1
    cases h1
  | succ fuel ih =>
    intro listed a w hu h
    refine ⟨fun hr => fin listed a w h (all_listed hsh h.size hr), fun i hi => ?_⟩
    obtain ⟨o, ho, h1, h2⟩ := (mem_ready h.size).1 hi
    have hlt : i < listed.size := by rw [h.size]; exact (Array.getElem?_eq_some_iff.1 ho).1
    have hall : ∀ j, depO o j = true → j < ops.size := fun j hj => by have := (shape_spec hsh i o ho).1 j hj; rw [h.size] at hlt; omega
    refine wpOp_mono (fun a' w' hp => ih _ a' w' ?_ (rinv_step hsh htr hst h ho h1 h2 hp)) (hstep i o ho a w (rinv_ctx h ho h1 h2 hall))
    have := unlisted_set listed i hlt h1
    omega

/-- The region: each operation once. -/
theorem wp_region_rel {id : Nat} {w0 : World} (R : Nat → Value → World → Prop) (le : World → World → Prop) (hm : P.follows .mixedOrders = true) (hsh : shapeB ops a0.tmps.size = true)
    (hrf : le w0.drew w0.drew) (htr : ∀ x y z, le x y → le y z → le x z) (hst : ∀ i v w w', le w0.drew w → R i v w → le w w' → R i v w')
    (hstep : ∀ (i : Nat) (o : Oper), ops[i]? = some o → ∀ a w, RCtx ops a0 w0.drew R le i a w → wpOp P ops Q i (RPost R le i o a w) a w)
    (hend : ∀ (a : Act) (w : World), a.defers = a0.defers → a.tmps.size = a0.tmps.size → le w0.drew w → (∀ j, j < ops.size → R j (valOf ops a j) w) → (∀ t, idleB ops t = true → a.tmps.getD t undef = a0.tmps.getD t undef) → Q .normal a w) :
    (Code.region id ops true).wp P Q a0 w0 := by
  refine wp_region_any hm (rinv_any hsh htr hst hstep hend _ _ _ _ ?_ ⟨by simp, rfl, rfl, hrf, ?_, ?_, ?_⟩)
  · unfold unlisted
    exact Nat.le_trans List.countP_le_length (by simp)
  · intro i o ho hl
    simp [Array.getD_eq_getD_getElem?, Array.getElem?_replicate] at hl
    split at hl <;> simp_all
  · intro i o ho hl
    simp [Array.getD_eq_getD_getElem?, Array.getElem?_replicate] at hl
    split at hl <;> simp_all
  · intro t _; rfl

end
end Go.Proofs.Ytnjopfjmepbpoaa

/- Pure states: a region that draws its order does what it does in the order of the text. -/
namespace Go.Proofs.Ytnjopfjmepbpoaa
set_option linter.unusedSimpArgs false
set_option linter.unusedVariables false
set_option linter.unnecessarySimpa false
open Go.RowKit

section
variable {P : Program} {T : Tab} {σ : PS} {ops : Array Oper} {base : Nat} {ok : Nat → Nat → Bool}

def stripO (s : Option Nat) (t : Nat → PV) : Nat → PV := match s with | some s => upd t s (t s).bare | none => t
def putO (d : Option Nat) (v : PV) (t : Nat → PV) : Nat → PV := match d with | some d => upd t d v | none => t
def setO (b : Option (Nat × List PV)) (m : Nat → Option (List PV)) : Nat → Option (List PV) := match b with | some x => upd m x.1 (some x.2) | none => m
theorem app_eq (σ : PS) (d : Option Nat) (E : Eff) : σ.app d E = ⟨putO d E.v (stripO E.dis σ.t), setO E.bx σ.b⟩ := by
  obtain ⟨v, b, s⟩ := E
  cases d <;> cases b <;> cases s <;> rfl
theorem strip_strip (s u : Option Nat) (h : ∀ a b, s = some a → u = some b → a ≠ b) (t : Nat → PV) : stripO s (stripO u t) = stripO u (stripO s t) := by
  cases s with
  | none => rfl
  | some a => cases u with
    | none => rfl
    | some b =>
      have := h a b rfl rfl
      simp only [stripO]
      rw [upd_ne t _ this, upd_ne t _ this.symm]
      exact upd_comm _ _ _ this.symm
theorem strip_put (s d : Option Nat) (v : PV) (h : ∀ a b, s = some a → d = some b → a ≠ b) (t : Nat → PV) : stripO s (putO d v t) = putO d v (stripO s t) := by
  cases s with
  | none => rfl
  | some a => cases d with
    | none => rfl
    | some b =>
      have := h a b rfl rfl
      simp only [stripO, putO]
      rw [upd_ne t _ this]
      exact upd_comm _ _ _ this.symm
theorem put_put (d e : Option Nat) (v u : PV) (h : ∀ a b, d = some a → e = some b → a ≠ b) (t : Nat → PV) : putO d v (putO e u t) = putO e u (putO d v t) := by
  cases d with
  | none => rfl
  | some a => cases e with
    | none => rfl
    | some b => exact upd_comm _ _ _ (h a b rfl rfl).symm

theorem app_comm (σ : PS) (d1 d2 : Option Nat) (E1 E2 : Eff) (hd : ∀ a b, d1 = some a → d2 = some b → a ≠ b) (h12 : ∀ a s, d1 = some a → E2.dis = some s → s ≠ a) (h21 : ∀ a s, d2 = some a → E1.dis = some s → s ≠ a)
    (hs : ∀ s t, E1.dis = some s → E2.dis = some t → s ≠ t) (hb : ∀ i c j e, E1.bx = some (i, c) → E2.bx = some (j, e) → i ≠ j) : (σ.app d1 E1).app d2 E2 = (σ.app d2 E2).app d1 E1 := by
  simp only [app_eq]
  have e1 : putO d2 E2.v (stripO E2.dis (putO d1 E1.v (stripO E1.dis σ.t))) = putO d1 E1.v (stripO E1.dis (putO d2 E2.v (stripO E2.dis σ.t))) := by
    rw [strip_put E2.dis d1 _ (fun a b ea eb => h12 b a eb ea), strip_strip E2.dis E1.dis (fun a b ea eb => (hs b a eb ea).symm), put_put d2 d1 _ _ (fun a b ea eb => (hd b a eb ea).symm), strip_put E1.dis d2 _ (fun a b ea eb => h21 b a eb ea)]
  have e2 : setO E2.bx (setO E1.bx σ.b) = setO E1.bx (setO E2.bx σ.b) := by
    cases hb1 : E1.bx with
    | none => rfl
    | some x1 => cases hb2 : E2.bx with
      | none => rfl
      | some x2 => exact upd_comm _ _ _ (hb x1.1 x1.2 x2.1 x2.2 hb1 hb2)
  rw [e1, e2]

/-- A slot that an effect does not write to. -/
theorem app_t {d : Option Nat} {E : Eff} {t : Nat} (h : ∀ a, d = some a → t ≠ a) : ((σ.app d E).t t).bare = (σ.t t).bare ∧ (E.dis ≠ some t → (σ.app d E).t t = σ.t t) := by
  obtain ⟨v, b, s⟩ := E
  cases d with
  | none => cases s with
    | none => exact ⟨rfl, fun _ => rfl⟩
    | some s =>
      simp only [PS.app, upd_if]
      by_cases e : t = s
      · subst e; simp [PV.bare_bare]
      · simp [e]
  | some a =>
    have := h a rfl
    cases s with
    | none => simp [PS.app, upd_if, this]
    | some s =>
      simp only [PS.app, upd_if, if_neg this]
      by_cases e : t = s
      · subst e; simp [PV.bare_bare]
      · simp [e]

/-- What an operation may do, it may do in a state that reads alike where it looks. -/
theorem may_congr {i : Nat} {o : Oper} {σ' : PS} {E : Eff} (h : May P T ops base ok i o σ E) (hev : ∀ t ∈ tmpsOf o.op.operands.toList, (σ'.t t).bare = (σ.t t).bare) (hgt : ∀ t ∈ guardT ops o, (σ'.t t).bare = (σ.t t).bare) (htk : ∀ s ∈ takesB (headB ops o.dst) o, σ'.t s = σ.t s)
    (hb : isStore (headB ops o.dst) o = true → ∀ j bs, (σ.only (ok i)).b j = some bs → (σ'.only (ok i)).b j = some bs) (hbl : usesBox o = true → ∀ j bs, (σ.only (ok i)).b j = some bs → ∃ bs', (σ'.only (ok i)).b j = some bs' ∧ bs'.map PV.bare = bs.map PV.bare) (hid : σ.b (base + i) = none → σ'.b (base + i) = none) : May P T ops base ok i o σ' E := by
  have hg : pguard ops σ' o = pguard ops σ o := by
    unfold pguard
    cases hgd : o.guard with
    | none => rfl
    | some x =>
      obtain ⟨j, want⟩ := x
      simp only
      cases hd : (ops.toList[j]?).bind (·.dst) with
      | none => rfl
      | some d => simp only; rw [hgt d (by simp only [guardT, hgd, hd]; simp)]
  rcases h with ⟨h1, h2⟩ | ⟨h1, h2⟩
  · exact .inl ⟨by rw [hg]; exact h1, h2⟩
  · refine .inr ⟨by rw [hg]; exact h1, ?_⟩
    rcases h2 with ⟨h2, h3⟩ | ⟨f, args, r, d, h2, h3, h4, h5⟩
    · left
      refine ⟨presE_congr (σ := σ.only (ok i)) h2 hev htk hb hbl ?_, hid h3⟩
      simp only [PS.only]; split
      · exact hid h3
      · rfl
    · right
      refine ⟨f, args, r, d, h2, ?_, h4, h5⟩
      rw [← h3]
      unfold pcall
      cases hop : o.op with
      | call c =>
        obtain ⟨callee, cargs, ct⟩ := c
        cases callee with
        | value x =>
          rw [hop] at hev
          have ev : ∀ y, y = x ∨ y ∈ cargs.toList → pev σ' y = pev σ y := by
            intro y hy
            cases y with
            | tmp t =>
              refine hev t ?_
              simp only [tmpsOf, List.mem_filterMap]
              refine ⟨.tmp t, ?_, rfl⟩
              simp only [Op.operands, Call.operands, Array.toList_append, List.mem_append]
              rcases hy with hy | hy
              · left; simp [hy]
              · right; exact hy
            | _ => rfl
          simp only
          rw [ev x (.inl rfl)]
          have e1 : cargs.toList.map (pev σ') = cargs.toList.map (pev σ) := List.map_congr_left (fun y hy => ev y (.inr hy))
          rw [e1]
        | _ => rfl
      | _ => rfl

theorem may_foot {i : Nat} {o : Oper} {E : Eff} (h : May P T ops base ok i o σ E) : (∀ s, E.dis = some s → s ∈ takesB (headB ops o.dst) o) ∧ (∀ j cs, E.bx = some (j, cs) → (j = base + i ∧ σ.b (base + i) = none) ∨ (isStore (headB ops o.dst) o = true ∧ ok i j = true)) := by
  rcases h with ⟨-, rfl⟩ | ⟨-, ⟨h1, h2⟩ | ⟨f, args, r, d, -, -, -, rfl⟩⟩
  · exact ⟨fun s e => (by cases e), fun j cs e => (by cases e)⟩
  · obtain ⟨k1, k2⟩ := presE_foot h1
    refine ⟨k1, fun j cs e => ?_⟩
    rcases k2 j cs e with k | ⟨k3, bs, k4⟩
    · exact .inl ⟨k, h2⟩
    · right
      refine ⟨k3, ?_⟩
      simp only [PS.only] at k4
      split at k4
      · assumption
      · cases k4
  · exact ⟨fun s e => (by cases e), fun j cs e => (by cases e)⟩

theorem may_marks {i : Nat} {o : Oper} {E : Eff} (h : May P T ops base ok i o σ E) (hs : isStore (headB ops o.dst) o = true) (hn : storeB o = false) : ∀ j cs, E.bx = some (j, cs) → ∃ bs, σ.b j = some bs ∧ cs.map PV.bare = bs.map PV.bare := by
  rcases h with ⟨-, rfl⟩ | ⟨-, ⟨h1, h2⟩ | ⟨f, args, r, d, -, -, -, rfl⟩⟩
  · exact fun j cs e => (by cases e)
  · intro j cs e
    obtain ⟨bs, k1, k2⟩ := presE_marks h1 hs hn j cs e
    refine ⟨bs, ?_, k2⟩
    simp only [PS.only] at k1
    split at k1
    · exact k1
    · cases k1
  · exact fun j cs e => (by cases e)

theorem takes_sub {hd : Bool} {o : Oper} {s : Nat} (h : s ∈ takesB hd o) : s ∈ tmpsOf o.op.operands.toList := by
  obtain ⟨dst, op, ty, pos, after, guard⟩ := o
  simp only [takesB] at h
  simp only [tmpsOf, List.mem_filterMap]
  refine ⟨.tmp s, ?_, rfl⟩
  split at h
  · simp at h; subst h; simp [Op.operands]
  · simp at h; obtain ⟨-, rfl⟩ := h; simp [Op.operands]
  · simp at h; subst h; simp [Op.operands]
  · split at h
    · rename_i hc s' r ha
      simp at h
      subst h
      simp only [Op.operands, Call.operands, Array.toList_append, List.mem_append]
      right
      rw [ha]; simp
    · cases h
  · cases h

theorem app_b {d : Option Nat} {E : Eff} (j : Nat) (h : ∀ i cs, E.bx = some (i, cs) → i ≠ j) : (σ.app d E).b j = σ.b j := by
  obtain ⟨v, b, s⟩ := E
  cases b with
  | none => rfl
  | some x => obtain ⟨i, cs⟩ := x; simp only [PS.app]; exact upd_ne _ _ (fun e => h i cs rfl e.symm)

theorem ind_parts {cl : List (List Nat)} {iy ix : Nat} {y x : Oper} (h : indB ops cl iy ix y x = true) : (∀ a b, y.dst = some a → x.dst = some b → a ≠ b) ∧ (∀ a, y.dst = some a → a ∉ tmpsOf x.op.operands.toList ∧ a ∉ guardT ops x) ∧ (∀ b, x.dst = some b → b ∉ tmpsOf y.op.operands.toList ∧ b ∉ guardT ops y) ∧
    (∀ s ∈ takesB (headB ops y.dst) y, s ∉ takesB (headB ops x.dst) x) ∧ (storeB y = true → usesBox x = true → sepB ops.toList cl iy ix y x = true) ∧ (storeB x = true → usesBox y = true → sepB ops.toList cl iy ix y x = true) ∧ (isStore (headB ops y.dst) y = true → isStore (headB ops x.dst) x = true → sepB ops.toList cl iy ix y x = true) := by
  simp only [indB, Bool.and_eq_true, Bool.not_eq_true', Bool.or_eq_true (_ && _) (sepB _ _ _ _ _ _)] at h
  obtain ⟨⟨⟨⟨h1, h2⟩, h3⟩, h4⟩, h5⟩ := h
  refine ⟨?_, ?_, ?_, ?_, ?_, ?_, ?_⟩
  · intro a b ea eb
    rw [ea, eb] at h1
    simpa using h1
  · intro a ea
    rw [ea] at h2
    simpa using h2
  · intro a ea
    rw [ea] at h3
    simpa using h3
  · intro s hs
    have := List.all_eq_true.1 h4 s hs
    simpa using this
  · intro e1 e2
    rcases h5 with h5 | h5
    · simp only [e1, e2, Bool.and_eq_true, Bool.not_eq_true', Bool.and_true, Bool.true_and] at h5
      simp at h5
    · exact h5
  · intro e1 e2
    rcases h5 with h5 | h5
    · simp only [e1, e2, Bool.and_eq_true, Bool.not_eq_true', Bool.and_true, Bool.true_and] at h5
      simp at h5
    · exact h5
  · intro e1 e2
    rcases h5 with h5 | h5
    · simp only [e1, e2, Bool.and_eq_true, Bool.not_eq_true', Bool.and_true, Bool.true_and] at h5
      simp at h5
    · exact h5

/-- Two operations in the other order. -/
theorem PWop.swap {cl : List (List Nat)} {iy ix : Nat} {y x : Oper} (hi : indB ops cl iy ix y x = true) (hsep : sepB ops.toList cl iy ix y x = true → ∀ j, ok iy j = true → ok ix j = true → False) (hne : iy ≠ ix) (hox : ok ix (base + iy) = false) (hoy : ok iy (base + ix) = false) {K : PS → Prop} (h : PWop P T ops base ok iy y (PWop P T ops base ok ix x K) σ) : PWop P T ops base ok ix x (PWop P T ops base ok iy y K) σ := by
  obtain ⟨Ey, hy, Ex, hx, hk⟩ := h
  obtain ⟨i1, i2, i3, i4, i5, i6, i7⟩ := ind_parts hi
  obtain ⟨fy1, fy2⟩ := may_foot hy
  obtain ⟨fx1, fx2⟩ := may_foot hx
  have hx' : May P T ops base ok ix x σ Ex := by
    refine may_congr hx (fun t ht => ?_) (fun t ht => ?_) (fun s hs => ?_) (fun hu j bs hj => ?_) (fun hu j bs hj => ?_) (fun h0 => ?_)
    · exact ((app_t (σ := σ) (E := Ey) (fun a ea e => (i2 a ea).1 (e ▸ ht))).1).symm
    · exact ((app_t (σ := σ) (E := Ey) (fun a ea e => (i2 a ea).2 (e ▸ ht))).1).symm
    · exact ((app_t (σ := σ) (E := Ey) (fun a ea e => (i2 a ea).1 (e ▸ takes_sub hs))).2 (fun e => i4 s (fy1 s e) hs)).symm
    · simp only [PS.only] at hj ⊢
      split at hj
      · rename_i hokj
        rw [if_pos hokj, ← app_b (σ := σ) (d := y.dst) (E := Ey) j ?_]
        · exact hj
        · rintro i cs e rfl
          rcases fy2 i cs e with ⟨rfl, -⟩ | ⟨h1, h9⟩
          · rw [hox] at hokj; cases hokj
          · exact hsep (i7 h1 hu) _ h9 hokj
      · cases hj
    · simp only [PS.only] at hj ⊢
      split at hj
      · rename_i hokj
        rw [if_pos hokj]
        by_cases hbx : ∃ cs, Ey.bx = some (j, cs)
        · obtain ⟨cs, e⟩ := hbx
          rcases fy2 j cs e with ⟨rfl, -⟩ | ⟨h1, h9⟩
          · rw [hox] at hokj; cases hokj
          · have hns : storeB y = false := by
              cases hsb : storeB y with
              | false => rfl
              | true => exact (hsep (i5 hsb hu) _ h9 hokj).elim
            obtain ⟨bs0, k1, k2⟩ := may_marks hy h1 hns j cs e
            refine ⟨bs0, k1, ?_⟩
            obtain ⟨v, b, s⟩ := Ey
            simp only at e
            subst e
            simp only [PS.app, upd_same, Option.some.injEq] at hj
            rw [← hj]; exact k2.symm
        · refine ⟨bs, ?_, rfl⟩
          rw [← app_b (σ := σ) (d := y.dst) (E := Ey) j (fun i cs e hh => hbx ⟨cs, hh ▸ e⟩)]
          exact hj
      · cases hj
    · by_cases hb : ∃ cs, Ey.bx = some (base + ix, cs)
      · obtain ⟨cs, e⟩ := hb
        obtain ⟨v, b, s⟩ := Ey
        simp only at e
        subst e
        simp [PS.app, upd_if] at h0
      · rw [← app_b (σ := σ) (d := y.dst) (E := Ey) (base + ix) (fun i cs e hh => hb ⟨cs, hh ▸ e⟩)]
        exact h0
  obtain ⟨-, fx3⟩ := may_foot hx'
  have hy' : May P T ops base ok iy y (σ.app x.dst Ex) Ey := by
    refine may_congr hy (fun t ht => ?_) (fun t ht => ?_) (fun s hs => ?_) (fun hu j bs hj => ?_) (fun hu j bs hj => ?_) (fun h0 => ?_)
    · exact (app_t (σ := σ) (E := Ex) (fun a ea e => (i3 a ea).1 (e ▸ ht))).1
    · exact (app_t (σ := σ) (E := Ex) (fun a ea e => (i3 a ea).2 (e ▸ ht))).1
    · exact (app_t (σ := σ) (E := Ex) (fun a ea e => (i3 a ea).1 (e ▸ takes_sub hs))).2 (fun e => i4 s hs (fx1 s e))
    · simp only [PS.only] at hj ⊢
      split at hj
      · rename_i hokj
        rw [if_pos hokj, app_b (σ := σ) (d := x.dst) (E := Ex) j ?_]
        · exact hj
        · rintro i cs e rfl
          rcases fx3 i cs e with ⟨rfl, -⟩ | ⟨h1, h9⟩
          · rw [hoy] at hokj; cases hokj
          · exact hsep (i7 hu h1) _ hokj h9
      · cases hj
    · simp only [PS.only] at hj ⊢
      split at hj
      · rename_i hokj
        rw [if_pos hokj]
        by_cases hbx : ∃ cs, Ex.bx = some (j, cs)
        · obtain ⟨cs, e⟩ := hbx
          rcases fx3 j cs e with ⟨rfl, -⟩ | ⟨h1, h9⟩
          · rw [hoy] at hokj; cases hokj
          · have hns : storeB x = false := by
              cases hsb : storeB x with
              | false => rfl
              | true => exact (hsep (i6 hsb hu) _ hokj h9).elim
            obtain ⟨bs0, k1, k2⟩ := may_marks hx' h1 hns j cs e
            rw [k1] at hj
            simp only [Option.some.injEq] at hj
            subst hj
            refine ⟨cs, ?_, k2⟩
            obtain ⟨v, b, s⟩ := Ex
            simp only at e
            subst e
            simp only [PS.app, upd_same]
        · refine ⟨bs, ?_, rfl⟩
          rw [app_b (σ := σ) (d := x.dst) (E := Ex) j (fun i cs e hh => hbx ⟨cs, hh ▸ e⟩)]
          exact hj
      · cases hj
    · rw [app_b (σ := σ) (d := x.dst) (E := Ex) (base + iy) ?_]
      · exact h0
      · rintro i cs e rfl
        rcases fx3 _ cs e with ⟨h1, -⟩ | ⟨-, h2⟩
        · omega
        · rw [hox] at h2; cases h2
  refine ⟨Ex, hx', Ey, hy', ?_⟩
  rw [← app_comm σ y.dst x.dst Ey Ex i1 (fun a s ea es e => (i2 a ea).1 (takes_sub (e ▸ fx1 s es))) (fun a s ea es e => (i3 a ea).1 (takes_sub (e ▸ fy1 s es))) (fun s t es et e => i4 s (fy1 s es) (e ▸ fx1 t et)) ?_]
  · exact hk
  · rintro i c j e hi' hj' rfl
    rcases fy2 i c hi' with ⟨e1, -⟩ | ⟨e1, e2⟩
    · rcases fx3 i e hj' with ⟨e3, -⟩ | ⟨-, e4⟩
      · omega
      · rw [e1, hox] at e4; cases e4
    · rcases fx3 i e hj' with ⟨e3, -⟩ | ⟨e3, e4⟩
      · rw [e3, hoy] at e2; cases e2
      · exact hsep (i7 e1 e3) _ e2 e4
end
end Go.Proofs.Ytnjopfjmepbpoaa

/- Pure states: a region that draws its order. -/
namespace Go.Proofs.Ytnjopfjmepbpoaa
set_option linter.unusedSimpArgs false
set_option linter.unusedVariables false
set_option linter.unnecessarySimpa false
open Go.RowKit

theorem PWop.mono {P : Program} {T : Tab} {σ : PS} {ops : Array Oper} {base : Nat} {ok : Nat → Nat → Bool} {i : Nat} {o : Oper} {K K' : PS → Prop} (hk : ∀ σ, K σ → K' σ) (h : PWop P T ops base ok i o K σ) : PWop P T ops base ok i o K' σ := by
  obtain ⟨E, h1, h2⟩ := h; exact ⟨E, h1, hk _ h2⟩

theorem PWops.bubble {P : Program} {T : Tab} {ops : Array Oper} {base : Nat} {ok : Nat → Nat → Bool} {cl : List (List Nat)} {ix : Nat} {x : Oper} {post : List (Nat × Oper)} {Q : PS → Prop} : ∀ (pre : List (Nat × Oper)) (σ : PS), (∀ y ∈ pre, (indB ops cl y.1 ix y.2 x = true ∧ (sepB ops.toList cl y.1 ix y.2 x = true → ∀ j, ok y.1 j = true → ok ix j = true → False)) ∧ y.1 ≠ ix ∧ ok ix (base + y.1) = false ∧ ok y.1 (base + ix) = false) →
    PWops P T ops base ok (pre ++ (ix, x) :: post) Q σ → PWops P T ops base ok ((ix, x) :: (pre ++ post)) Q σ
  | [], σ, _, h => h
  | (iy, y) :: pre, σ, hall, h => by
    obtain ⟨h1, h2, h3, h4⟩ := hall (iy, y) (by simp)
    have ih := PWops.bubble (P := P) (T := T) (ops := ops) (base := base) (ok := ok) (cl := cl) (ix := ix) (x := x) (post := post) (Q := Q) pre
    have : PWop P T ops base ok iy y (PWop P T ops base ok ix x (PWops P T ops base ok (pre ++ post) Q)) σ :=
      PWop.mono (fun σ' h' => ih σ' (fun z hz => hall z (by simp [hz])) h') h
    exact PWop.swap h1.1 h1.2 h2 h3 h4 this

theorem closB_get : ∀ (r : List Oper) (acc : List (List Nat)) (i : Nat) (o : Oper), r[i]? = some o → ∃ acc' : List (List Nat), acc'.length = acc.length + i ∧ (∀ j, j < acc'.length → (closB r acc).getD j [] = acc'.getD j []) ∧ (closB r acc).getD (acc.length + i) [] = cloOf acc' o
  | [], acc, i, o, h => by simp at h
  | p :: r, acc, i, o, h => by
    have ext : ∀ (r : List Oper) (acc : List (List Nat)) (j : Nat), j < acc.length → (closB r acc).getD j [] = acc.getD j [] := by
      intro r
      induction r with
      | nil => intro acc j hj; rfl
      | cons q r ih =>
        intro acc j hj
        rw [closB, ih _ _ (by simp; omega)]
        simp [List.getD_eq_getElem?_getD, List.getElem?_append_left hj]
    cases i with
    | zero =>
      simp at h
      subst h
      refine ⟨acc, by simp, fun j hj => ?_, ?_⟩
      · rw [closB, ext _ _ _ (by simp; omega)]
        simp [List.getD_eq_getElem?_getD, List.getElem?_append_left hj]
      · rw [closB, Nat.add_zero, ext _ _ _ (by simp)]
        simp [List.getD_eq_getElem?_getD]
    | succ i =>
      simp at h
      obtain ⟨acc', h1, h2, h3⟩ := closB_get r (acc ++ [cloOf acc p]) i o h
      refine ⟨acc', by rw [h1]; simp; omega, fun j hj => by rw [closB]; exact h2 j hj, ?_⟩
      rw [closB, show acc.length + (i + 1) = (acc ++ [cloOf acc p]).length + i by simp; omega]
      exact h3

theorem clos_mem {ops : List Oper} {i : Nat} {o : Oper} (ho : ops[i]? = some o) (hlt : ∀ e ∈ o.after.toList, Region.binds .any e = true → e.on < i) (k : Nat) : k ∈ (clos ops).getD i [] ↔ ∃ e ∈ o.after.toList, Region.binds .any e = true ∧ (k = e.on ∨ k ∈ (clos ops).getD e.on []) := by
  obtain ⟨acc', h1, h2, h3⟩ := closB_get ops [] i o ho
  simp only [List.length_nil, Nat.zero_add] at h1 h3
  unfold clos
  rw [h3, cloOf, List.mem_flatMap]
  constructor
  · rintro ⟨e, he, hk⟩
    split at hk
    · rename_i hb
      refine ⟨e, he, hb, ?_⟩
      rw [List.mem_cons] at hk
      rcases hk with hk | hk
      · exact .inl hk
      · right; rw [h2 _ (by rw [h1]; exact hlt e he hb)]; exact hk
    · cases hk
  · rintro ⟨e, he, hb, hk⟩
    refine ⟨e, he, ?_⟩
    rw [if_pos hb, List.mem_cons]
    rcases hk with hk | hk
    · exact .inl hk
    · right; rw [← h2 _ (by rw [h1]; exact hlt e he hb)]; exact hk

theorem depO_iff {o : Oper} {j : Nat} : depO o j = true ↔ ∃ e ∈ o.after.toList, Region.binds .any e = true ∧ e.on = j := by
  simp only [depO, Array.any_eq_true', Bool.and_eq_true, beq_iff_eq]
  constructor
  · rintro ⟨e, he, h1, h2⟩; exact ⟨e, by simpa using he, h1, h2⟩
  · rintro ⟨e, he, h1, h2⟩; exact ⟨e, by simpa using he, h1, h2⟩

theorem draw_parts {ops : List Oper} (h : drawB ops = true) : (∀ (i : Nat) o, ops[i]? = some o → ∀ e ∈ o.after.toList, Region.binds .any e = true → e.on < i) ∧
    (∀ (i j : Nat) x y, ops[i]? = some x → ops[j]? = some y → j < i → j ∈ (clos ops).getD i [] ∨ indB ops.toArray (clos ops) j i y x = true) := by
  have hm : ∀ (i : Nat) o, ops[i]? = some o → (i, o) ∈ indexed 0 ops := by
    have : ∀ (l : List Oper) (k i : Nat) o, l[i]? = some o → (k + i, o) ∈ indexed k l := by
      intro l
      induction l with
      | nil => intro k i o h; simp at h
      | cons p l ih =>
        intro k i o h
        cases i with
        | zero => simp at h; subst h; simp [indexed]
        | succ i =>
          simp at h
          have := ih (k+1) i o h
          simp only [indexed, List.mem_cons]
          right
          rw [show k + (i + 1) = k + 1 + i by omega]; exact this
    intro i o h
    have := this ops 0 i o h
    rwa [Nat.zero_add] at this
  simp only [drawB] at h
  have h' := List.all_eq_true.1 h
  refine ⟨fun i o ho e he hb => ?_, fun i j x y hx hy hji => ?_⟩
  · have := h' _ (hm i o ho)
    simp only [Bool.and_eq_true] at this
    have := List.all_eq_true.1 this.1 e he
    simpa [hb] using this
  · have := h' _ (hm i x hx)
    simp only [Bool.and_eq_true] at this
    have := List.all_eq_true.1 this.2 _ (hm j y hy)
    simp only [hji, decide_true, Bool.not_true, Bool.false_or, Bool.or_eq_true, List.contains_iff_mem] at this
    exact this

theorem clos_lt {ops : List Oper} (hE : ∀ (i : Nat) o, ops[i]? = some o → ∀ e ∈ o.after.toList, Region.binds .any e = true → e.on < i) : ∀ (i : Nat) o, ops[i]? = some o → ∀ k ∈ (clos ops).getD i [], k < i := by
  intro i
  induction i using Nat.strongRecOn with
  | _ i ih =>
    intro o ho k hk
    obtain ⟨e, he, hb, hk⟩ := (clos_mem ho (hE i o ho) k).1 hk
    have hlt := hE i o ho e he hb
    rcases hk with rfl | hk
    · exact hlt
    · have hi : i < ops.length := (List.getElem?_eq_some_iff.1 ho).1
      have := ih e.on hlt ops[e.on] (by simp) k hk
      omega

/-- What must come first has come, where the direct ones have. -/
theorem clos_listed {ops : List Oper} (hE : ∀ (i : Nat) o, ops[i]? = some o → ∀ e ∈ o.after.toList, Region.binds .any e = true → e.on < i) {listed : Array Bool} (hcl : ∀ (i : Nat) o, ops[i]? = some o → listed.getD i false = true → ∀ j, depO o j = true → listed.getD j false = true) :
    ∀ (i : Nat) o, ops[i]? = some o → (∀ j, depO o j = true → listed.getD j false = true) → ∀ k ∈ (clos ops).getD i [], listed.getD k false = true := by
  intro i
  induction i using Nat.strongRecOn with
  | _ i ih =>
    intro o ho hdep k hk
    obtain ⟨e, he, hb, hk⟩ := (clos_mem ho (hE i o ho) k).1 hk
    have hlt := hE i o ho e he hb
    have hl : listed.getD e.on false = true := hdep _ (depO_iff.2 ⟨e, he, hb, rfl⟩)
    rcases hk with rfl | hk
    · exact hl
    · have hi : i < ops.length := (List.getElem?_eq_some_iff.1 ho).1
      have he' : ops[e.on]? = some ops[e.on] := by simp
      exact ih e.on hlt ops[e.on] he' (hcl e.on _ he' hl) k hk

theorem indexed_sorted : ∀ (k : Nat) (l : List Oper), (indexed k l).Pairwise (fun a b => a.1 < b.1)
  | _, [] => List.Pairwise.nil
  | k, o :: r => by
    rw [indexed, List.pairwise_cons]
    refine ⟨fun b hb => ?_, indexed_sorted (k+1) r⟩
    have := (indexed_mem (k+1) r b hb).1
    simp only; omega

section
variable {Φ0 : Imm} {W : World} {M : Nat} {P : Program} {T : Tab} {ops : List Oper} {base : Nat}

theorem any_sound (hT : T = tabOf P) (hall : ∀ (j : Nat) o, ops.toArray[j]? = some o → dstB M o = true) (hdraw : drawB ops = true) {Q : PS → Prop} {Q' : Exit → Act → World → Prop} (hQ : ∀ σ a w, Q σ → Rel Φ0 W M σ a w → Q' .normal a w) :
    ∀ (fuel : Nat) (listed : Array Bool) (σ : PS) (a : Act) (w : World), unlisted listed ≤ fuel → listed.size = ops.length → (∀ (i : Nat) o, ops[i]? = some o → listed.getD i false = true → ∀ j, depO o j = true → listed.getD j false = true) →
      PWops P T ops.toArray base (okR ops base) ((indexed 0 ops).filter fun x => !listed.getD x.1 false) Q σ → Rel Φ0 W M σ a w → wpAny P .any ops.toArray Q' fuel listed a w := by
  obtain ⟨hE, hI⟩ := draw_parts hdraw
  have hsz : ∀ listed : Array Bool, listed.size = ops.length → listed.size = ops.toArray.size := fun l h => by simpa using h
  have fin : ∀ (listed : Array Bool) (σ : PS) (a : Act) (w : World), listed.size = ops.length → (∀ i, i < ops.length → listed.getD i false = true) →
      PWops P T ops.toArray base (okR ops base) ((indexed 0 ops).filter fun x => !listed.getD x.1 false) Q σ → Rel Φ0 W M σ a w → Q' .normal a w := by
    intro listed σ a w hs hl h hr
    have : ((indexed 0 ops).filter fun x => !listed.getD x.1 false) = [] := by
      rw [List.filter_eq_nil_iff]
      intro x hx
      obtain ⟨-, h2⟩ := indexed_mem 0 ops x hx
      have : x.1 < ops.length := by have := (List.getElem?_eq_some_iff.1 h2).1; omega
      simp [hl x.1 this]
    rw [this] at h
    exact hQ σ a w h hr
  have alls : ∀ listed : Array Bool, listed.size = ops.length → Region.ready .any ops.toArray listed = [] → ∀ i, i < ops.length → listed.getD i false = true := by
    intro listed hs hr i
    induction i using Nat.strongRecOn with
    | _ i ih =>
      intro hi
      have ho : ops.toArray[i]? = some ops[i] := by simp [hi]
      cases hl : listed.getD i false with
      | true => rfl
      | false =>
        have : i ∈ Region.ready .any ops.toArray listed := (mem_ready (hsz listed hs)).2 ⟨ops[i], ho, hl, fun j hj => by
          obtain ⟨e, he, hb, rfl⟩ := depO_iff.1 hj
          have := hE i ops[i] (by simp [hi]) e he hb
          exact ih e.on this (by omega)⟩
        rw [hr] at this; cases this
  intro fuel
  induction fuel with
  | zero =>
    intro listed σ a w hu hs hcl h hr
    have hl := unlisted_zero (Nat.le_zero.1 hu)
    rw [hs] at hl
    refine ⟨?_, fin listed σ a w hs hl h hr⟩
    apply List.eq_nil_iff_forall_not_mem.2
    intro i hi
    obtain ⟨o, ho, h1, _⟩ := (mem_ready (hsz listed hs)).1 hi
    rw [hl i (by have := (Array.getElem?_eq_some_iff.1 ho).1; simpa using this)] at h1
    cases h1
  | succ fuel ih =>
    intro listed σ a w hu hs hcl h hr
    refine ⟨fun hrd => fin listed σ a w hs (alls listed hs hrd) h hr, fun i hi => ?_⟩
    obtain ⟨o, ho, h1, h2⟩ := (mem_ready (hsz listed hs)).1 hi
    have ho' : ops[i]? = some o := by simpa using ho
    have hil : i < ops.length := (List.getElem?_eq_some_iff.1 ho').1
    have hmem : (i, o) ∈ (indexed 0 ops).filter fun x => !listed.getD x.1 false := by
      rw [List.mem_filter]
      refine ⟨?_, by simp [h1]⟩
      have : ∀ (l : List Oper) (k i : Nat) o, l[i]? = some o → (k + i, o) ∈ indexed k l := by
        intro l
        induction l with
        | nil => intro k i o h; simp at h
        | cons p l ih =>
          intro k i o h
          cases i with
          | zero => simp at h; subst h; simp [indexed]
          | succ i =>
            simp at h
            have := ih (k+1) i o h
            simp only [indexed, List.mem_cons]
            right
            rw [show k + (i + 1) = k + 1 + i by omega]; exact this
      have := this ops 0 i o ho'
      rwa [Nat.zero_add] at this
    obtain ⟨pre, post, hL⟩ := List.append_of_mem hmem
    have hsort : ((indexed 0 ops).filter fun x => !listed.getD x.1 false).Pairwise (fun a b => a.1 < b.1) := (indexed_sorted 0 ops).filter _
    rw [hL] at h hsort
    rw [List.pairwise_append] at hsort
    obtain ⟨-, hs2, hs3⟩ := hsort
    rw [List.pairwise_cons] at hs2
    have hpre : ∀ y ∈ pre, y.1 < i := fun y hy => hs3 y hy (i, o) (by simp)
    have hpost : ∀ y ∈ post, i < y.1 := fun y hy => hs2.1 y hy
    have hprem : ∀ y ∈ pre, ops[y.1]? = some y.2 ∧ listed.getD y.1 false = false := by
      intro y hy
      have : y ∈ (indexed 0 ops).filter fun x => !listed.getD x.1 false := by rw [hL]; simp [hy]
      rw [List.mem_filter] at this
      obtain ⟨-, q⟩ := indexed_mem 0 ops y this.1
      exact ⟨by simpa using q, by simpa using this.2⟩
    have hb := PWops.bubble (P := P) (T := T) (base := base) (ok := okR ops base) (cl := clos ops) (ix := i) (x := o) (post := post) (Q := Q) pre σ (by
      intro y hy
      obtain ⟨q1, q2⟩ := hprem y hy
      have hlt := hpre y hy
      have hnc : y.1 ∉ (clos ops).getD i [] := fun hc => by
        rw [clos_listed hE hcl i o ho' h2 y.1 hc] at q2; cases q2
      have hyl : y.1 < ops.length := (List.getElem?_eq_some_iff.1 q1).1
      refine ⟨⟨by simpa using (hI i y.1 o y.2 ho' q1 hlt).resolve_left hnc, fun hs j hj1 hj2 => sep_ok (ops := ops) q1 ho' (by simpa using hs) j hj1 hj2⟩, by omega, ?_, ?_⟩
      · rw [okR, Bool.and_eq_false_iff]; left
        simp only [okD, Bool.or_eq_false_iff, decide_eq_false_iff_not]
        refine ⟨⟨by omega, by omega⟩, ?_⟩
        rw [Nat.add_sub_cancel_left]
        simpa using hnc
      · rw [okR, Bool.and_eq_false_iff]; left
        simp only [okD, Bool.or_eq_false_iff, decide_eq_false_iff_not]
        refine ⟨⟨by omega, by omega⟩, ?_⟩
        rw [Nat.add_sub_cancel_left]
        have : i ∉ (clos ops).getD y.1 [] := fun hc => by have := clos_lt hE y.1 y.2 q1 i hc; omega
        simpa using this) h
    have hset : listed.getD i false = false := h1
    have hlt : i < listed.size := by rw [hs]; exact hil
    have hrem : pre ++ post = (indexed 0 ops).filter fun x => !(listed.setIfInBounds i true).getD x.1 false := by
      have e1 : ((indexed 0 ops).filter fun x => !(listed.setIfInBounds i true).getD x.1 false) = ((indexed 0 ops).filter fun x => !listed.getD x.1 false).filter (fun x => !decide (x.1 = i)) := by
        rw [List.filter_filter]
        congr 1
        funext x
        rw [getD_set _ _ _ hlt]
        cases listed.getD x.1 false <;> simp
      rw [e1, hL, List.filter_append, List.filter_cons]
      have e2 : pre.filter (fun x => !decide (x.1 = i)) = pre := List.filter_eq_self.2 (fun y hy => by have := hpre y hy; simp; omega)
      have e3 : post.filter (fun x => !decide (x.1 = i)) = post := List.filter_eq_self.2 (fun y hy => by have := hpost y hy; simp; omega)
      rw [e2, e3]
      simp
    have hcl' : ∀ (k : Nat) p, ops[k]? = some p → (listed.setIfInBounds i true).getD k false = true → ∀ j, depO p j = true → (listed.setIfInBounds i true).getD j false = true := by
      intro k p hp hk j hj
      rw [getD_set _ _ _ hlt] at hk ⊢
      simp only [Bool.or_eq_true, decide_eq_true_eq] at hk ⊢
      rcases hk with rfl | hk
      · rw [ho'] at hp; cases hp; exact .inr (h2 j hj)
      · exact .inr (hcl k p hp hk j hj)
    have hstep := op_sound (Φ0 := Φ0) (W := W) (M := M) hT hall ho (K' := wpAny P .any ops.toArray Q' fuel (listed.setIfInBounds i true)) (Q' := Q') (fun σ' a' w' hk hr' => ih (listed.setIfInBounds i true) σ' a' w' (by have := unlisted_set listed i hlt hset; omega) (by simpa using hs) hcl' (by rw [← hrem]; exact hk) hr') hb hr
    unfold wpOp
    rw [ho]
    simp only
    split
    · rename_i hw; rw [if_pos hw] at hstep; exact .inl hstep
    · rename_i hw; rw [if_neg hw] at hstep; exact hstep

/-- A region that draws its order. -/
theorem PW.draw {Q : Exit → PS → Prop} {σ : PS} (hT : T = tabOf P) (hm : P.follows .mixedOrders = true) {id : Nat} (hall : ops.all (dstB M) = true) (hd : drawB ops = true)
    (h : PWops P T ops.toArray (1000 * id) (okR ops (1000 * id)) (indexed 0 ops) (Q .normal) σ) : PW P M (.region id ops.toArray true) Q σ := by
  intro Φ0 W a w hr
  refine wp_region_any hm ?_
  obtain ⟨Φ, μ, ω, hg⟩ := hr
  refine any_sound (Φ0 := Φ0) (W := W) (M := M) (base := 1000 * id) (Q := Q .normal) hT (by
    intro j o hj
    exact List.all_eq_true.1 hall o (mem_of_get (by simpa using hj))) hd (fun σ a w hq hrel => ⟨_, hq, hrel⟩) _ _ σ a _ ?_ (by simp) ?_ ?_ ⟨Φ, μ, ω, hg.drew⟩
  · unfold unlisted
    exact Nat.le_trans List.countP_le_length (by simp)
  · intro i o ho hl
    simp [Array.getD_eq_getD_getElem?, Array.getElem?_replicate] at hl
    split at hl <;> simp_all
  · have : ((indexed 0 ops).filter fun x => !(Array.replicate ops.toArray.size false).getD x.1 false) = indexed 0 ops := by
      rw [List.filter_eq_self]
      intro x _
      simp [Array.getD_eq_getD_getElem?, Array.getElem?_replicate]
      split <;> rfl
    rw [this]
    exact h
end
end Go.Proofs.Ytnjopfjmepbpoaa

/- Pure states: more steps of a walk; what is encoded. -/
namespace Go.Proofs.Ytnjopfjmepbpoaa
set_option linter.unusedSimpArgs false
set_option linter.unusedVariables false
set_option linter.unnecessarySimpa false
open Go.RowKit

section
variable {P : Program} {M : Nat} {Q : Exit → PS → Prop} {σ : PS} {T : Tab} {ops : Array Oper} {i : Nat} {o : Oper} {rest : List (Nat × Oper)} {K : PS → Prop} {base : Nat} {ok : Nat → Nat → Bool}

theorem pev_only (ok : Nat → Bool) (x : Operand) : pev (σ.only ok) x = pev σ x := by cases x <;> rfl

/-- A value that is known otherwise. -/
theorem PWops.valEq {d : Nat} {p q : PV} (hg : pguard ops σ o = some true) (hd : o.dst = some d) (hE : presE T (headB ops o.dst) (base + i) (σ.only (ok i)) o.op = some ⟨p, none, none⟩) (hp : p = q) (hb : σ.b (base + i) = none) (k : PWops P T ops base ok rest K (σ.put d q)) : PWops P T ops base ok ((i, o) :: rest) K σ := by
  subst hp
  refine PWops.step hg hE hb ?_
  rw [hd]
  exact k

/-- A test whose answer is known. -/
theorem PWops.bool {d : Nat} {b : Bool} (v : Bool) (hg : pguard ops σ o = some true) (hd : o.dst = some d) (hE : feff (presE T (headB ops o.dst) (base + i) (σ.only (ok i)) o.op) = some (.val (.bool b))) (hv : b = v) (hb : σ.b (base + i) = none) (k : PWops P T ops base ok rest K (σ.put d (.val (.bool v)))) : PWops P T ops base ok ((i, o) :: rest) K σ := by
  subst hv
  exact PWops.val hg hd hE hb k

/-- A number that is known otherwise. -/
theorem PWops.int {d : Nat} {kk : IntKind} {z : Int} (z' : Int) (hg : pguard ops σ o = some true) (hd : o.dst = some d) (hE : feff (presE T (headB ops o.dst) (base + i) (σ.only (ok i)) o.op) = some (.val (.int kk z))) (hv : z = z') (hb : σ.b (base + i) = none) (k : PWops P T ops base ok rest K (σ.put d (.val (.int kk z')))) : PWops P T ops base ok ((i, o) :: rest) K σ := by
  subst hv
  exact PWops.val hg hd hE hb k

theorem wrap64_id {z : Int} (h1 : -9223372036854775808 ≤ z) (h2 : z ≤ 9223372036854775807) : IntKind.i64.wrap z = z := IntWalk.i64_in z ⟨h1, h2⟩

/-- A sum, a difference, a product that fits. -/
theorem PWops.fits {d : Nat} {z : Int} (hg : pguard ops σ o = some true) (hd : o.dst = some d) (hE : feff (presE T (headB ops o.dst) (base + i) (σ.only (ok i)) o.op) = some (.val (.int .i64 (IntKind.i64.wrap z)))) (h1 : -9223372036854775808 ≤ z) (h2 : z ≤ 9223372036854775807) (hb : σ.b (base + i) = none) (k : PWops P T ops base ok rest K (σ.put d (.val (.int .i64 z)))) : PWops P T ops base ok ((i, o) :: rest) K σ :=
  PWops.int z hg hd hE (wrap64_id h1 h2) hb k

def isCmp : Op → Bool
  | .binOp op _ _ _ _ => match op with
    | .eql | .neq | .lss | .leq | .gtr | .geq => true
    | _ => false
  | _ => false
def isArith : Op → Bool
  | .binOp op _ _ _ _ => match op with
    | .add | .sub | .mul => true
    | _ => false
  | _ => false
def isApp : Op → Bool
  | .call c => match c.callee with
    | .builtin .append => true
    | _ => false
  | _ => false
def isAdr : Op → Bool
  | .indexAddr .. => true
  | _ => false
theorem PWops.boolK {d : Nat} {b : Bool} (v : Bool) (hk : isCmp o.op = true) (hg : pguard ops σ o = some true) (hd : o.dst = some d) (hE : feff (presE T (headB ops o.dst) (base + i) (σ.only (ok i)) o.op) = some (.val (.bool b))) (hv : b = v) (hb : σ.b (base + i) = none) (k : PWops P T ops base ok rest K (σ.put d (.val (.bool v)))) : PWops P T ops base ok ((i, o) :: rest) K σ := PWops.bool v hg hd hE hv hb k
theorem PWops.fitsK {d : Nat} {z : Int} (hk : isArith o.op = true) (hg : pguard ops σ o = some true) (hd : o.dst = some d) (hE : feff (presE T (headB ops o.dst) (base + i) (σ.only (ok i)) o.op) = some (.val (.int .i64 (IntKind.i64.wrap z)))) (h1 : -9223372036854775808 ≤ z) (h2 : z ≤ 9223372036854775807) (hb : σ.b (base + i) = none) (k : PWops P T ops base ok rest K (σ.put d (.val (.int .i64 z)))) : PWops P T ops base ok ((i, o) :: rest) K σ := PWops.fits hg hd hE h1 h2 hb k

/-- The address of an element. -/
theorem PWops.idx {d n k j e by_ : Nat} {cs zr : List PV} {own : Option TypeId} {kk : IntKind} {x ix : Operand} {t : TypeId} {ti : TyI} (hg : pguard ops σ o = some true) (hd : o.dst = some d) (hop : o.op = .indexAddr t x ix) (hx : pev σ x = .sl n k cs own) (hi : pev σ ix = .val (.int kk (j : Int))) (ht : T.at t = some ti) (hk : ti.kind = .slice e k by_ zr) (hb : σ.b (base + i) = none) (hj : j < n)
    (kn : PWops P T ops base ok rest K (σ.put d (.ep cs (j * k)))) : PWops P T ops base ok ((i, o) :: rest) K σ := by
  refine PWops.valEq hg hd (p := .ep cs (j * k)) ?_ rfl hb kn
  have h1 : k = k ∧ (0 : Int) ≤ (j : Int) ∧ (j : Int) < (n : Int) := ⟨rfl, by omega, by omega⟩
  simp [hop, presE, pval, pev_only, hx, hi, ht, hk, pindexAt, h1]

/-- The address of an element of one cell. -/
theorem PWops.idx1 {d n j e by_ : Nat} {cs zr : List PV} {own : Option TypeId} {kk : IntKind} {x ix : Operand} {t : TypeId} {ti : TyI} (hg : pguard ops σ o = some true) (hd : o.dst = some d) (hop : o.op = .indexAddr t x ix) (hx : pev σ x = .sl n 1 cs own) (hi : pev σ ix = .val (.int kk (j : Int))) (ht : T.at t = some ti) (hk : ti.kind = .slice e 1 by_ zr) (hb : σ.b (base + i) = none) (hj : j < n)
    (kn : PWops P T ops base ok rest K (σ.put d (.ep cs j))) : PWops P T ops base ok ((i, o) :: rest) K σ :=
  PWops.idx hg hd hop hx hi ht hk hb hj (by rw [Nat.mul_one]; exact kn)

/-- A cell of an element. -/
theorem PWops.ld {d off : Nat} {cs : List PV} {c q : PV} {x : Operand} {t : TypeId} {ti : TyI} (hg : pguard ops σ o = some true) (hd : o.dst = some d) (hop : o.op = .load t x) (hx : pev σ x = .ep cs off) (ht : T.at t = some ti) (ha : ti.agg = false) (hb : σ.b (base + i) = none) (hc : cs[off]? = some c) (hq : fval c.bare = some q)
    (kn : PWops P T ops base ok rest K (σ.put d q)) : PWops P T ops base ok ((i, o) :: rest) K σ := by
  refine PWops.valEq hg hd (p := c.bare) ?_ (fval_eq hq) hb kn
  simp [hop, presE, ploadO, pval, pev_only, hx, ht, ploadAt, asVal, ha, hc]

/-- An element of several cells. -/
theorem PWops.ldA {d off m : Nat} {cs row : List PV} {x : Operand} {t : TypeId} {kd : TD} {zr : List PV} {es : List SK} (hg : pguard ops σ o = some true) (hd : o.dst = some d) (hop : o.op = .load t x) (hx : pev σ x = .ep cs off) (ht : T.at t = some ⟨m, true, kd, zr, es⟩) (hb : σ.b (base + i) = none) (hl : off + m ≤ cs.length) (hr : ((cs.drop off).take m).map PV.bare = row)
    (kn : PWops P T ops base ok rest K (σ.put d (.agg row))) : PWops P T ops base ok ((i, o) :: rest) K σ := by
  refine PWops.valEq hg hd (p := .agg (((cs.drop off).take m).map PV.bare)) ?_ (by rw [hr]) hb kn
  simp [hop, presE, ploadO, pval, pev_only, hx, ht, ploadAt, asVal, hl]

/-- An append to what is one's own. -/
theorem PWops.app {d s n m k e by_ : Nat} {cs ds zr : List PV} {own : Option TypeId} {x : Operand} {t : TypeId} {sz : Nat} {ag : Bool} {zz : List PV} {es : List SK} (hg : pguard ops σ o = some true) (hd : o.dst = some d) (hop : o.op = .call { callee := .builtin .append, args := #[.tmp s, x], argTypes := #[t, t] }) (hs : σ.t s = .sl n k cs (some e)) (hx : pev σ x = .sl m k ds own) (ht : T.at t = some ⟨sz, ag, .slice e k by_ zr, zz, es⟩) (hb : σ.b (base + i) = none)
    (h1 : (n + m) * by_ ≤ 140737488355328) (h2 : n + m ≤ 140737488355328) (hone : ds.all PV.one = true) (kn : PWops P T ops base ok rest K ((σ.put s (.sl n k cs none)).put d (.sl (n + m) k (cs ++ ds) (some e)))) : PWops P T ops base ok ((i, o) :: rest) K σ := by
  refine PWops.step hg (E := ⟨.sl (n + m) k (cs ++ ds) (some e), none, some s⟩) ?_ hb ?_
  · have how : ownPV (σ.only (ok i)) (.tmp s) = .sl n k cs (some e) := hs
    simp [hop, presE, how, pev_only, hx, ht, pappend, asOwn, asSrc, h1, h2, disOf]
    simpa using hone
  · rw [hd]
    simp only [PS.app, hs]
    exact kn
/-- An append to nil. -/
theorem PWops.app0 {d s m k e by_ : Nat} {ds zr : List PV} {own : Option TypeId} {x : Operand} {t : TypeId} {sz : Nat} {ag : Bool} {zz : List PV} {es : List SK} (hg : pguard ops σ o = some true) (hd : o.dst = some d) (hop : o.op = .call { callee := .builtin .append, args := #[.tmp s, x], argTypes := #[t, t] }) (hs : σ.t s = .nilsl) (hx : pev σ x = .sl m k ds own) (ht : T.at t = some ⟨sz, ag, .slice e k by_ zr, zz, es⟩) (hb : σ.b (base + i) = none)
    (h1 : m * by_ ≤ 140737488355328) (h2 : m ≤ 140737488355328) (hone : ds.all PV.one = true) (kn : PWops P T ops base ok rest K ((σ.put s .nilsl).put d (.sl m k ds (some e)))) : PWops P T ops base ok ((i, o) :: rest) K σ := by
  refine PWops.step hg (E := ⟨.sl (0 + m) k ([] ++ ds) (some e), none, some s⟩) ?_ hb ?_
  · have how : ownPV (σ.only (ok i)) (.tmp s) = .nilsl := hs
    simp [hop, presE, how, pev_only, hx, ht, pappend, asOwn, asSrc, h1, h2, disOf]
    simpa using hone
  · rw [hd]
    simp only [PS.app, hs, Nat.zero_add, List.nil_append]
    exact kn

/-- A part of a slice. -/
theorem PWops.slc {d n k e by_ : Nat} (l h : Nat) {cs zr : List PV} {own : Option TypeId} {x : Operand} {lo hi : Option Operand} {t : TypeId} {ti : TyI} (hg : pguard ops σ o = some true) (hd : o.dst = some d) (hop : o.op = .slice t x lo hi none) (hx : pev σ x = .sl n k cs own) (ht : T.at t = some ti) (hk : ti.kind = .slice e k by_ zr) (hb : σ.b (base + i) = none)
    (h1 : pbound n n (hi.map (pev σ)) = some h) (h2 : pbound 0 h (lo.map (pev σ)) = some l) (kn : PWops P T ops base ok rest K (σ.put d (.sl (h - l) k ((cs.drop (l * k)).take ((h - l) * k)) none))) : PWops P T ops base ok ((i, o) :: rest) K σ := by
  refine PWops.valEq hg hd (p := .sl (h - l) k ((cs.drop (l * k)).take ((h - l) * k)) none) ?_ rfl hb kn
  have e1 : pev (σ.only (ok i)) = pev σ := funext (pev_only _)
  simp [hop, presE, pval, e1, hx, ht, hk, pslice, h1, h2]

/-- string(b) of bytes. -/
theorem PWops.str {d n k e by_ : Nat} {zr : List PV} {own : Option TypeId} {bs : List Int} {x : Operand} {ts td : TypeId} {si di ei : TyI} (hg : pguard ops σ o = some true) (hd : o.dst = some d) (hop : o.op = .convert ts td x) (hx : pev σ x = .sl n 1 (bs.map fun b => .val (.int .u8 b)) own) (hs : T.at ts = some si) (ht : T.at td = some di) (hk1 : si.kind = .slice e k by_ zr) (hk2 : di.kind = .str) (he : T.at e = some ei) (hke : ei.kind = .int .u8) (hb : σ.b (base + i) = none)
    (kn : PWops P T ops base ok rest K (σ.put d (.val (.string (strI bs))))) : PWops P T ops base ok ((i, o) :: rest) K σ := by
  refine PWops.valEq hg hd (p := .val (.string (strI bs))) ?_ rfl hb kn
  simp [hop, presE, pval, pev_only, hx, hs, ht, hk1, hk2, he, hke, pconv, pconvS, bytesOf_map]

theorem pbound_nat {dflt m j : Nat} {kk : IntKind} (h : j ≤ m) : pbound dflt m (some (.val (.int kk (j : Int)))) = some j := by
  have : (0 : Int) ≤ (j : Int) ∧ (j : Int) ≤ (m : Int) := ⟨by omega, by omega⟩
  simp [pbound, this]

/-- Low values. -/
theorem low_val (v : Value) : Low (.val v) ↔ True := ⟨fun _ => trivial, fun _ => .val v⟩
theorem low_nilsl : Low .nilsl ↔ True := ⟨fun _ => trivial, fun _ => .nilsl⟩
theorem low_sl {n k : Nat} {cs : List PV} {own : Option TypeId} : Low (.sl n k cs own) ↔ ∀ c ∈ cs, Low c := ⟨fun h => by cases h; assumption, fun h => .sl n k cs own h⟩
theorem low_ep {cs : List PV} {off : Nat} : Low (.ep cs off) ↔ ∀ c ∈ cs, Low c := ⟨fun h => by cases h; assumption, fun h => .ep cs off h⟩
theorem low_agg {cs : List PV} : Low (.agg cs) ↔ ∀ c ∈ cs, Low c := ⟨fun h => by cases h; assumption, fun h => .agg cs h⟩
theorem low_tup {cs : List PV} : Low (.tup cs) ↔ ∀ c ∈ cs, Low c := ⟨fun h => by cases h; assumption, fun h => .tup cs h⟩
theorem low_fn {f : FuncId} {cs : List PV} : Low (.fn f cs) ↔ ∀ c ∈ cs, Low c := ⟨fun h => by cases h; assumption, fun h => .fn f cs h⟩
theorem low_pint (z : Int) : Low (pint z) ↔ True := low_val _
theorem low_pstr (z : ByteArray) : Low (pstr z) ↔ True := low_val _
theorem low_pbool (z : Bool) : Low (pbool z) ↔ True := low_val _
theorem low_pints (zs : List Int) : Low (pints zs) ↔ True := ⟨fun _ => trivial, fun _ => .sl _ _ _ _ (fun c hc => by obtain ⟨z, -, rfl⟩ := List.mem_map.1 hc; exact .val _)⟩
theorem low_pstrs (zs : List ByteArray) : Low (pstrs zs) ↔ True := ⟨fun _ => trivial, fun _ => .sl _ _ _ _ (fun c hc => by obtain ⟨z, -, rfl⟩ := List.mem_map.1 hc; exact .val _)⟩
theorem map_get {α : Type} {f : α → PV} {l : List α} {j : Nat} {x : α} (h : l[j]? = some x) : (l.map f)[j]? = some (f x) := by simp [h]

/-- Lists of rows. -/
theorem flatMap_get {α : Type} {f : α → List PV} {k : Nat} (hk : ∀ x, (f x).length = k) : ∀ {l : List α} {j : Nat} {x : α} {m : Nat} {c : PV}, l[j]? = some x → (f x)[m]? = some c → (l.flatMap f)[j * k + m]? = some c
  | [], j, x, m, c, h, _ => by simp at h
  | y :: l, 0, x, m, c, h, hc => by
    simp at h; subst h
    have hm : m < (f y).length := (List.getElem?_eq_some_iff.1 hc).1
    rw [List.flatMap_cons, Nat.zero_mul, Nat.zero_add, List.getElem?_append_left hm]; exact hc
  | y :: l, j+1, x, m, c, h, hc => by
    simp at h
    rw [List.flatMap_cons, List.getElem?_append_right (by rw [hk, Nat.succ_mul]; omega), hk, show (j + 1) * k + m - k = j * k + m by rw [Nat.succ_mul]; omega]
    exact flatMap_get hk h hc
theorem flatMap_len {α : Type} {f : α → List PV} {k : Nat} (hk : ∀ x, (f x).length = k) : ∀ (l : List α), (l.flatMap f).length = l.length * k
  | [] => by simp
  | y :: l => by rw [List.flatMap_cons, List.length_append, hk, flatMap_len hk l, List.length_cons, Nat.succ_mul]; omega
theorem flatMap_row {α : Type} {f : α → List PV} {k : Nat} (hk : ∀ x, (f x).length = k) : ∀ {l : List α} {j : Nat} {x : α}, l[j]? = some x → ((l.flatMap f).drop (j * k)).take k = f x
  | [], j, x, h => by simp at h
  | y :: l, 0, x, h => by
    simp at h; subst h
    rw [List.flatMap_cons, Nat.zero_mul, List.drop_zero, List.take_append_of_le_length (by rw [hk]; exact Nat.le_refl _), List.take_of_length_le (by rw [hk]; exact Nat.le_refl _)]
  | y :: l, j+1, x, h => by
    simp at h
    rw [List.flatMap_cons, show (j + 1) * k = (f y).length + j * k by rw [hk, Nat.succ_mul]; omega, List.drop_append]
    simp only [Nat.add_sub_cancel_left]
    rw [List.drop_eq_nil_of_le (by omega), List.nil_append]
    exact flatMap_row hk h
end
end Go.Proofs.Ytnjopfjmepbpoaa

/- What the operators on bits give, where wire uses them. -/
namespace Go.Proofs.Ytnjopfjmepbpoaa
set_option linter.unusedSimpArgs false
set_option linter.unusedVariables false
set_option linter.unnecessarySimpa false

theorem wraps_u64 (n : Int) (h₀ : 0 ≤ n) (h₁ : n < 2 ^ 64) : IntKind.u64.wrap n = n := by rw [IntKind.wrap_u64]; omega

theorem xor_u64_0 (x : Int) (h0 : 0 ≤ x) (h1 : x < 18446744073709551616) : bits .xor .u64 x 0 = x := by
  obtain ⟨a, rfl⟩ : ∃ a : Nat, x = a := ⟨x.toNat, by omega⟩
  have := bits_xor_u64_nat a 0 (by omega) (by omega)
  simpa using this

theorem xor_u64_ones (x : Int) (h0 : 0 ≤ x) (h1 : x < 18446744073709551616) : bits .xor .u64 x 18446744073709551615 = 18446744073709551615 - x := by
  obtain ⟨a, rfl⟩ : ∃ a : Nat, x = a := ⟨x.toNat, by omega⟩
  have e : (BitVec.ofInt IntKind.u64.bits 18446744073709551615 : BitVec IntKind.u64.bits) = BitVec.allOnes 64 := rfl
  have e2 : ((BitVec.ofInt IntKind.u64.bits (a : Int) : BitVec IntKind.u64.bits) ^^^ BitVec.ofInt IntKind.u64.bits 18446744073709551615).toNat = 18446744073709551615 - a := by
    rw [e]
    show ((BitVec.ofInt 64 (a : Int)) ^^^ BitVec.allOnes 64).toNat = _
    rw [BitVec.xor_allOnes, BitVec.toNat_not, BitVec.toNat_ofInt]
    omega
  show IntKind.u64.wrap _ = _
  simp only []
  rw [e2, IntKind.wrap_u64]
  omega

theorem xor_i64_0 (x : Int) (h0 : -9223372036854775808 ≤ x) (h1 : x < 9223372036854775808) : bits .xor .i64 x 0 = x := by
  have e2 : ((BitVec.ofInt IntKind.i64.bits x : BitVec IntKind.i64.bits) ^^^ BitVec.ofInt IntKind.i64.bits 0).toNat = (x % 18446744073709551616).toNat := by
    show ((BitVec.ofInt 64 x) ^^^ BitVec.ofInt 64 0).toNat = _
    rw [show BitVec.ofInt 64 0 = 0#64 from rfl, BitVec.xor_zero, BitVec.toNat_ofInt]
    rfl
  show IntKind.i64.wrap _ = _
  simp only []
  rw [e2, IntKind.wrap_i64]
  omega

theorem xor_i64_ones (x : Int) (h0 : -9223372036854775808 ≤ x) (h1 : x < 9223372036854775808) : bits .xor .i64 x (-1) = -1 - x := by
  have e2 : ((BitVec.ofInt IntKind.i64.bits x : BitVec IntKind.i64.bits) ^^^ BitVec.ofInt IntKind.i64.bits (-1)).toNat = 18446744073709551615 - (x % 18446744073709551616).toNat := by
    show ((BitVec.ofInt 64 x) ^^^ BitVec.ofInt 64 (-1)).toNat = _
    rw [show BitVec.ofInt 64 (-1) = BitVec.allOnes 64 from rfl, BitVec.xor_allOnes, BitVec.toNat_not, BitVec.toNat_ofInt]
    rfl
  show IntKind.i64.wrap _ = _
  simp only []
  rw [e2, IntKind.wrap_i64]
  omega

theorem u8_and127 (x : Int) (h₀ : 0 ≤ x) (h₁ : x < 256) : bits .and .u8 x 127 = x % 128 := bits_mask .u8 8 (by decide) wraps_u8 7 (by decide) x h₀ h₁
theorem u64_and1 (x : Int) (h₀ : 0 ≤ x) (h₁ : x < 18446744073709551616) : bits .and .u64 x 1 = x % 2 := bits_mask .u64 64 (by decide) wraps_u64 1 (by decide) x h₀ h₁

theorem bits_or_comm (k : IntKind) (x y : Int) : bits .or k x y = bits .or k y x := by
  simp only [bits, BitVec.or_comm]

theorem u8_or128' (q : Int) (h0 : 0 ≤ q) : bits .or .u8 (q % 256) 128 = q % 128 + 128 := by
  obtain ⟨a, rfl⟩ : ∃ a : Nat, q = a := ⟨q.toNat, by omega⟩
  have h := (bits_nat .u8 8 (by decide) wraps_u8 (a % 256) 128 (by omega) (by omega)).2
  have e : (a % 256 ||| 128 : Nat) = a % 128 + 128 := by
    have key : ∀ x : Fin 256, (x.val ||| 128 : Nat) = x.val % 128 + 128 := by decide +kernel
    have := key ⟨a % 256, by omega⟩
    simp only at this
    rw [this]; omega
  rw [e] at h
  have c1 : ((a % 256 : Nat) : Int) = (a : Int) % 256 := by omega
  have c2 : ((128 : Nat) : Int) = 128 := rfl
  rw [c1, c2] at h
  rw [h]; omega

/-- z |= d << (7k), where z has only lower bits. -/
theorem u64_or_shift (z d : Int) (k : Nat) (hk : k ≤ 9) (hz0 : 0 ≤ z) (hz : z < 2 ^ (7 * k)) (hd0 : 0 ≤ d) (hd9 : d * 2 ^ (7 * k) < 18446744073709551616) :
    bits .or .u64 z (d * 2 ^ (7 * k)) = z + d * 2 ^ (7 * k) := by
  have hp : (0 : Int) < 2 ^ (7 * k) := Int.pow_pos (by decide)
  have hle : (2 : Int) ^ (7 * k) ≤ 9223372036854775808 := by
    have : (2 : Int) ^ (7 * k) ≤ 2 ^ 63 := by
      have h := Nat.pow_le_pow_right (n := 2) (by decide) (show 7 * k ≤ 63 by omega)
      exact_mod_cast h
    simpa using this
  rw [bits_or_comm, bits_join .u64 64 (by decide) wraps_u64 (7 * k) _ _ (Int.mul_nonneg hd0 (by omega)) (by simp) (by simpa using hd9) hz0 hz (by
    have : (2 : Int) ^ 64 = 18446744073709551616 := by decide
    omega)]
  omega

end Go.Proofs.Ytnjopfjmepbpoaa

/- Plain: the encoding of integers, as wire and antiquaryref01 have it. -/
namespace Go.Proofs.Ytnjopfjmepbpoaa
set_option linter.unusedSimpArgs false
set_option linter.unusedVariables false
set_option linter.unnecessarySimpa false

def zig (n : Int) : Nat := if 0 ≤ n then (2 * n).toNat else (-2 * n - 1).toNat
def unzig (z : Int) : Int := if z % 2 = 0 then z / 2 else -1 - z / 2

theorem zig_lt (n : Int) (h1 : -9223372036854775808 ≤ n) (h2 : n ≤ 9223372036854775807) : zig n < 18446744073709551616 := by unfold zig; split <;> omega
theorem unzig_zig (n : Int) : unzig (zig n) = n := by unfold unzig zig; split <;> split <;> omega

def leb (z : Nat) : List Int := if z < 128 then [(z : Int)] else ((z % 128 + 128 : Nat) : Int) :: leb (z / 128)
decreasing_by omega

theorem leb_small (z : Nat) (h : z < 128) : leb z = [(z : Int)] := by rw [leb, if_pos h]
theorem leb_big (z : Nat) (h : 128 ≤ z) : leb z = ((z % 128 + 128 : Nat) : Int) :: leb (z / 128) := by rw [leb, if_neg (by omega)]

theorem leb_pos (z : Nat) : 1 ≤ (leb z).length := by rw [leb]; split <;> simp

theorem leb_len (k : Nat) : ∀ z, z < 128 ^ (k + 1) → (leb z).length ≤ k + 1 := by
  induction k with
  | zero => intro z h; rw [leb_small z (by simpa using h)]; simp
  | succ k ih =>
    intro z h
    by_cases g : z < 128
    · rw [leb_small z g]; simp
    · rw [leb_big z (by omega)]
      have := ih (z / 128) (by rw [Nat.pow_succ] at h; exact Nat.div_lt_of_lt_mul (by omega))
      simp; omega

def intB (n : Int) : List Int := leb (zig n)

theorem leb64 (z : Nat) (h : z < 18446744073709551616) : (leb z).length ≤ 10 := leb_len 9 z (by have : 128 ^ (9 + 1) = 1180591620717411303424 := rfl; omega)

/-- What GetInt does from the k-th byte on: the number, how many bytes it has, the error. -/
def getGo : List Int → Nat → Int → Int × Int × Int
  | [], _, _ => (0, 0, 10)
  | c :: r, k, z =>
    if (k = 9 ∧ 1 < c) ∨ (0 < k ∧ c = 0) then (0, 0, 11)
    else if c < 128 then (unzig (z + c % 128 * 2 ^ (7 * k)), (k : Int) + 1, 0)
    else getGo r (k + 1) (z + c % 128 * 2 ^ (7 * k))
def getI (bs : List Int) : Int × Int × Int := getGo bs 0 0

theorem getGo_drop (bs : List Int) (k : Nat) (c z : Int) (h : bs[k]? = some c) : getGo (bs.drop k) k z =
    if (k = 9 ∧ 1 < c) ∨ (0 < k ∧ c = 0) then (0, 0, 11) else if c < 128 then (unzig (z + c % 128 * 2 ^ (7 * k)), (k : Int) + 1, 0) else getGo (bs.drop (k+1)) (k + 1) (z + c % 128 * 2 ^ (7 * k)) := by
  obtain ⟨hk, rfl⟩ := List.getElem?_eq_some_iff.1 h
  rw [List.drop_eq_getElem_cons (by omega), getGo]

theorem getGo_end (bs : List Int) (k : Nat) (z : Int) (h : bs.length ≤ k) : getGo (bs.drop k) k z = (0, 0, 10) := by
  rw [List.drop_eq_nil_of_le h, getGo]

end Go.Proofs.Ytnjopfjmepbpoaa

/- The walks of wire and antiquaryref01: Int and GetInt. -/
namespace Go.Proofs.Ytnjopfjmepbpoaa
set_option linter.unusedSimpArgs false
set_option linter.unusedVariables false
set_option linter.unnecessarySimpa false
open Go.RowKit
theorem elemByte : Elem1 Try.prog 5 (.int .u8 0) 1 := ⟨by kernel_rfl, rfl⟩

/-- The call returns a new slice of bytes. -/
def MadeBytes (w : World) (bs : List Int) (e : Ending) (w' : World) : Prop :=
  ∃ v, e = .returned v ∧ Own w.heap.size 5 w' v (bs.map (Value.int .u8)) ∧ Below w.heap.size w w'

/-- A slice of bytes. -/
def Bytes (w : World) (v : Value) (bs : List Int) : Prop := Rd w v (bs.map (Value.int .u8))

theorem Bytes.open {w : World} {v : Value} {zs : List Int} (h : Bytes w v zs) : ∃ a cap b off, v = .slice a zs.length cap ∧ zs.length ≤ cap ∧ cap ≤ maxLen ∧
    (0 < zs.length → a = some ⟨b, off, none⟩) ∧ Hid (∀ (j : Nat) (x : Int), zs[j]? = some x → w.cell? ⟨b, off + j, none⟩ = some (.int .u8 x)) := by
  obtain ⟨a, cap, b, off, h1, h2, h3, h4, h5⟩ := h
  simp only [List.length_map] at h1 h2 h4
  exact ⟨a, cap, b, off, h1, h2, h3, h4, fun j x hx => h5 j _ (by simp [hx])⟩

def Byte (bs : List Int) : Prop := ∀ (k : Nat) (c : Int), bs[k]? = some c → 0 ≤ c ∧ c < 256

theorem zig_walk (n : Int) (h1 : -9223372036854775808 ≤ n) (h2 : n ≤ 9223372036854775807) :
    bits BinOp.xor IntKind.u64 (IntKind.u64.wrap (IntKind.u64.wrap n * 2)) (IntKind.u64.wrap (n / 9223372036854775808)) = zig n := by
  simp only [IntKind.wrap_u64]
  by_cases h : 0 ≤ n
  · have e : n / 9223372036854775808 % 18446744073709551616 = 0 := by omega
    rw [e, xor_u64_0 _ (by omega) (by omega)]; unfold zig; rw [if_pos h]; omega
  · have e : n / 9223372036854775808 % 18446744073709551616 = 18446744073709551615 := by omega
    rw [e, xor_u64_ones _ (by omega) (by omega)]; unfold zig; rw [if_neg h]; omega

set_option maxRecDepth 100000 in
set_option maxHeartbeats 400000 in
theorem wireInt (n : Int) (w : World) (h1 : -9223372036854775808 ≤ n) (h2 : n ≤ 9223372036854775807) : Calls Try.prog 75 #[.int .i64 n] w (MadeBytes w (intB n)) := by
  have hz := zig_lt n h1 h2
  have hlen := leb64 _ hz
  go_enter Try.func75, Try.ntmps75
  go_wp2
  go_loopw [3, 4] (fun z o wr => ∃ (q : Nat) (out : List Int), q < 18446744073709551616 ∧ z = .int .u64 q ∧ out.length ≤ 9 ∧ Own w.heap.size 5 wr o (out.map (Value.int .u8)) ∧ Below w.heap.size w wr ∧ Hid (intB n = out ++ leb q)) (fun z _ _ => (intOf z).toNat)
  case atStart => exact ⟨zig n, [], hz, by rw [zig_walk n h1 h2], by simp, Own.nil _ _ _, Below.refl _ _, rfl⟩
  case round =>
    obtain ⟨q, out, hq, rfl, ho, hown, hb, hh⟩ := hrel
    have HB := Hid.mk hb
    clear hb
    have hb2 := HB.out.size
    by_cases g : 127 < q
    · have H := Hid.mk (leb_big q (by omega))
      have hl : out.length + 1 ≤ 9 := by
        have e := congrArg List.length hh.out
        rw [H.out] at e
        have := leb_pos (q / 128)
        simp at e
        unfold intB at e
        omega
      have eor := u8_or128' q (by omega)
      go_wp2_with (at_builtin; refine wp_push (.tmp 16) (.tmp 20) 44 _ 5 1 _ elemByte rfl rfl Try.underlying44 w.heap.size _ _ _ rfl hown rfl rfl (by simp [maxLen]; omega) (by simp; omega) hb2 ?_; intro v' w' hown' hb')
      go_roundw
      case rel => exact ⟨q / 128, out ++ [((q % 128 + 128 : Nat) : Int)], by omega, by go_num, by simpa using hl, by simpa using hown', HB.out.trans hb', by rw [Hid, hh.out, H.out]; simp⟩
      case measure => simp [intOf]; omega
    · have H := Hid.mk (leb_small q (by omega))
      go_wp2_with (at_builtin; refine wp_push (.tmp 22) (.tmp 25) 44 _ 5 1 _ elemByte rfl rfl Try.underlying44 w.heap.size _ _ _ rfl hown rfl rfl (by simp [maxLen]; omega) (by simp; omega) hb2 ?_; intro v' w' hown' hb')
      go_ret
      exact ⟨_, rfl, by rw [hh.out, H.out]; simpa using hown', HB.out.trans hb'⟩

set_option maxRecDepth 100000 in
set_option maxHeartbeats 400000 in
theorem refInt (n : Int) (w : World) (h1 : -9223372036854775808 ≤ n) (h2 : n ≤ 9223372036854775807) : Calls Try.prog 95 #[.int .i64 n] w (MadeBytes w (intB n)) := by
  have hz := zig_lt n h1 h2
  have hlen := leb64 _ hz
  by_cases hn : n < 0
  all_goals
    go_enter Try.func95, Try.ntmps95
    go_wp2
    go_loopw [3, 4] (fun z o wr => ∃ (q : Nat) (out : List Int), q < 18446744073709551616 ∧ z = .int .u64 q ∧ out.length ≤ 9 ∧ Own w.heap.size 5 wr o (out.map (Value.int .u8)) ∧ Below w.heap.size w wr ∧ Hid (intB n = out ++ leb q)) (fun z _ _ => (intOf z).toNat)
    case atStart => exact ⟨zig n, [], hz, by congr 1; simp only [IntKind.wrap_u64, IntKind.wrap_i64, zig]; split <;> omega, by simp, Own.nil _ _ _, Below.refl _ _, rfl⟩
    case round =>
      obtain ⟨q, out, hq, rfl, ho, hown, hb, hh⟩ := hrel
      have HB := Hid.mk hb
      clear hb
      have hb2 := HB.out.size
      by_cases g : 127 < q
      · have H := Hid.mk (leb_big q (by omega))
        have hl : out.length + 1 ≤ 9 := by
          have e := congrArg List.length hh.out
          rw [H.out] at e
          have := leb_pos (q / 128)
          simp at e
          unfold intB at e
          omega
        go_wp2_with (at_builtin; refine wp_push (.tmp 17) (.tmp 22) 44 _ 5 1 _ elemByte rfl rfl Try.underlying44 w.heap.size _ _ _ rfl hown rfl rfl (by simp [maxLen]; omega) (by simp; omega) hb2 ?_; intro v' w' hown' hb')
        go_roundw
        case rel => exact ⟨q / 128, out ++ [((q % 128 + 128 : Nat) : Int)], by omega, by go_num, by simpa using hl, by simpa using hown', HB.out.trans hb', by rw [Hid, hh.out, H.out]; simp⟩
        case measure => simp [intOf]; omega
      · have H := Hid.mk (leb_small q (by omega))
        go_wp2_with (at_builtin; refine wp_push (.tmp 26) (.tmp 29) 44 _ 5 1 _ elemByte rfl rfl Try.underlying44 w.heap.size _ _ _ rfl hown rfl rfl (by simp [maxLen]; omega) (by simp; omega) hb2 ?_; intro v' w' hown' hb')
        go_ret
        exact ⟨_, rfl, by rw [hh.out, H.out]; simpa using hown', HB.out.trans hb'⟩

end Go.Proofs.Ytnjopfjmepbpoaa

/- The walk of wire.GetInt. -/
namespace Go.Proofs.Ytnjopfjmepbpoaa
set_option linter.unusedSimpArgs false
set_option linter.unusedVariables false
set_option linter.unnecessarySimpa false
open Go.RowKit

theorem unzig_walk (z : Int) (h0 : 0 ≤ z) (h1 : z < 18446744073709551616) : bits BinOp.xor IntKind.i64 (z / 2) (-(z % 2)) = unzig z := by
  unfold unzig
  by_cases h : z % 2 = 0
  · rw [if_pos h, h]; exact xor_i64_0 _ (by omega) (by omega)
  · rw [if_neg h, show z % 2 = 1 by omega]; exact xor_i64_ones _ (by omega) (by omega)

theorem or_walk (q c : Int) (k : Nat) (hk : k ≤ 9) (q0 : 0 ≤ q) (hq : q < 2 ^ (7 * k)) (c0 : 0 ≤ c) (c1 : c < 256) (c9 : k = 9 → c ≤ 1) :
    bits .or .u64 q (IntKind.u64.wrap (c % 128 * 2 ^ (7 * k))) = q + c % 128 * 2 ^ (7 * k) ∧ 0 ≤ q + c % 128 * 2 ^ (7 * k) ∧ q + c % 128 * 2 ^ (7 * k) < 18446744073709551616 ∧ q + c % 128 * 2 ^ (7 * k) < 2 ^ (7 * (k + 1)) := by
  have hp : (0 : Int) < 2 ^ (7 * k) := Int.pow_pos (by decide)
  have e7 : (2 : Int) ^ (7 * (k + 1)) = 128 * 2 ^ (7 * k) := by
    rw [show 7 * (k + 1) = 7 * k + 7 by omega, Int.pow_add, Int.mul_comm]; rfl
  have hd0 : 0 ≤ c % 128 := by omega
  have hd1 : c % 128 < 128 := by omega
  have hm : c % 128 * 2 ^ (7 * k) ≤ 127 * 2 ^ (7 * k) := Int.mul_le_mul_of_nonneg_right (by omega) (by omega)
  have hn : 0 ≤ c % 128 * 2 ^ (7 * k) := Int.mul_nonneg hd0 (by omega)
  have hlt : q + c % 128 * 2 ^ (7 * k) < 18446744073709551616 := by
    by_cases g : k = 9
    · subst g
      have : c % 128 ≤ 1 := by have := c9 rfl; omega
      have hm : c % 128 * 2 ^ (7 * 9) ≤ 1 * 2 ^ (7 * 9) := Int.mul_le_mul_of_nonneg_right this (by omega)
      have e : (2 : Int) ^ (7 * 9) = 9223372036854775808 := by decide
      rw [e] at *
      omega
    · have hle : (2 : Int) ^ (7 * k) ≤ 2 ^ 56 := by
        have h := Nat.pow_le_pow_right (n := 2) (by decide) (show 7 * k ≤ 56 by omega)
        exact_mod_cast h
      have e : (2 : Int) ^ 56 = 72057594037927936 := by decide
      rw [e] at hle
      omega
  have hw : IntKind.u64.wrap (c % 128 * 2 ^ (7 * k)) = c % 128 * 2 ^ (7 * k) := by rw [IntKind.wrap_u64]; omega
  refine ⟨by rw [hw]; exact u64_or_shift q _ k hk q0 hq hd0 (by omega), by omega, hlt, by rw [e7]; omega⟩

/-- The call returns three numbers, and the world is as it was. -/
def Ret3 (w : World) (r : Int × Int × Int) (e : Ending) (w' : World) : Prop :=
  e = .returned (.tuple #[.int .i64 r.1, .int .i64 r.2.1, .int .i64 r.2.2]) ∧ Still w w'

theorem Ret3.mk {w w' : World} {r : Int × Int × Int} {x y z : Int} (h : r = (x, y, z)) (hs : Still w w') : Ret3 w r (.returned (.tuple #[.int .i64 x, .int .i64 y, .int .i64 z])) w' := by
  subst h; exact ⟨rfl, hs⟩

set_option maxRecDepth 100000 in
set_option maxHeartbeats 1000000 in
theorem wireGetInt (v : Value) (bs : List Int) (w : World) (hv : Bytes w v bs) (hby : Byte bs) : Calls Try.prog 69 #[v] w (Ret3 w (getI bs)) := by
  obtain ⟨a, cap, b, off, rfl, hcap, hm, ha, hc⟩ := hv.open
  unfold maxLen at hm
  have HBY := Hid.mk hby
  clear hby
  go_enter Try.func69, Try.ntmps69
  go_wp2
  go_step3
  go_wp2
  go_step3
  go_wp2
  go_loop [5, 6, 11] (fun z u i => ∃ (k : Nat) (q : Int), k ≤ 9 ∧ k ≤ bs.length ∧ 0 ≤ q ∧ Hid (q < 2 ^ (7 * k)) ∧ z = .int .u64 q ∧ u = .int .i64 0 ∧ i = .int .i64 k ∧ Hid (getI bs = getGo (bs.drop k) k q)) (fun _ _ i => bs.length - (intOf i).toNat)
  case atStart => exact ⟨0, 0, by omega, by omega, by omega, by simp [Hid], rfl, rfl, rfl, rfl⟩
  case round =>
    obtain ⟨k, q, hk9, hk, hq0, hq, rfl, rfl, rfl, hh⟩ := hrel
    by_cases hlt : k < bs.length
    · obtain ⟨c, hcc⟩ := ints_get bs k hlt
      have c1 := hc.out k c hcc
      obtain ⟨y1, y2⟩ := HBY.out k c hcc
      obtain rfl := ha (by omega)
      have H := Hid.mk (getGo_drop bs k c q hcc)
      clear ha hcc
      have e127 := u8_and127 c y1 y2
      have bad : Hid ((k = 9 ∧ 1 < c) ∨ (0 < k ∧ c = 0) → getI bs = (0, 0, 11)) := fun h => by rw [hh.out, H.out, if_pos h]
      by_cases g1 : k = 9 ∧ 1 < c
      · obtain ⟨rfl, g1⟩ := g1
        have B := Hid.mk (bad.out (.inl ⟨rfl, g1⟩))
        go_wp2
        go_ret3
        exact Ret3.mk B.out (Still.refl _)
      · by_cases g2 : 0 < k ∧ c = 0
        · obtain ⟨g2, rfl⟩ := g2
          have B := Hid.mk (bad.out (.inr ⟨g2, rfl⟩))
          have g1' : decide ((1 : Int) < 0) = false := rfl
          by_cases g9 : ((k : Int) == 9) = true
          all_goals
            go_wp2
            go_ret3
            exact Ret3.mk B.out (Still.refl _)
        · obtain ⟨o1, o2, o3, o4⟩ := or_walk q c k hk9 hq0 hq.out y1 y2 (by omega)
          have H2 : Hid (getI bs = if c < 128 then (unzig (q + c % 128 * 2 ^ (7 * k)), (k : Int) + 1, 0) else getGo (bs.drop (k+1)) (k + 1) (q + c % 128 * 2 ^ (7 * k))) := by
            rw [Hid, hh.out, H.out, if_neg (by omega)]
          clear hh H bad
          generalize q + c % 128 * 2 ^ (7 * k) = z' at o1 o2 o3 o4 H2
          have O4 := Hid.mk o4
          clear o4
          have eand := u64_and1 z' o2 o3
          have eun := unzig_walk z' o2 o3
          have d1 : Hid (((k : Int) == 9) = true → decide (1 < c) = false) := fun h => by simp at h ⊢; omega
          have d2 : Hid (decide (0 < (k : Int)) = true → (c == 0) = false) := fun h => by simp at h ⊢; omega
          cases g9 : ((k : Int) == 9)
          all_goals cases gk : decide (0 < (k : Int))
          all_goals try have d1' := d1.out g9
          all_goals try have d2' := d2.out gk
          all_goals clear d1 d2
          all_goals by_cases g4 : c < 128
          all_goals go_wp2
          all_goals first
            | (go_ret3
               exact Ret3.mk (by rw [H2.out, if_pos (by omega)]) (Still.refl _))
            | (go_round
               case rel => exact ⟨k + 1, z', by omega, by omega, o2, O4.out, rfl, rfl, by go_num, by rw [Hid, H2.out, if_neg (by omega)]⟩
               case measure => simp [intOf]; omega)
    · have B : Hid (getI bs = (0, 0, 10)) := by rw [Hid, hh.out, getGo_end _ _ _ (by omega)]
      go_wp2
      go_ret3
      exact Ret3.mk B.out (Still.refl _)
end Go.Proofs.Ytnjopfjmepbpoaa

/- Plain: the value of digits, for antiquaryref01.GetInt. -/
namespace Go.Proofs.Ytnjopfjmepbpoaa
set_option linter.unusedSimpArgs false
set_option linter.unusedVariables false
set_option linter.unnecessarySimpa false

def val : List Int → Int
  | [] => 0
  | d :: r => d % 128 + 128 * val r

theorem pow7 (k : Nat) : (2 : Int) ^ (7 * (k + 1)) = 128 * 2 ^ (7 * k) := by
  rw [show 7 * (k + 1) = 7 * k + 7 by omega, Int.pow_add, Int.mul_comm]; rfl

theorem val_snoc (c : Int) : ∀ (l : List Int), val (l ++ [c]) = val l + c % 128 * 2 ^ (7 * l.length)
  | [] => by simp [val]
  | d :: r => by
    have := val_snoc c r
    simp only [List.cons_append, val, this, List.length_cons, pow7]
    rw [Int.mul_add, ← Int.mul_assoc, ← Int.mul_assoc, Int.mul_comm 128 (c % 128)]
    omega

theorem val_take (bs : List Int) (k : Nat) (c : Int) (h : bs[k]? = some c) : val (bs.take (k+1)) = val (bs.take k) + c % 128 * 2 ^ (7 * k) := by
  obtain ⟨hk, _⟩ := List.getElem?_eq_some_iff.1 h
  rw [List.take_add_one, h, Option.toList, val_snoc, List.length_take, Nat.min_eq_left (by omega)]

theorem val_lt : ∀ (l : List Int), 0 ≤ val l ∧ val l < 2 ^ (7 * l.length)
  | [] => by simp [val]
  | d :: r => by
    have := val_lt r
    simp only [val, List.length_cons, pow7]
    omega

theorem val_last (l : List Int) (c : Int) (h : c % 128 ≤ 1) : val (l ++ [c]) < 2 * 2 ^ (7 * l.length) := by
  rw [val_snoc]
  have h1 := val_lt l
  have hp : (0 : Int) < 2 ^ (7 * l.length) := Int.pow_pos (by decide)
  have hm : c % 128 * 2 ^ (7 * l.length) ≤ 1 * 2 ^ (7 * l.length) := Int.mul_le_mul_of_nonneg_right h (by omega)
  omega

/-- All values on the way are less than 2^64. -/
theorem val_fits (bs : List Int) (k i : Nat) (c : Int) (h : bs[k]? = some c) (hk : k ≤ 9) (hi : i ≤ k + 1) (h9 : k = 9 → c ≤ 1) (hc : 0 ≤ c) : 0 ≤ val ((bs.take (k+1)).drop i) ∧ val ((bs.take (k+1)).drop i) < 18446744073709551616 := by
  refine ⟨(val_lt _).1, ?_⟩
  obtain ⟨hlt, _⟩ := List.getElem?_eq_some_iff.1 h
  by_cases g : k = 9
  · by_cases hik : i = k + 1
    · rw [List.drop_eq_nil_of_le (by simp; omega)]; simp [val]
    · have e : (bs.take (k+1)).drop i = (bs.take k).drop i ++ [c] := by
        rw [List.take_add_one, h, Option.toList, List.drop_append_of_le_length (by simp; omega)]
      have hl : ((bs.take k).drop i).length ≤ 9 := by simp; omega
      rw [e]
      have h1 := val_last ((bs.take k).drop i) c (by have := h9 g; omega)
      have hle : (2 : Int) ^ (7 * ((bs.take k).drop i).length) ≤ 2 ^ 63 := by
        have h := Nat.pow_le_pow_right (n := 2) (by decide) (show 7 * ((bs.take k).drop i).length ≤ 63 by omega)
        exact_mod_cast h
      have e2 : (2 : Int) ^ 63 = 9223372036854775808 := by decide
      omega
  · have h1 := (val_lt ((bs.take (k+1)).drop i)).2
    have hl : ((bs.take (k+1)).drop i).length ≤ 9 := by simp; omega
    have hle : (2 : Int) ^ (7 * ((bs.take (k+1)).drop i).length) ≤ 2 ^ 63 := by
      have h := Nat.pow_le_pow_right (n := 2) (by decide) (show 7 * ((bs.take (k+1)).drop i).length ≤ 63 by omega)
      exact_mod_cast h
    have e2 : (2 : Int) ^ 63 = 9223372036854775808 := by decide
    omega

theorem val_step (bs : List Int) (k i : Nat) (c : Int) (hi : i ≤ k) (h : bs[i]? = some c) : val ((bs.take (k+1)).drop i) = c % 128 + 128 * val ((bs.take (k+1)).drop (i+1)) := by
  obtain ⟨hlt, e⟩ := List.getElem?_eq_some_iff.1 h
  rw [List.drop_eq_getElem_cons (by simp; omega), val]
  simp [e]

/-- After k bytes that are not the last ones. -/
theorem getI_lead (bs : List Int) : ∀ k, k ≤ 9 → (∀ (j : Nat) (c : Int), j < k → bs[j]? = some c → 128 ≤ c) → k ≤ bs.length → getI bs = getGo (bs.drop k) k (val (bs.take k))
  | 0, _, _, _ => rfl
  | k + 1, hk, hall, hl => by
    obtain ⟨c, hc⟩ : ∃ c, bs[k]? = some c := ⟨bs[k], by simp⟩
    have h1 := hall k c (by omega) hc
    rw [getI_lead bs k (by omega) (fun j d hj => hall j d (by omega)) (by omega), getGo_drop bs k c _ hc, if_neg (by omega), if_neg (by omega), val_take bs k c hc]

theorem getI_ten (bs : List Int) (hall : ∀ (j : Nat) (c : Int), j < 10 → bs[j]? = some c → 128 ≤ c) (hl : 10 ≤ bs.length) : getI bs = (0, 0, 11) := by
  obtain ⟨c, hc⟩ : ∃ c, bs[9]? = some c := ⟨bs[9], by simp⟩
  rw [getI_lead bs 9 (by omega) (fun j d hj => hall j d (by omega)) (by omega), getGo_drop bs 9 c _ hc, if_pos]
  left; have := hall 9 c (by omega) hc; omega

theorem getI_short (bs : List Int) (k : Nat) (hk : k ≤ 9) (hall : ∀ (j : Nat) (c : Int), j < k → bs[j]? = some c → 128 ≤ c) (hl : bs.length = k) : getI bs = (0, 0, 10) := by
  rw [getI_lead bs k hk hall (by omega), getGo_end _ _ _ (by omega)]

theorem getI_bad (bs : List Int) (k : Nat) (c : Int) (hk : k ≤ 9) (hall : ∀ (j : Nat) (c : Int), j < k → bs[j]? = some c → 128 ≤ c) (hc : bs[k]? = some c) (h : (k = 9 ∧ 1 < c) ∨ (0 < k ∧ c = 0)) : getI bs = (0, 0, 11) := by
  obtain ⟨hlt, _⟩ := List.getElem?_eq_some_iff.1 hc
  rw [getI_lead bs k hk hall (by omega), getGo_drop bs k c _ hc, if_pos h]

theorem getI_good (bs : List Int) (k : Nat) (c : Int) (hk : k ≤ 9) (hall : ∀ (j : Nat) (c : Int), j < k → bs[j]? = some c → 128 ≤ c) (hc : bs[k]? = some c) (h : ¬ ((k = 9 ∧ 1 < c) ∨ (0 < k ∧ c = 0))) (h1 : c < 128) :
    getI bs = (unzig (val (bs.take (k+1))), (k : Int) + 1, 0) := by
  obtain ⟨hlt, _⟩ := List.getElem?_eq_some_iff.1 hc
  rw [getI_lead bs k hk hall (by omega), getGo_drop bs k c _ hc, if_neg h, if_pos h1, val_take bs k c hc]

end Go.Proofs.Ytnjopfjmepbpoaa

/- The walk of antiquaryref01.GetInt. -/
namespace Go.Proofs.Ytnjopfjmepbpoaa
set_option linter.unusedSimpArgs false
set_option linter.unusedVariables false
set_option linter.unnecessarySimpa false
open Go.RowKit
end Go.Proofs.Ytnjopfjmepbpoaa

/- Plain: lists of integers, encoded. -/
namespace Go.Proofs.Ytnjopfjmepbpoaa
set_option linter.unusedSimpArgs false
set_option linter.unusedVariables false
set_option linter.unnecessarySimpa false

theorem getGo_ok : ∀ (l : List Int) (k : Nat) (z : Int), k ≤ 9 → 0 ≤ z → z < 2 ^ (7 * k) → (∀ c ∈ l, 0 ≤ c ∧ c < 256) → (getGo l k z).2.2 = 0 →
    (k : Int) + 1 ≤ (getGo l k z).2.1 ∧ (getGo l k z).2.1 ≤ k + l.length ∧ -9223372036854775808 ≤ (getGo l k z).1 ∧ (getGo l k z).1 ≤ 9223372036854775807
  | [], k, z, _, _, _, _, h => by simp [getGo] at h
  | c :: r, k, z, hk, h0, hz, hby, h => by
    rw [getGo] at h ⊢
    by_cases g : (k = 9 ∧ 1 < c) ∨ (0 < k ∧ c = 0)
    · rw [if_pos g] at h; simp at h
    · rw [if_neg g] at h ⊢
      obtain ⟨c0, c1⟩ := hby c (by simp)
      have hp : (0 : Int) < 2 ^ (7 * k) := Int.pow_pos (by decide)
      have hn : 0 ≤ c % 128 * 2 ^ (7 * k) := Int.mul_nonneg (by omega) (by omega)
      have hm : c % 128 * 2 ^ (7 * k) ≤ 127 * 2 ^ (7 * k) := Int.mul_le_mul_of_nonneg_right (by omega) (by omega)
      by_cases g2 : c < 128
      · rw [if_pos g2] at h ⊢
        simp only at h ⊢
        have hlt : z + c % 128 * 2 ^ (7 * k) < 18446744073709551616 := by
          by_cases g9 : k = 9
          · subst g9
            have hm : c % 128 * 2 ^ (7 * 9) ≤ 1 * 2 ^ (7 * 9) := Int.mul_le_mul_of_nonneg_right (by omega) (by omega)
            have e : (2 : Int) ^ (7 * 9) = 9223372036854775808 := by decide
            rw [e] at *
            omega
          · have hle : (2 : Int) ^ (7 * k) ≤ 2 ^ 56 := by
              have h := Nat.pow_le_pow_right (n := 2) (by decide) (show 7 * k ≤ 56 by omega)
              exact_mod_cast h
            have e : (2 : Int) ^ 56 = 72057594037927936 := by decide
            rw [e] at hle
            omega
        have hnn : 0 ≤ z + c % 128 * 2 ^ (7 * k) := by omega
        generalize z + c % 128 * 2 ^ (7 * k) = q at *
        refine ⟨by omega, by simp; omega, ?_, ?_⟩ <;> (unfold unzig; split <;> omega)
      · rw [if_neg g2] at h ⊢
        have ih := getGo_ok r (k + 1) (z + c % 128 * 2 ^ (7 * k)) (by omega) (by omega) (by rw [pow7]; omega) (fun d hd => hby d (by simp [hd])) h
        simp only [List.length_cons]
        omega

theorem getI_ok (l : List Int) (hby : ∀ c ∈ l, 0 ≤ c ∧ c < 256) (h : (getI l).2.2 = 0) :
    1 ≤ (getI l).2.1 ∧ (getI l).2.1 ≤ l.length ∧ -9223372036854775808 ≤ (getI l).1 ∧ (getI l).1 ≤ 9223372036854775807 := by
  have := getGo_ok l 0 0 (by omega) (by omega) (by simp) hby h
  unfold getI; omega

theorem getGo_err : ∀ (l : List Int) (k : Nat) (z : Int), (getGo l k z).2.2 = 0 ∨ (getGo l k z).2.2 = 10 ∨ (getGo l k z).2.2 = 11
  | [], k, z => by simp [getGo]
  | c :: r, k, z => by
    rw [getGo]
    split
    · simp
    · split
      · simp
      · exact getGo_err r _ _

/-- The length of a list whose elements have at least so many bytes. -/
def lenL (bs : List Int) (least : Int) : Int × Int × Int :=
  if (getI bs).2.2 ≠ 0 then (0, 0, (getI bs).2.2)
  else if (getI bs).1 < 0 then (0, 0, 11)
  else if (bs.length - (getI bs).2.1) / least < (getI bs).1 then (0, 0, 10)
  else ((getI bs).1, (getI bs).2.1, 0)

theorem lenL_ok (bs : List Int) (least : Int) (hby : ∀ c ∈ bs, 0 ≤ c ∧ c < 256) (h : (lenL bs least).2.2 = 0) :
    0 ≤ (lenL bs least).1 ∧ 1 ≤ (lenL bs least).2.1 ∧ (lenL bs least).2.1 ≤ bs.length ∧ (lenL bs least).1 ≤ (bs.length - (lenL bs least).2.1) / least := by
  unfold lenL at *
  by_cases h1 : (getI bs).2.2 ≠ 0
  · rw [if_pos h1] at h; exact absurd h h1
  · rw [if_neg h1] at h ⊢
    have := getI_ok bs hby (by simpa using h1)
    by_cases h2 : (getI bs).1 < 0
    · rw [if_pos h2] at h; simp at h
    · rw [if_neg h2] at h ⊢
      by_cases h3 : (bs.length - (getI bs).2.1) / least < (getI bs).1
      · rw [if_pos h3] at h; simp at h
      · rw [if_neg h3] at h ⊢
        simp only
        omega

/-- n integers, from the beginning of bytes on: them, their bytes, the error. -/
def getN : Nat → List Int → List Int × Int × Int
  | 0, _ => ([], 0, 0)
  | n + 1, bs =>
    if (getI bs).2.2 ≠ 0 then ([], 0, (getI bs).2.2)
    else if (getN n (bs.drop (getI bs).2.1.toNat)).2.2 ≠ 0 then ([], 0, (getN n (bs.drop (getI bs).2.1.toNat)).2.2)
    else ((getI bs).1 :: (getN n (bs.drop (getI bs).2.1.toNat)).1, (getI bs).2.1 + (getN n (bs.drop (getI bs).2.1.toNat)).2.1, 0)

/-- What follows some elements and some bytes. -/
def andThen (out : List Int) (at_ : Int) (s : List Int × Int × Int) : List Int × Int × Int :=
  if s.2.2 ≠ 0 then ([], 0, s.2.2) else (out ++ s.1, at_ + s.2.1, 0)

def getInts (bs : List Int) : List Int × Int × Int :=
  if (lenL bs 1).2.2 ≠ 0 then ([], 0, (lenL bs 1).2.2) else andThen [] (lenL bs 1).2.1 (getN (lenL bs 1).1.toNat (bs.drop (lenL bs 1).2.1.toNat))

theorem andThen_err (out : List Int) (at_ : Int) (n : Nat) (bs : List Int) (r : Int × Int × Int) (hr : getI bs = r) (h : r.2.2 ≠ 0) : andThen out at_ (getN (n + 1) bs) = ([], 0, r.2.2) := by
  subst hr
  simp [andThen, getN, h]
theorem andThen_step (out : List Int) (at_ : Int) (n : Nat) (bs : List Int) (r : Int × Int × Int) (hr : getI bs = r) (h : r.2.2 = 0) :
    andThen out at_ (getN (n + 1) bs) = andThen (out ++ [r.1]) (at_ + r.2.1) (getN n (bs.drop r.2.1.toNat)) := by
  subst hr
  by_cases g : (getN n (bs.drop (getI bs).2.1.toNat)).2.2 = 0
  · simp [andThen, getN, h, g]; omega
  · simp [andThen, getN, h, g]
theorem andThen_done (out : List Int) (at_ : Int) (bs : List Int) : andThen out at_ (getN 0 bs) = (out, at_, 0) := by simp [andThen, getN]

/-- The bytes of a list. -/
def intsB (l : List Int) : List Int := intB l.length ++ (l.map intB).flatten

theorem intB_len (n : Int) (h1 : -9223372036854775808 ≤ n) (h2 : n ≤ 9223372036854775807) : 1 ≤ (intB n).length ∧ (intB n).length ≤ 10 := ⟨leb_pos _, leb64 _ (zig_lt n h1 h2)⟩

theorem flat_len (l : List Int) (h : ∀ z ∈ l, -9223372036854775808 ≤ z ∧ z ≤ 9223372036854775807) : ((l.map intB).flatten).length ≤ 10 * l.length := by
  induction l with
  | nil => simp
  | cons a r ih =>
    have h1 := intB_len a (h a (by simp)).1 (h a (by simp)).2
    have h2 := ih (fun z hz => h z (by simp [hz]))
    simp only [List.map_cons, List.flatten_cons, List.length_append, List.length_cons]
    omega
theorem flat_take (l : List Int) (k : Nat) (a : Int) (h : l[k]? = some a) : ((l.take (k+1)).map intB).flatten = ((l.take k).map intB).flatten ++ intB a := by
  rw [List.take_add_one, h]; simp

end Go.Proofs.Ytnjopfjmepbpoaa

/- The walks of wire and antiquaryref01: length, Ints. -/
namespace Go.Proofs.Ytnjopfjmepbpoaa
set_option linter.unusedSimpArgs false
set_option linter.unusedVariables false
set_option linter.unnecessarySimpa false
open Go.RowKit

theorem Byte.all {bs : List Int} (h : Byte bs) : ∀ c ∈ bs, 0 ≤ c ∧ c < 256 := by
  intro c hc
  obtain ⟨k, hk⟩ := List.getElem?_of_mem hc
  exact h k c hk
theorem Byte.of {bs : List Int} (h : ∀ c ∈ bs, 0 ≤ c ∧ c < 256) : Byte bs := fun _ c hk => h c (List.mem_of_getElem? hk)

set_option maxRecDepth 100000 in
set_option maxHeartbeats 1000000 in
theorem wireLength (v : Value) (bs : List Int) (least : Int) (w : World) (hv : Bytes w v bs) (hby : Byte bs) (hl : 1 ≤ least) (hl2 : least ≤ 1000) : Calls Try.prog 93 #[v, .int .i64 least] w (Ret3 w (lenL bs least)) := by
  obtain ⟨a, cap, b, off, hvv, hcap, hm, -⟩ := hv.open
  unfold maxLen at hm
  have ok := Hid.mk (getI_ok bs hby.all)
  obtain ⟨n, u, er, hr⟩ : ∃ n u er, getI bs = (n, u, er) := ⟨_, _, _, rfl⟩
  have L : Hid (lenL bs least = if er ≠ 0 then (0, 0, er) else if n < 0 then (0, 0, 11) else if (bs.length - u) / least < n then (0, 0, 10) else (n, u, 0)) := by
    rw [Hid, lenL, hr]
  have HR := Hid.mk hr
  rw [hr] at ok
  clear hr
  subst hvv
  by_cases g : er = 0
  · obtain rfl := g
    obtain ⟨o1, o2, o3, o4⟩ := ok.out rfl
    simp only at o1 o2 o3 o4
    by_cases g1 : n < 0
    · have L2 : Hid (lenL bs least = (0, 0, 11)) := by rw [Hid, L.out, if_neg (by simp), if_pos g1]
      go_enter Try.func93, Try.ntmps93
      go_wp2_with (go_at_call 69; refine (wireGetInt _ bs _ hv hby).mono ?_; rintro e w' ⟨rfl, k, rfl⟩; rw [HR.out])
      go_ret3
      exact Ret3.mk L2.out (Still.one _ _)
    · by_cases g2 : (bs.length - u) / least < n
      · have L2 : Hid (lenL bs least = (0, 0, 10)) := by rw [Hid, L.out, if_neg (by simp), if_neg g1, if_pos g2]
        go_enter Try.func93, Try.ntmps93
        go_wp2_with (go_at_call 69; refine (wireGetInt _ bs _ hv hby).mono ?_; rintro e w' ⟨rfl, k, rfl⟩; rw [HR.out])
        go_ret3
        exact Ret3.mk L2.out (Still.one _ _)
      · have L2 : Hid (lenL bs least = (n, u, 0)) := by rw [Hid, L.out, if_neg (by simp), if_neg g1, if_neg g2]
        go_enter Try.func93, Try.ntmps93
        go_wp2_with (go_at_call 69; refine (wireGetInt _ bs _ hv hby).mono ?_; rintro e w' ⟨rfl, k, rfl⟩; rw [HR.out])
        go_ret3
        exact Ret3.mk L2.out (Still.one _ _)
  · have g' : (er == 0) = false := by simpa using g
    have L2 : Hid (lenL bs least = (0, 0, er)) := by rw [Hid, L.out, if_pos g]
    go_enter Try.func93, Try.ntmps93
    go_wp2_with (go_at_call 69; refine (wireGetInt _ bs _ hv hby).mono ?_; rintro e w' ⟨rfl, k, rfl⟩; rw [HR.out])
    go_ret3
    exact Ret3.mk L2.out (Still.one _ _)

/-- All numbers fit into 64 bits. -/
def Fit (l : List Int) : Prop := ∀ z ∈ l, -9223372036854775808 ≤ z ∧ z ≤ 9223372036854775807

theorem oneCells (k : IntKind) (l : List Int) : ∀ c ∈ l.map (Value.int k), c.oneCell' = true := by
  intro c hc
  obtain ⟨_, _, rfl⟩ := List.mem_map.1 hc
  rfl

theorem callInt (args : Array Value) (w : World) : (callFunc 75 args).run Try.prog w = .ok (.enter 75 args) w := by kernel_rfl

set_option maxRecDepth 100000 in
set_option maxHeartbeats 1000000 in
theorem wireList (v : Value) (zs : List Int) (w : World) (hv : Ints w v zs) (hf : Fit zs) (hl : zs.length ≤ 1000000000) : Calls Try.prog 74 #[v, .func (.func 75) #[] #[]] w (MadeBytes w (intsB zs)) := by
  obtain ⟨a, cap, b, off, rfl, hcap, hm, ha, hc⟩ := hv.open
  have HF := Hid.mk hf
  have hl0 := intB_len zs.length (by omega) (by omega)
  go_enter Try.func74, Try.ntmps74
  go_wp2_with (go_at_call 75; refine (wireInt _ _ (by omega) (by omega)).mono ?_; rintro e w1 ⟨v1, rfl, ho1, hb1⟩)
  go_loopw [5, 13] (fun o i wr => ∃ k : Nat, k ≤ zs.length ∧ i = .int .i64 k ∧ Own w.heap.size 5 wr o ((intB zs.length ++ ((zs.take k).map intB).flatten).map (Value.int .u8)) ∧ Below w.heap.size w wr) (fun _ i _ => zs.length - (intOf i).toNat)
  case atStart => exact ⟨0, by omega, rfl, by simpa using ho1, hb1⟩
  case round =>
    obtain ⟨k, hk, rfl, hown, hb⟩ := hrel
    have HB := Hid.mk hb
    clear hb
    have hb2 := HB.out.size
    by_cases hlt : k < zs.length
    · obtain ⟨y, hy⟩ := ints_get zs k hlt
      have c1 := below_cell HB.out (hc.out k y hy)
      obtain ⟨y1, y2⟩ := HF.out y (List.mem_of_getElem? hy)
      have hl1 := intB_len y y1 y2
      have hl2 := flat_len (zs.take k) (fun z hz => HF.out z (List.mem_of_mem_take hz))
      have hl3 : (zs.take k).length ≤ zs.length := by rw [List.length_take]; omega
      obtain rfl := ha (by omega)
      have T := Hid.mk (flat_take zs k y hy)
      clear ha hy
      go_wp2_with (first | (at_builtin; refine wp_append (.tmp 17) (.tmp 20) 44 5 1 _ elemByte rfl rfl Try.underlying44 w.heap.size _ _ _ _ rfl (hown.kept hb3) rfl ho3.rd (by simp only [List.length_map]; omega) (oneCells _ _) (by simp only [List.length_map, List.length_append, maxLen]; omega) (by simp only [List.length_map, List.length_append]; omega) (by have := hb3.size; omega) ?_; intro v' w' hown' hb') | (go_at_call 75; refine (wireInt _ _ y1 y2).mono ?_; rintro e w3 ⟨v3, rfl, ho3, hb3⟩))
      go_roundw
      case rel => exact ⟨k + 1, by omega, by go_num, by rw [T.out, ← List.append_assoc, List.map_append]; exact hown', (HB.out.trans (hb3.mono hb2)).trans hb'⟩
      case measure => simp [intOf]; omega
    · have e : zs.take k = zs := List.take_of_length_le (by omega)
      rw [e] at hown
      go_wp2
      go_ret
      exact ⟨_, rfl, hown, HB.out⟩

theorem wireInts (v : Value) (zs : List Int) (w : World) (hv : Ints w v zs) (hf : Fit zs) (hl : zs.length ≤ 1000000000) : Calls Try.prog 53 #[v] w (MadeBytes w (intsB zs)) := by
  go_enter Try.func53, Try.ntmps53
  go_wp2_with (go_at_call 74; refine (wireList _ zs _ hv hf hl).mono ?_; rintro e w1 ⟨v1, rfl, ho1, hb1⟩)
  go_ret
  exact ⟨_, rfl, ho1, hb1⟩

set_option maxRecDepth 100000 in
set_option maxHeartbeats 1000000 in
theorem refInts (v : Value) (zs : List Int) (w : World) (hv : Ints w v zs) (hf : Fit zs) (hl : zs.length ≤ 1000000000) : Calls Try.prog 91 #[v] w (MadeBytes w (intsB zs)) := by
  obtain ⟨a, cap, b, off, rfl, hcap, hm, ha, hc⟩ := hv.open
  have HF := Hid.mk hf
  have hl0 := intB_len zs.length (by omega) (by omega)
  go_enter Try.func91, Try.ntmps91
  go_wp2_with (go_at_call 95; refine (refInt _ _ (by omega) (by omega)).mono ?_; rintro e w1 ⟨v1, rfl, ho1, hb1⟩)
  go_loopw [3, 4] (fun o i wr => ∃ k : Nat, k ≤ zs.length ∧ i = .int .i64 k ∧ Own w.heap.size 5 wr o ((intB zs.length ++ ((zs.take k).map intB).flatten).map (Value.int .u8)) ∧ Below w.heap.size w wr) (fun _ i _ => zs.length - (intOf i).toNat)
  case atStart => exact ⟨0, by omega, rfl, by simpa using ho1, hb1⟩
  case round =>
    obtain ⟨k, hk, rfl, hown, hb⟩ := hrel
    have HB := Hid.mk hb
    clear hb
    have hb2 := HB.out.size
    by_cases hlt : k < zs.length
    · obtain ⟨y, hy⟩ := ints_get zs k hlt
      have c1 := below_cell HB.out (hc.out k y hy)
      obtain ⟨y1, y2⟩ := HF.out y (List.mem_of_getElem? hy)
      have hl1 := intB_len y y1 y2
      have hl2 := flat_len (zs.take k) (fun z hz => HF.out z (List.mem_of_mem_take hz))
      have hl3 : (zs.take k).length ≤ zs.length := by rw [List.length_take]; omega
      obtain rfl := ha (by omega)
      have T := Hid.mk (flat_take zs k y hy)
      clear ha hy
      go_wp2_with (first | (at_builtin; refine wp_append (.tmp 14) (.tmp 19) 44 5 1 _ elemByte rfl rfl Try.underlying44 w.heap.size _ _ _ _ rfl (hown.kept hb3) rfl ho3.rd (by simp only [List.length_map]; omega) (oneCells _ _) (by simp only [List.length_map, List.length_append, maxLen]; omega) (by simp only [List.length_map, List.length_append]; omega) (by have := hb3.size; omega) ?_; intro v' w' hown' hb') | (go_at_call 95; refine (refInt _ _ y1 y2).mono ?_; rintro e w3 ⟨v3, rfl, ho3, hb3⟩))
      go_roundw
      case rel => exact ⟨k + 1, by omega, by go_num, by rw [T.out, ← List.append_assoc, List.map_append]; exact hown', (HB.out.trans (hb3.mono hb2)).trans hb'⟩
      case measure => simp [intOf]; omega
    · have e : zs.take k = zs := List.take_of_length_le (by omega)
      rw [e] at hown
      go_wp2
      go_ret
      exact ⟨_, rfl, hown, HB.out⟩

end Go.Proofs.Ytnjopfjmepbpoaa

/- Element types. -/
namespace Go.Proofs.Ytnjopfjmepbpoaa
set_option linter.unusedSimpArgs false
set_option linter.unusedVariables false
set_option linter.unnecessarySimpa false
open Go.RowKit

theorem elemInt : Elem1 Try.prog 3 (.int .i64 0) 8 := ⟨by kernel_rfl, rfl⟩
end Go.Proofs.Ytnjopfjmepbpoaa

/- The walks of wire and antiquaryref01: GetInts. -/
namespace Go.Proofs.Ytnjopfjmepbpoaa
set_option linter.unusedSimpArgs false
set_option linter.unusedVariables false
set_option linter.unnecessarySimpa false
open Go.RowKit

/-- The call returns a new list, and two numbers. -/
def MadeIntsN (w : World) (r : List Int × Int × Int) (e : Ending) (w' : World) : Prop :=
  ∃ v, e = .returned (.tuple #[v, .int .i64 r.2.1, .int .i64 r.2.2]) ∧ Own w.heap.size 3 w' v (r.1.map (Value.int .i64)) ∧ Below w.heap.size w w'
theorem MadeIntsN.mk {w w' : World} {r : List Int × Int × Int} {l : List Int} {x y : Int} {v : Value} (h : r = (l, x, y)) (ho : Own w.heap.size 3 w' v (l.map (Value.int .i64))) (hb : Below w.heap.size w w') :
    MadeIntsN w r (.returned (.tuple #[v, .int .i64 x, .int .i64 y])) w' := by
  subst h; exact ⟨v, rfl, ho, hb⟩

theorem Bytes.dropAt {w : World} {bs : List Int} {cap b off m : Nat} (hcap : bs.length ≤ cap) (hm : cap ≤ maxLen) (hc : ∀ (j : Nat) (x : Int), bs[j]? = some x → w.cell? ⟨b, off + j, none⟩ = some (.int .u8 x)) (hle : m ≤ bs.length) :
    Bytes w (.slice (some ⟨b, off + m, none⟩) (bs.length - m) (cap - m)) (bs.drop m) := by
  refine ⟨_, cap - m, b, off + m, by simp, by simp; omega, by omega, fun _ => rfl, fun j u hu => ?_⟩
  rw [List.getElem?_map, List.getElem?_drop] at hu
  obtain ⟨x, hx, rfl⟩ := Option.map_eq_some_iff.1 hu
  rw [Nat.add_assoc]; exact hc _ _ hx
theorem Bytes.dropEnd {w : World} {bs : List Int} {a : Option Addr} {c m : Nat} (hm : m = bs.length) (hc : c ≤ maxLen) :
    Bytes w (.slice a 0 c) (bs.drop m) := by
  subst hm
  rw [List.drop_length]
  exact ⟨a, c, 0, 0, rfl, by simp, hc, fun h => by simp at h, fun j u hu => by simp at hu⟩

theorem Byte.drop {bs : List Int} (h : Byte bs) (m : Nat) : Byte (bs.drop m) := fun k c hk => h (m + k) c (by rw [← List.getElem?_drop]; exact hk)

theorem callGetInt (args : Array Value) (w : World) : (callFunc 69 args).run Try.prog w = .ok (.enter 69 args) w := by kernel_rfl

set_option maxRecDepth 100000 in
set_option maxHeartbeats 1000000 in
theorem wireGet (v : Value) (bs : List Int) (w : World) (hv : Bytes w v bs) (hby : Byte bs) (hl : bs.length ≤ 1000000000) : Calls Try.prog 68 #[v, .int .i64 1, .func (.func 69) #[] #[]] w (MadeIntsN w (getInts bs)) := by
  obtain ⟨a, cap, b, off, hvv, hcap, hm, ha, hc⟩ := hv.open
  have ok := Hid.mk (lenL_ok bs 1 hby.all)
  obtain ⟨n, u, er, hr⟩ : ∃ n u er, lenL bs 1 = (n, u, er) := ⟨_, _, _, rfl⟩
  have L : Hid (getInts bs = if er ≠ 0 then ([], 0, er) else andThen [] u (getN n.toNat (bs.drop u.toNat))) := by
    rw [Hid, getInts, hr]
  have HR := Hid.mk hr
  rw [hr] at ok
  clear hr
  subst hvv
  by_cases g : er = 0
  · obtain rfl := g
    obtain ⟨o1, o2, o3, o4⟩ := ok.out rfl
    simp only [Int.ediv_one] at o1 o2 o3 o4
    obtain ⟨N, rfl⟩ : ∃ N : Nat, n = N := ⟨n.toNat, by omega⟩
    obtain ⟨U, rfl⟩ : ∃ N : Nat, u = N := ⟨u.toNat, by omega⟩
    have L2 : Hid (getInts bs = andThen [] U (getN N (bs.drop U))) := by rw [Hid, L.out, if_neg (by simp)]; rfl
    obtain rfl := ha (by omega)
    clear ha L ok
    go_enter Try.func68, Try.ntmps68
    go_wp2_with (go_at_call 93; refine (wireLength _ bs _ _ hv hby (by omega) (by omega)).mono ?_; rintro e w' ⟨rfl, k, rfl⟩; rw [HR.out])
    go_loopw [10, 12, 27] (fun p o i wr => ∃ (j m : Nat) (out : List Int), j ≤ N ∧ U ≤ m ∧ m ≤ bs.length ∧ out.length = j ∧ i = .int .i64 j ∧ p = .int .i64 m ∧ Own w.heap.size 3 wr o (out.map (Value.int .i64)) ∧ Below w.heap.size w wr ∧ Hid (getInts bs = andThen out m (getN (N - j) (bs.drop m)))) (fun _ _ i _ => N - (intOf i).toNat)
    case atStart => exact ⟨0, U, [], by omega, by omega, by omega, rfl, rfl, rfl, Own.nil _ _ _, (Still.one _ _).below _, L2⟩
    case round =>
      obtain ⟨j, m, out, hj, hUm, hmb, ho, rfl, rfl, hown, hb, hh⟩ := hrel
      have HB := Hid.mk hb
      have hb2 := hb.size
      have HO := Hid.mk ho
      clear hb ho
      by_cases hlt : j < N
      · have hv' : Bytes wr (.slice (some (if cap = m then ⟨b, off, none⟩ else ⟨b, off + m, none⟩)) (bs.length - m) (cap - m)) (bs.drop m) := by
          split
          · rw [show bs.length - m = 0 by omega]; exact Bytes.dropEnd (by omega) (by omega)
          · exact Bytes.dropAt hcap hm (fun j x hx => below_cell HB.out (hc.out j x hx)) hmb
        have ok := Hid.mk (getI_ok (bs.drop m) (hby.drop m).all)
        obtain ⟨x, us, e2, hr2⟩ : ∃ x us e2, getI (bs.drop m) = (x, us, e2) := ⟨_, _, _, rfl⟩
        have HV := Hid.mk hv'
        have HR2 := Hid.mk hr2
        have NX : Hid (N - j = (N - (j+1)) + 1) := by rw [Hid]; omega
        rw [hr2] at ok
        clear hr2 hv'
        by_cases g2 : e2 = 0
        · obtain rfl := g2
          obtain ⟨p1, p2, p3, p4⟩ := ok.out rfl
          simp only [List.length_drop] at p1 p2 p3 p4
          obtain ⟨us, rfl⟩ : ∃ N : Nat, us = N := ⟨us.toNat, by omega⟩
          have ST : Hid (getInts bs = andThen (out ++ [x]) (m + us) (getN (N - (j+1)) (bs.drop (m + us)))) := by
            rw [Hid, hh.out, NX.out, andThen_step out m _ _ _ HR2.out rfl]; simp
          have LO : out.length ≤ N := by rw [HO.out]; omega
          clear ok hh NX
          have ec : ¬ cap = m := by omega
          all_goals have HV' := HV.out
          all_goals first | rw [if_pos ec] at HV' | rw [if_neg ec] at HV'
          all_goals have HVV := Hid.mk HV'
          all_goals clear HV'
          all_goals
            go_wp2_with (first | (at_builtin; refine wp_push (.tmp 41) (.tmp 43) 25 _ 3 8 _ elemInt rfl rfl Try.underlying25 w.heap.size _ (.int .i64 x) _ rfl hown.drewN rfl rfl (by simp [maxLen]; omega) (by simp; omega) hb2 ?_; intro v' w' hown' hb') | (go_at_call 69; refine (wireGetInt _ (bs.drop m) _ (by first | exact HVV.out | (have h := HVV.out; simp [ec] at h ⊢; exact h)) (hby.drop m)).mono ?_; rintro e w' ⟨rfl, q, rfl⟩; rw [HR2.out]))
            go_roundw
            case rel => exact ⟨j + 1, m + us, out ++ [x], by omega, by omega, by omega, by simp [HO.out], by go_num, by go_num, by simpa using hown', (HB.out.trans ((Still.one _ _).below _)).trans hb', ST⟩
            case measure => simp [intOf]; omega
        · have g2' : (e2 == 0) = false := by simpa using g2
          have ST : Hid (getInts bs = ([], 0, e2)) := by
            rw [Hid, hh.out, NX.out, andThen_err out m _ _ _ HR2.out g2]
          clear ok hh NX
          by_cases ec : cap = m
          all_goals have HV' := HV.out
          all_goals first | rw [if_pos ec] at HV' | rw [if_neg ec] at HV'
          all_goals have HVV := Hid.mk HV'
          all_goals clear HV'
          all_goals
            go_wp2_with (go_at_call 69; refine (wireGetInt _ (bs.drop m) _ (by first | exact HVV.out | (have h := HVV.out; simp [ec] at h ⊢; exact h)) (hby.drop m)).mono ?_; rintro e w' ⟨rfl, q, rfl⟩; rw [HR2.out])
            go_ret3
            exact MadeIntsN.mk ST.out (Own.nil _ _ _) (HB.out.trans ((Still.one _ _).below _))
      · have DN : Hid (getInts bs = (out, (m : Int), 0)) := by
          rw [Hid, hh.out, show N - j = 0 by omega, andThen_done]
        go_wp2
        go_ret3
        exact MadeIntsN.mk DN.out hown HB.out
  · have g' : (er == 0) = false := by simpa using g
    have L2 : Hid (getInts bs = ([], 0, er)) := by rw [Hid, L.out, if_pos g]
    go_enter Try.func68, Try.ntmps68
    go_wp2_with (go_at_call 93; refine (wireLength _ bs _ _ hv hby (by omega) (by omega)).mono ?_; rintro e w' ⟨rfl, k, rfl⟩; rw [HR.out])
    go_ret3
    exact MadeIntsN.mk L2.out (Own.nil _ _ _) ((Still.one _ _).below _)

theorem wireGetInts (v : Value) (bs : List Int) (w : World) (hv : Bytes w v bs) (hby : Byte bs) (hl : bs.length ≤ 1000000000) : Calls Try.prog 48 #[v] w (MadeIntsN w (getInts bs)) := by
  go_enter Try.func48, Try.ntmps48
  go_wp2_with (go_at_call 68; refine (wireGet _ bs _ hv hby hl).mono ?_; rintro e w1 ⟨v1, rfl, ho1, hb1⟩)
  go_ret3
  exact ⟨_, rfl, ho1, hb1⟩

end Go.Proofs.Ytnjopfjmepbpoaa

/- Plain: attributes, definitions, schemas and entries, as attr and antiquaryref13 have them. -/
namespace Go.Proofs.Ytnjopfjmepbpoaa
set_option linter.unusedSimpArgs false
set_option linter.unusedVariables false
set_option linter.unnecessarySimpa false
open Go

structure PAttr where
  name : ByteArray
  kind : Int
  n : Int
  s : ByteArray

structure PDef where
  name : ByteArray
  kind : Int
  lo : Int
  hi : Int
  words : List ByteArray

structure PSchema where
  dims : Int
  metric : Int
  defs : List PDef

structure PEntry where
  id : Int
  ver : Int
  owner : Int
  filed : Int
  frm : Int
  to : Int
  born : Int
  vec : List Int
  attrs : List PAttr

def eqB (a b : ByteArray) : Bool := a.toList == b.toList
def leqB (a b : ByteArray) : Bool := Op.bytesLess a.toList b.toList || a.toList == b.toList

theorem eqB_comm (a b : ByteArray) : eqB a b = eqB b a := by
  unfold eqB
  rw [Bool.eq_iff_iff]; simp only [beq_iff_eq]; exact eq_comm

def hasB (l : List ByteArray) (s : ByteArray) : Bool := l.any (fun x => eqB x s)

/-- The place of the first true one; -1: there is none. -/
def idxGo : List Bool → Int → Int
  | [], _ => -1
  | b :: r, k => if b then k else idxGo r (k + 1)
def idxB (l : List Bool) : Int := idxGo l 0

theorem idxGo_drop (l : List Bool) (k : Nat) (b : Bool) (h : l[k]? = some b) : idxGo (l.drop k) k = if b then (k : Int) else idxGo (l.drop (k+1)) ((k+1 : Nat) : Int) := by
  obtain ⟨hk, rfl⟩ := List.getElem?_eq_some_iff.1 h
  rw [List.drop_eq_getElem_cons (by omega), idxGo]; rfl
theorem idxGo_end (l : List Bool) (k : Nat) (h : l.length ≤ k) : idxGo (l.drop k) k = -1 := by
  rw [List.drop_eq_nil_of_le h, idxGo]

theorem idxGo_bd : ∀ (l : List Bool) (k : Int), 0 ≤ k → (idxGo l k = -1 ∧ l.any id = false) ∨ (k ≤ idxGo l k ∧ idxGo l k < k + l.length ∧ l.any id = true)
  | [], k, _ => .inl ⟨rfl, rfl⟩
  | b :: r, k, hk => by
    rw [idxGo]
    cases b
    · rcases idxGo_bd r (k+1) (by omega) with ⟨h1, h2⟩ | ⟨h1, h2, h3⟩
      · exact .inl ⟨by simpa using h1, by simpa using h2⟩
      · exact .inr ⟨by simp; omega, by simp; omega, by simpa using h3⟩
    · exact .inr ⟨by simp, by simp; omega, by simp⟩

theorem idxB_any (l : List Bool) : decide (0 ≤ idxB l) = l.any id := by
  rcases idxGo_bd l 0 (by omega) with ⟨h1, h2⟩ | ⟨h1, h2, h3⟩
  · rw [h2, idxB, h1]; rfl
  · rw [h3, decide_eq_true_eq, idxB]; exact h1

theorem idxB_lt (l : List Bool) (h : 0 ≤ idxB l) : idxB l < l.length := by
  rcases idxGo_bd l 0 (by omega) with ⟨h1, h2⟩ | ⟨h1, h2, h3⟩
  · rw [idxB, h1] at h; omega
  · rw [idxB]; omega

theorem idxB_ge (l : List Bool) : -1 ≤ idxB l := by
  rcases idxGo_bd l 0 (by omega) with ⟨h1, h2⟩ | ⟨h1, h2, h3⟩ <;> rw [idxB] <;> omega

/-- The error of the first rule that is broken. -/
def firstE : List (Bool × Int) → Int
  | [] => 0
  | (b, e) :: r => if b then e else firstE r

theorem firstE_drop (l : List (Bool × Int)) (k : Nat) (b : Bool) (e : Int) (h : l[k]? = some (b, e)) : firstE (l.drop k) = if b then e else firstE (l.drop (k+1)) := by
  obtain ⟨hk, he⟩ := List.getElem?_eq_some_iff.1 h
  rw [List.drop_eq_getElem_cons (by omega), he, firstE]
theorem firstE_end (l : List (Bool × Int)) (k : Nat) (h : l.length ≤ k) : firstE (l.drop k) = 0 := by
  rw [List.drop_eq_nil_of_le h, firstE]

/- Names. -/
def lowI (c : Int) : Bool := decide (97 ≤ c) && decide (c ≤ 122)
def resI (c : Int) : Bool := (decide (48 ≤ c) && decide (c ≤ 57)) || c == 95

def nameGo : Bool → List UInt8 → Bool
  | _, [] => true
  | f, c :: r => (lowI c.toNat || (!f && resI c.toNat)) && nameGo false r

theorem nameGo_drop (l : List UInt8) (k : Nat) (c : UInt8) (h : l[k]? = some c) : nameGo (k == 0) (l.drop k) = ((lowI c.toNat || (!(k == 0) && resI c.toNat)) && nameGo (k + 1 == 0) (l.drop (k+1))) := by
  obtain ⟨hk, rfl⟩ := List.getElem?_eq_some_iff.1 h
  rw [List.drop_eq_getElem_cons (by omega), nameGo]
  rfl
theorem nameGo_end (l : List UInt8) (k : Nat) (f : Bool) (h : l.length ≤ k) : nameGo f (l.drop k) = true := by
  rw [List.drop_eq_nil_of_le h, nameGo]

def reserved : List ByteArray := [⟨#[97, 108, 108]⟩, ⟨#[97, 110, 100]⟩, ⟨#[104, 97, 115]⟩, ⟨#[105, 110]⟩, ⟨#[110, 111, 116]⟩, ⟨#[111, 114]⟩]
def nameB (s : ByteArray) : Bool := nameGo true s.data.toList && (decide (1 ≤ s.size) && decide (s.size ≤ 40) && !hasB reserved s)

/- Strictly ascending. -/
def riseGo : ByteArray → List ByteArray → Bool
  | _, [] => true
  | p, x :: r => !leqB x p && riseGo x r
def riseB : List ByteArray → Bool
  | [] => true
  | x :: r => riseGo x r

theorem riseGo_drop (l : List ByteArray) (k : Nat) (p x : ByteArray) (h : l[k+1]? = some x) : riseGo p (l.drop (k+1)) = (!leqB x p && riseGo x (l.drop (k+2))) := by
  obtain ⟨hk, rfl⟩ := List.getElem?_eq_some_iff.1 h
  rw [List.drop_eq_getElem_cons (by omega), riseGo]
theorem riseB_start (l : List ByteArray) (x : ByteArray) (h : l[0]? = some x) : riseB l = riseGo x (l.drop 1) := by
  cases l with
  | nil => simp at h
  | cons a r => simp at h; subst h; rfl
theorem riseGo_end (l : List ByteArray) (k : Nat) (p : ByteArray) (h : l.length ≤ k) : riseGo p (l.drop k) = true := by
  rw [List.drop_eq_nil_of_le h, riseGo]

def wordsE (l : List ByteArray) : Int :=
  if l.length < 1 ∨ 50 < l.length then 2 else if l.any (fun s => !nameB s) then 5 else if riseB l then 0 else 6

def defE (d : PDef) (before : ByteArray) : Int :=
  if !nameB d.name then 5
  else if leqB d.name before then 6
  else if d.kind = 1 then
    (if d.lo < -1099511627776 ∨ 1099511627776 < d.hi ∨ d.hi < d.lo then 131 else if 0 < d.words.length then 3 else 0)
  else if d.kind = 2 then
    (if d.lo ≠ 0 ∨ d.hi ≠ 0 then 3 else wordsE d.words)
  else 130

def defsE : ByteArray → List PDef → Int
  | _, [] => 0
  | b, d :: r => if defE d b ≠ 0 then defE d b else defsE d.name r

def checkE (s : PSchema) : Int :=
  if s.dims < 1 ∨ 32 < s.dims ∨ s.metric < 1 ∨ 3 < s.metric then 1
  else if 16 < s.defs.length then 2
  else defsE ByteArray.empty s.defs

def findI (l : List PDef) (nm : ByteArray) : Int := idxB (l.map fun d => eqB d.name nm)

def valueE (d : PDef) (a : PAttr) : Int :=
  if a.kind ≠ d.kind then 130
  else if a.kind = 1 then (if eqB a.s ByteArray.empty = false then 3 else if a.n < d.lo ∨ d.hi < a.n then 131 else 0)
  else if a.n ≠ 0 then 3
  else if hasB d.words a.s then 0 else 131

def fitE (ds : List PDef) (before : ByteArray) (first : Bool) (a : PAttr) : Int :=
  if findI ds a.name < 0 then 5
  else if !first && leqB a.name before then 6
  else match ds[(findI ds a.name).toNat]? with
    | some d => valueE d a
    | none => 0

def fitsGo (ds : List PDef) : ByteArray → Bool → List PAttr → Int
  | _, _, [] => 0
  | b, f, a :: r => if fitE ds b f a ≠ 0 then fitE ds b f a else fitsGo ds a.name false r
def fitsE (s : PSchema) (l : List PAttr) : Int := fitsGo s.defs ByteArray.empty true l

def zeroA : PAttr := ⟨ByteArray.empty, 0, 0, ByteArray.empty⟩
def getA : List PAttr → ByteArray → PAttr × Bool
  | [], _ => (zeroA, false)
  | a :: r, nm => if eqB a.name nm then (a, true) else getA r nm

def validV (v : List Int) : Bool := v.all (fun x => decide (-1000 ≤ x) && decide (x ≤ 1000)) && (decide (1 ≤ v.length) && decide (v.length ≤ 32))

def entryE (s : PSchema) (e : PEntry) : Int :=
  if e.id < 1 ∨ 1073741824 < e.id ∨ e.owner < 1 ∨ 1073741824 < e.owner ∨ e.ver < 1 ∨ 1073741824 < e.ver then 1
  else if e.filed < 0 ∨ e.frm < e.filed ∨ e.to ≤ e.frm ∨ 1048577 < e.to ∨ 1048576 < e.frm ∨ e.born < 1 ∨ 1073741824 < e.born then 9
  else if validV e.vec = false ∨ (e.vec.length : Int) ≠ s.dims then 40
  else fitsE s e.attrs

end Go.Proofs.Ytnjopfjmepbpoaa

/- Strings, attributes, definitions, schemas and entries in memory. -/
namespace Go.Proofs.Ytnjopfjmepbpoaa
set_option linter.unusedSimpArgs false
set_option linter.unusedVariables false
set_option linter.unnecessarySimpa false
open Go.RowKit

theorem below_alloc (w : World) (o : Obj) : Below w.heap.size w (w.alloc o) := (Below.refl _ _).alloc (Nat.le_refl _) _
theorem below_drewN (w : World) (n : Nat) : Below w.heap.size w (w.drewN n) := (Still.one w n).below _

def RdS (w : World) (v : Value) (k : Nat) (rows : List (List Value)) : Prop :=
  ∃ a cap b off, v = .slice a rows.length cap ∧ rows.length ≤ cap ∧ cap ≤ maxLen ∧ (0 < rows.length → a = some ⟨b, off, none⟩) ∧
    ∀ i j r u, rows[i]? = some r → r[j]? = some u → w.cell? ⟨b, off + i * k + j, none⟩ = some u

theorem RdS.below {w w' : World} {v : Value} {k : Nat} {rows : List (List Value)} (h : RdS w v k rows) (hb : Below w.heap.size w w') : RdS w' v k rows := by
  obtain ⟨a, cap, b, off, h1, h2, h3, h4, h5⟩ := h
  exact ⟨a, cap, b, off, h1, h2, h3, h4, fun i j r u hr hu => below_cell hb (h5 i j r u hr hu)⟩

def Strs (w : World) (v : Value) (l : List ByteArray) : Prop := Rd w v (l.map Value.string)

theorem Strs.below {w w' : World} {v : Value} {l : List ByteArray} (h : Strs w v l) (hb : Below w.heap.size w w') : Strs w' v l := Rd.below h hb
theorem Ints.below {w w' : World} {v : Value} {l : List Int} (h : Ints w v l) (hb : Below w.heap.size w w') : Ints w' v l := Rd.below h hb
theorem Bytes.below {w w' : World} {v : Value} {l : List Int} (h : Bytes w v l) (hb : Below w.heap.size w w') : Bytes w' v l := Rd.below h hb

theorem Strs.open {w : World} {v : Value} {l : List ByteArray} (h : Strs w v l) : ∃ a cap b off, v = .slice a l.length cap ∧ l.length ≤ cap ∧ cap ≤ maxLen ∧
    (0 < l.length → a = some ⟨b, off, none⟩) ∧ Hid (∀ j x, l[j]? = some x → w.cell? ⟨b, off + j, none⟩ = some (.string x)) := by
  obtain ⟨a, cap, b, off, h1, h2, h3, h4, h5⟩ := h
  simp only [List.length_map] at h1 h2 h4
  exact ⟨a, cap, b, off, h1, h2, h3, h4, fun j x hx => h5 j _ (by simp [hx])⟩

def attrC (a : PAttr) : List Value := [.string a.name, .int .i64 a.kind, .int .i64 a.n, .string a.s]
def attrV (a : PAttr) : Value := .agg #[.string a.name, .int .i64 a.kind, .int .i64 a.n, .string a.s]
def Attrs (w : World) (v : Value) (l : List PAttr) : Prop := RdS w v 4 (l.map attrC)

theorem Attrs.below {w w' : World} {v : Value} {l : List PAttr} (h : Attrs w v l) (hb : Below w.heap.size w w') : Attrs w' v l := RdS.below h hb

/-- The cells of an attribute. -/
def AttrAt (w : World) (b off : Nat) (x : PAttr) : Prop :=
  w.cell? ⟨b, off, none⟩ = some (.string x.name) ∧ w.cell? ⟨b, off + 1, none⟩ = some (.int .i64 x.kind) ∧ w.cell? ⟨b, off + 2, none⟩ = some (.int .i64 x.n) ∧ w.cell? ⟨b, off + 3, none⟩ = some (.string x.s)

theorem AttrAt.below {w w' : World} {b off : Nat} {x : PAttr} (h : AttrAt w b off x) (hb : Below w.heap.size w w') : AttrAt w' b off x :=
  ⟨below_cell hb h.1, below_cell hb h.2.1, below_cell hb h.2.2.1, below_cell hb h.2.2.2⟩
theorem AttrAt.lt {w : World} {b off : Nat} {x : PAttr} (h : AttrAt w b off x) : b < w.heap.size := World.block_lt_of_cell? _ _ h.1

theorem Attrs.open {w : World} {v : Value} {l : List PAttr} (h : Attrs w v l) : ∃ a cap b off, v = .slice a l.length cap ∧ l.length ≤ cap ∧ cap ≤ maxLen ∧
    (0 < l.length → a = some ⟨b, off, none⟩) ∧ Hid (∀ i x, l[i]? = some x → AttrAt w b (off + i * 4) x) := by
  obtain ⟨a, cap, b, off, h1, h2, h3, h4, h5⟩ := h
  simp only [List.length_map] at h1 h2 h4
  refine ⟨a, cap, b, off, h1, h2, h3, h4, fun i x hx => ?_⟩
  have e : (l.map attrC)[i]? = some (attrC x) := by simp [hx]
  exact ⟨h5 i 0 _ _ e rfl, h5 i 1 _ _ e rfl, h5 i 2 _ _ e rfl, h5 i 3 _ _ e rfl⟩

/-- The cells of a definition. -/
def DefAt (w : World) (b off : Nat) (d : PDef) (wv : Value) : Prop :=
  w.cell? ⟨b, off, none⟩ = some (.string d.name) ∧ w.cell? ⟨b, off + 1, none⟩ = some (.int .i64 d.kind) ∧ w.cell? ⟨b, off + 2, none⟩ = some (.int .i64 d.lo) ∧ w.cell? ⟨b, off + 3, none⟩ = some (.int .i64 d.hi) ∧ w.cell? ⟨b, off + 4, none⟩ = some wv

theorem DefAt.below {w w' : World} {b off : Nat} {d : PDef} {wv : Value} (h : DefAt w b off d wv) (hb : Below w.heap.size w w') : DefAt w' b off d wv :=
  ⟨below_cell hb h.1, below_cell hb h.2.1, below_cell hb h.2.2.1, below_cell hb h.2.2.2.1, below_cell hb h.2.2.2.2⟩
theorem DefAt.lt {w : World} {b off : Nat} {d : PDef} {wv : Value} (h : DefAt w b off d wv) : b < w.heap.size := World.block_lt_of_cell? _ _ h.1

def defV (d : PDef) (wv : Value) : Value := .agg #[.string d.name, .int .i64 d.kind, .int .i64 d.lo, .int .i64 d.hi, wv]

def Defs (w : World) (v : Value) (l : List PDef) : Prop :=
  ∃ a cap b off, v = .slice a l.length cap ∧ l.length ≤ cap ∧ cap ≤ maxLen ∧ (0 < l.length → a = some ⟨b, off, none⟩) ∧
    ∀ i d, l[i]? = some d → ∃ wv, DefAt w b (off + i * 5) d wv ∧ Strs w wv d.words

theorem Defs.below {w w' : World} {v : Value} {l : List PDef} (h : Defs w v l) (hb : Below w.heap.size w w') : Defs w' v l := by
  obtain ⟨a, cap, b, off, h1, h2, h3, h4, h5⟩ := h
  refine ⟨a, cap, b, off, h1, h2, h3, h4, fun i d hd => ?_⟩
  obtain ⟨wv, h6, h7⟩ := h5 i d hd
  exact ⟨wv, h6.below hb, h7.below hb⟩

theorem Defs.open {w : World} {v : Value} {l : List PDef} (h : Defs w v l) : ∃ a cap b off, v = .slice a l.length cap ∧ l.length ≤ cap ∧ cap ≤ maxLen ∧
    (0 < l.length → a = some ⟨b, off, none⟩) ∧ Hid (∀ i d, l[i]? = some d → ∃ wv, DefAt w b (off + i * 5) d wv ∧ Strs w wv d.words) := h

/-- A schema, by value. -/
def SchemaV (w : World) (v : Value) (s : PSchema) : Prop := ∃ dv, v = .agg #[.int .i64 s.dims, .int .i64 s.metric, dv] ∧ Defs w dv s.defs
theorem SchemaV.below {w w' : World} {v : Value} {s : PSchema} (h : SchemaV w v s) (hb : Below w.heap.size w w') : SchemaV w' v s := by
  obtain ⟨dv, h1, h2⟩ := h
  exact ⟨dv, h1, h2.below hb⟩

/-- An entry, by value. -/
def entryVal (e : PEntry) (vv av : Value) : Value := .agg #[.int .i64 e.id, .int .i64 e.ver, .int .i64 e.owner, .int .i64 e.filed, .int .i64 e.frm, .int .i64 e.to, .int .i64 e.born, vv, av]
def EntryV (w : World) (v : Value) (e : PEntry) : Prop := ∃ vv av, v = entryVal e vv av ∧ Ints w vv e.vec ∧ Attrs w av e.attrs
theorem EntryV.below {w w' : World} {v : Value} {e : PEntry} (h : EntryV w v e) (hb : Below w.heap.size w w') : EntryV w' v e := by
  obtain ⟨vv, av, h1, h2, h3⟩ := h
  exact ⟨vv, av, h1, h2.below hb, h3.below hb⟩

/-- What a call returns that leaves all that was there. -/
def RetB (w : World) (b : Bool) (e : Ending) (w' : World) : Prop := e = .returned (.bool b) ∧ Below w.heap.size w w'
def RetI (w : World) (n : Int) (e : Ending) (w' : World) : Prop := e = .returned (.int .i64 n) ∧ Below w.heap.size w w'
theorem RetB.mk {w w' : World} {a b : Bool} (h : a = b) (hb : Below w.heap.size w w') : RetB w b (.returned (.bool a)) w' := ⟨by rw [h], hb⟩
theorem RetI.mk {w w' : World} {a b : Int} (h : a = b) (hb : Below w.heap.size w w') : RetI w b (.returned (.int .i64 a)) w' := ⟨by rw [h], hb⟩

end Go.Proofs.Ytnjopfjmepbpoaa

/- Walks: lists of strings: antiquaryref13.Has, slices.Index, slices.Contains, rising. -/
namespace Go.Proofs.Ytnjopfjmepbpoaa
set_option linter.unusedSimpArgs false
set_option linter.unusedVariables false
set_option linter.unnecessarySimpa false
open Go.RowKit

theorem any_drop (l : List ByteArray) (p : ByteArray → Bool) (k : Nat) (x : ByteArray) (h : l[k]? = some x) : (l.drop k).any p = (p x || (l.drop (k+1)).any p) := by
  obtain ⟨hk, rfl⟩ := List.getElem?_eq_some_iff.1 h
  rw [List.drop_eq_getElem_cons (by omega), List.any_cons]
theorem any_end (l : List ByteArray) (p : ByteArray → Bool) (k : Nat) (h : l.length ≤ k) : (l.drop k).any p = false := by
  rw [List.drop_eq_nil_of_le h]; rfl

set_option maxRecDepth 100000 in
set_option maxHeartbeats 400000 in
theorem refHasS (v : Value) (l : List ByteArray) (s : ByteArray) (w : World) (hv : Strs w v l) (hl : l.length ≤ 1000000000) :
    Calls Try.prog 21 #[v, .string s] w fun e w' => e = .returned (.bool (hasB l s)) ∧ w = w' := by
  obtain ⟨a, cap, b, off, rfl, hcap, hm, ha, hc⟩ := hv.open
  go_enter Try.func21, Try.ntmps21
  go_wp2
  go_loop [5] (fun i => ∃ k : Nat, k ≤ l.length ∧ i = .int .i64 k ∧ Hid (hasB l s = hasB (l.drop k) s)) (fun i => l.length - (intOf i).toNat)
  case atStart => exact ⟨0, by omega, rfl, rfl⟩
  case round =>
    obtain ⟨k, hk, rfl, hh⟩ := hrel
    by_cases hlt : k < l.length
    · obtain ⟨y, hy⟩ := ints_get l k (by omega)
      have c0 := hc.out k y hy
      obtain rfl := ha (by omega)
      have H : Hid (_ = _) := any_drop l (fun x => eqB x s) k y hy
      clear ha hy
      by_cases e : eqB y s = true
      · have e' : (y.toList == s.toList) = true := e
        go_wp2
        go_ret
        exact ⟨ret_bool (by rw [hh.out, hasB, H.out, e]; rfl), rfl⟩
      · have e2 : eqB y s = false := by simpa using e
        have e' : (y.toList == s.toList) = false := e2
        go_wp2
        go_round
        case rel => exact ⟨k + 1, by omega, by go_num, by rw [Hid, hh.out, hasB, H.out, e2]; rfl⟩
        case measure => simp [intOf]; omega
    · go_wp2
      go_ret
      exact ⟨ret_bool (by rw [hh.out, hasB, any_end _ _ _ (by omega)]), rfl⟩

set_option maxRecDepth 100000 in
set_option maxHeartbeats 400000 in
theorem slicesIndexS (v : Value) (l : List ByteArray) (s : ByteArray) (w : World) (hv : Strs w v l) (hl : l.length ≤ 1000000000) :
    Calls Try.prog 65 #[v, .string s] w fun e w' => e = .returned (.int .i64 (idxB (l.map fun x => eqB x s))) ∧ w = w' := by
  obtain ⟨a, cap, b, off, rfl, hcap, hm, ha, hc⟩ := hv.open
  go_enter Try.func65, Try.ntmps65
  go_wp2
  go_loop [8] (fun i => ∃ k : Nat, k ≤ l.length ∧ i = .int .i64 k ∧ Hid (idxB (l.map fun x => eqB x s) = idxGo ((l.map fun x => eqB x s).drop k) k)) (fun i => l.length - (intOf i).toNat)
  case atStart => exact ⟨0, by omega, rfl, rfl⟩
  case round =>
    obtain ⟨k, hk, rfl, hh⟩ := hrel
    by_cases hlt : k < l.length
    · obtain ⟨y, hy⟩ := ints_get l k (by omega)
      have c0 := hc.out k y hy
      obtain rfl := ha (by omega)
      have H : Hid (_ = _) := idxGo_drop (l.map fun x => eqB x s) k (eqB y s) (by simp [hy])
      clear ha hy
      by_cases e : eqB y s = true
      · have e' : (s.toList == y.toList) = true := by rw [eqB_comm] at e; exact e
        go_wp2
        go_ret
        exact ⟨ret_int (by rw [hh.out, H.out, e]; rfl), rfl⟩
      · have e2 : eqB y s = false := by simpa using e
        have e' : (s.toList == y.toList) = false := by rw [eqB_comm] at e2; exact e2
        go_wp2
        go_round
        case rel => exact ⟨k + 1, by omega, by go_num, by rw [Hid, hh.out, H.out, e2]; rfl⟩
        case measure => simp [intOf]; omega
    · go_wp2
      go_ret
      exact ⟨ret_int (by rw [hh.out, idxGo_end _ _ (by simp; omega)]), rfl⟩

set_option maxRecDepth 100000 in
set_option maxHeartbeats 400000 in
theorem slicesContainsS (v : Value) (l : List ByteArray) (s : ByteArray) (w : World) (hv : Strs w v l) (hl : l.length ≤ 1000000000) :
    Calls Try.prog 38 #[v, .string s] w fun e w' => e = .returned (.bool (hasB l s)) ∧ w = w' := by
  have H : Hid (decide (0 ≤ idxB (l.map fun x => eqB x s)) = hasB l s) := by rw [Hid, idxB_any, List.any_map]; rfl
  go_enter Try.func38, Try.ntmps38
  go_wp2_with (go_at_call 65; refine (slicesIndexS _ l s _ hv hl).mono ?_; rintro e w' ⟨rfl, rfl⟩)
  go_ret
  exact ⟨ret_bool H.out, rfl⟩

theorem take_last (l : List ByteArray) (k : Nat) (h : k < l.length) : ∃ x, l[k]? = some x := ints_get l k h

set_option maxRecDepth 100000 in
set_option maxHeartbeats 400000 in
theorem attrRising (v : Value) (l : List ByteArray) (w : World) (hv : Strs w v l) (hl : l.length ≤ 1000000000) :
    Calls Try.prog 90 #[v] w fun e w' => e = .returned (.bool (riseB l)) ∧ Still w w' := by
  obtain ⟨a, cap, b, off, rfl, hcap, hm, ha, hc⟩ := hv.open
  by_cases h0 : l.length = 0
  · have hb : Hid (riseB l = true) := by rw [List.length_eq_zero_iff.1 h0]; rfl
    have hlt : l.length < 1 := by omega
    clear h0
    go_enter Try.func90, Try.ntmps90
    go_wp2
    go_loop [3] (fun i => i = .int .i64 1) (fun i => 0)
    case atStart => rfl
    case round =>
      obtain rfl := hrel
      go_wp2
      go_ret
      exact ⟨ret_bool hb.out.symm, Still.refl _⟩
  · obtain rfl := ha (by omega)
    have hpos : 1 ≤ l.length := by omega
    clear h0 ha
    obtain ⟨x0, hx0⟩ := ints_get l 0 (by omega)
    have S0 : Hid (riseB l = riseGo x0 (l.drop 1)) := riseB_start l x0 hx0
    have X0 : Hid (l[0]? = some x0) := hx0
    clear hx0
    go_enter Try.func90, Try.ntmps90
    go_wp2
    go_loopw [3] (fun i wr => ∃ k n : Nat, ∃ p, k + 1 ≤ l.length ∧ i = .int .i64 ((k + 1 : Nat) : Int) ∧ wr = w.drewN n ∧ Hid (l[k]? = some p) ∧ Hid (riseB l = riseGo p (l.drop (k+1)))) (fun i _ => l.length - (intOf i).toNat)
    case atStart => exact ⟨0, 0, x0, by omega, rfl, rfl, X0, S0⟩
    case round =>
      obtain ⟨k, n, p, hk, rfl, rfl, hp, hh⟩ := hrel
      by_cases hlt : k + 1 < l.length
      · obtain ⟨y, hy⟩ := ints_get l (k+1) (by omega)
        have c0 := hc.out (k+1) y hy
        have c1 := hc.out k p hp.out
        have H : Hid (_ = _) := riseGo_drop l k p y hy
        have Y : Hid (l[k+1]? = some y) := hy
        clear hy
        by_cases e : leqB y p = true
        · have e' : (Op.bytesLess y.toList p.toList || y.toList == p.toList) = true := e
          go_wp2
          go_quiet (fail)
          go_wp2
          go_ret
          exact ⟨ret_bool (by rw [hh.out, H.out, e]; rfl), by first | exact Still.two _ _ _ | exact Still.one _ _⟩
        · have e2 : leqB y p = false := by simpa using e
          have e' : (Op.bytesLess y.toList p.toList || y.toList == p.toList) = false := e2
          go_wp2
          go_quiet (fail)
          go_wp2
          go_roundw
          case rel => exact ⟨k + 1, _, y, by omega, by go_num, rfl, Y, by rw [Hid, hh.out, H.out, e2]; rfl⟩
          case measure => simp [intOf]; omega
      · go_wp2
        go_ret
        exact ⟨ret_bool (by rw [hh.out, riseGo_end _ _ _ (by omega)]), Still.one _ _⟩
end Go.Proofs.Ytnjopfjmepbpoaa

/- Walks: Name. -/
namespace Go.Proofs.Ytnjopfjmepbpoaa
set_option linter.unusedSimpArgs false
set_option linter.unusedVariables false
set_option linter.unnecessarySimpa false
open Go.RowKit

theorem byteAt (s : ByteArray) (k : Nat) (h : k < s.size) : s.data.toList[k]? = some (s[k]'h) := by
  rw [List.getElem?_eq_getElem (by simpa using h)]; rfl

/-- One byte of a name is right. -/
def okC (k : Nat) (c : Int) : Bool := lowI c || (!(k == 0) && resI c)

theorem nameGo_step (s : ByteArray) (k : Nat) (h : k < s.size) : nameGo (k == 0) (s.data.toList.drop k) = (okC k ((s[k]'h).toNat : Int) && nameGo (k + 1 == 0) (s.data.toList.drop (k+1))) :=
  nameGo_drop _ _ _ (byteAt s k h)

theorem lit_reserved (w : World) : Strs (w.alloc (.cells #[Value.string ⟨#[97, 108, 108]⟩, Value.string ⟨#[97, 110, 100]⟩, Value.string ⟨#[104, 97, 115]⟩, Value.string ⟨#[105, 110]⟩, Value.string ⟨#[110, 111, 116]⟩, Value.string ⟨#[111, 114]⟩] 9)) (.slice (some ⟨w.heap.size, 0, none⟩) 6 6) reserved :=
  (Own.lit w (reserved.map Value.string) 9 w.heap.size (Nat.le_refl _) (by simp [maxLen, reserved])).rd

set_option maxRecDepth 100000 in
set_option maxHeartbeats 1000000 in
theorem refName (s : ByteArray) (w : World) (hs : s.size ≤ 1000000000) :
    Calls Try.prog 59 #[.string s] w (RetB w (nameB s)) := by
  go_enter Try.func59, Try.ntmps59
  go_wp2
  go_loop [3] (fun i => ∃ k : Nat, k ≤ s.size ∧ i = .int .i64 k ∧ Hid (nameGo true s.data.toList = nameGo (k == 0) (s.data.toList.drop k))) (fun i => s.size - (intOf i).toNat)
  case atStart => exact ⟨0, by omega, rfl, rfl⟩
  case round =>
    obtain ⟨k, hk, rfl, hh⟩ := hrel
    by_cases hlt : k < s.size
    · have H : Hid (_ = _) := nameGo_step s k hlt
      have bad : Hid (okC k ((s[k]'hlt).toNat : Int) = false → nameB s = false) := by
        intro h; rw [nameB, hh.out, H.out, h]; rfl
      have good : Hid (okC k ((s[k]'hlt).toNat : Int) = true → nameGo true s.data.toList = nameGo (k + 1 == 0) (s.data.toList.drop (k+1))) := by
        intro h; rw [hh.out, H.out, h]; rfl
      clear H hh
      have kk : ((k : Int) == 0) = (k == 0) := by rw [Bool.eq_iff_iff]; simp
      have KK := Lib.hid kk
      clear kk
      cases ok : okC k ((s[k]'hlt).toNat : Int) <;> cases K0 : (k == 0) <;> cases T1 : decide ((97 : Int) ≤ ((s[k]'hlt).toNat : Int)) <;> cases T2 : decide (((s[k]'hlt).toNat : Int) ≤ 122) <;> cases T3 : decide ((48 : Int) ≤ ((s[k]'hlt).toNat : Int)) <;>
        cases T4 : decide (((s[k]'hlt).toNat : Int) ≤ 57) <;> cases T5 : (((s[k]'hlt).toNat : Int) == 95)
      all_goals first
        | (exfalso; simp [okC, lowI, resI, K0, T1, T2, T3, T4, T5] at ok; done)
        | (exfalso; simp only [decide_eq_true_eq, decide_eq_false_iff_not, beq_iff_eq, beq_eq_false_iff_ne] at T1 T2 T3 T4 T5; omega)
        | skip
      all_goals
        have KI := KK.out
        rw [K0] at KI
        have OK := Lib.hid ok
        clear ok K0
        go_wp2
        first
          | (go_ret; refine RetB.mk (bad.out OK.out).symm (Below.refl _ _))
          | (go_round
             case rel => exact ⟨k + 1, by omega, by go_num, good.out OK.out⟩
             case measure => simp [intOf]; omega)
    · have HE : Hid (nameGo true s.data.toList = true) := by rw [Hid, hh.out, nameGo_end _ _ _ (by simp; omega)]
      clear hh
      by_cases h1 : 1 ≤ s.size
      · by_cases h2 : s.size ≤ 40
        · have h1' : decide ((1 : Int) ≤ (s.size : Int)) = true := by simp; omega
          have h2' : decide ((s.size : Int) ≤ 40) = true := by simp; omega
          have HN : Hid (nameB s = !hasB reserved s) := by rw [Hid, nameB, HE.out]; simp [h1, h2]
          go_wp2_with (go_at_call 21; refine (refHasS _ reserved s _ (lit_reserved w) (by decide)).mono ?_; rintro e w' ⟨rfl, rfl⟩)
          go_ret
          exact RetB.mk HN.out.symm (below_alloc _ _)
        · have h2' : decide ((s.size : Int) ≤ 40) = false := by simp; omega
          have HN : Hid (nameB s = false) := by rw [Hid, nameB, HE.out]; simp [h2]
          go_wp2
          go_ret
          exact RetB.mk HN.out.symm (Below.refl _ _)
      · have h1' : decide ((1 : Int) ≤ (s.size : Int)) = false := by simp; omega
        have HN : Hid (nameB s = false) := by rw [Hid, nameB, HE.out]; simp [h1]
        go_wp2
        go_ret
        exact RetB.mk HN.out.symm (Below.refl _ _)

theorem below_iter (w : World) (s : ByteArray) (k : Nat) : Below w.heap.size w (w.iter s k) := below_alloc _ _

set_option maxRecDepth 100000 in
set_option maxHeartbeats 2000000 in
theorem attrName (s : ByteArray) (w : World) (hs : s.size ≤ 1000000000) :
    Calls Try.prog 27 #[.string s] w (RetB w (nameB s)) := by
  go_enter Try.func27, Try.ntmps27
  go_wp2
  go_loopw [3, 4] (fun _ _ wr => ∃ k : Nat, k ≤ s.size ∧ wr = w.iter s k ∧ Hid (nameGo true s.data.toList = nameGo (k == 0) (s.data.toList.drop k))) (fun _ _ wr => s.size - wr.iterPos w.heap.size)
  case atStart => exact ⟨0, by omega, rfl, rfl⟩
  case round =>
    obtain ⟨k, hk, rfl, hh⟩ := hrel
    by_cases hlt : k < s.size
    · have H : Hid (_ = _) := nameGo_step s k hlt
      have bad : Hid (okC k ((s[k]'hlt).toNat : Int) = false → nameB s = false) := by
        intro h; rw [nameB, hh.out, H.out, h]; rfl
      have good : Hid (okC k ((s[k]'hlt).toNat : Int) = true → nameGo true s.data.toList = nameGo (k + 1 == 0) (s.data.toList.drop (k+1))) := by
        intro h; rw [hh.out, H.out, h]; rfl
      clear H hh
      have kk : ((k : Int) == 0) = (k == 0) := by rw [Bool.eq_iff_iff]; simp
      have KK := Lib.hid kk
      clear kk
      by_cases h128 : (s[k]'hlt).toNat < 128
      · have hnx := fun ty => run_next_ascii (P := Try.prog) w s k ty hlt h128
        cases ok : okC k ((s[k]'hlt).toNat : Int) <;> cases K0 : (k == 0) <;> cases T1 : decide (((s[k]'hlt).toNat : Int) < 97) <;> cases T2 : decide (122 < ((s[k]'hlt).toNat : Int)) <;> cases T3 : decide (((s[k]'hlt).toNat : Int) < 48) <;>
          cases T4 : decide (57 < ((s[k]'hlt).toNat : Int)) <;> cases T5 : (((s[k]'hlt).toNat : Int) != 95)
        all_goals first
          | (exfalso; simp only [decide_eq_true_eq, decide_eq_false_iff_not, bne_iff_ne, bne_eq_false_iff_eq] at T1 T2 T3 T4 T5; omega)
          | (exfalso
             simp only [decide_eq_true_eq, decide_eq_false_iff_not, bne_iff_ne, bne_eq_false_iff_eq] at T1 T2 T3 T4 T5
             simp [okC, lowI, resI, K0] at ok
             omega)
          | skip
        all_goals
          have KI := KK.out
          rw [K0] at KI
          have OK := Lib.hid ok
          clear ok K0
          go_wp2
          first
            | (go_ret; refine RetB.mk (bad.out OK.out).symm (below_iter _ _ _))
            | (go_roundw
               case rel => exact ⟨k + 1, by omega, rfl, good.out OK.out⟩
               case measure => simp; omega)
      · have hnx := fun ty => run_next_any (P := Try.prog) w s k ty hlt
        have hd := (decode_high s k hlt (by omega)).1
        have OK : Hid (okC k ((s[k]'hlt).toNat : Int) = false) := by
          simp [Hid, okC, lowI, resI]
          have := (s[k]'hlt).toNat_lt
          omega
        generalize Utf8.decode s k = dd at hnx hd
        obtain ⟨r, d⟩ := dd
        simp only at hnx hd
        have T1 : decide ((r : Int) < 97) = false := by simp; omega
        have T2 : decide (122 < (r : Int)) = true := by simp; omega
        have T3 : decide ((r : Int) < 48) = false := by simp; omega
        have T4 : decide (57 < (r : Int)) = true := by simp; omega
        have T5 : ((r : Int) != 95) = true := by simp; omega
        cases K0 : (k == 0)
        all_goals
          have KI := KK.out
          rw [K0] at KI
          clear K0
          go_wp2
          go_ret
          exact RetB.mk (bad.out OK.out).symm (below_iter _ _ _)
    · have HE : Hid (nameGo true s.data.toList = true) := by rw [Hid, hh.out, nameGo_end _ _ _ (by simp; omega)]
      have hnx := fun ty => run_next_end (P := Try.prog) w s k ty hlt
      clear hh
      by_cases h1 : 1 ≤ s.size
      · by_cases h2 : s.size ≤ 40
        · have h1' : decide ((1 : Int) ≤ (s.size : Int)) = true := by simp; omega
          have h2' : decide ((s.size : Int) ≤ 40) = true := by simp; omega
          have HN : Hid (nameB s = !hasB reserved s) := by rw [Hid, nameB, HE.out]; simp [h1, h2]
          go_wp2_with (go_at_call 38; refine (slicesContainsS _ reserved s _ (lit_reserved (w.iter s k)) (by decide)).mono ?_; rintro e w' ⟨rfl, rfl⟩)
          go_ret
          exact RetB.mk HN.out.symm ((below_iter w s k).trans ((below_alloc _ _).mono (below_iter w s k).size))
        · have h2' : decide ((s.size : Int) ≤ 40) = false := by simp; omega
          have HN : Hid (nameB s = false) := by rw [Hid, nameB, HE.out]; simp [h2]
          go_wp2
          go_ret
          exact RetB.mk HN.out.symm (below_iter _ _ _)
      · have h1' : decide ((1 : Int) ≤ (s.size : Int)) = false := by simp; omega
        have HN : Hid (nameB s = false) := by rw [Hid, nameB, HE.out]; simp [h1]
        go_wp2
        go_ret
        exact RetB.mk HN.out.symm (below_iter _ _ _)

end Go.Proofs.Ytnjopfjmepbpoaa

/- Walks: first, IndexFunc, ContainsFunc. -/
namespace Go.Proofs.Ytnjopfjmepbpoaa
set_option linter.unusedSimpArgs false
set_option linter.unusedVariables false
set_option linter.unnecessarySimpa false
open Go.RowKit

/-- A rule: the number of its function, what it captured, whether it is broken, its error. -/
structure Rule where
  f : Nat
  caps : Array Value
  b : Bool
  e : Int
def ruleC (r : Rule) : List Value := [.func (.func r.f) #[] r.caps, .int .i64 r.e]
def Rules (w : World) (v : Value) (rs : List Rule) : Prop := RdS w v 2 (rs.map ruleC)

theorem Rules.open {w : World} {v : Value} {l : List Rule} (h : Rules w v l) : ∃ a cap b off, v = .slice a l.length cap ∧ l.length ≤ cap ∧ cap ≤ maxLen ∧
    (0 < l.length → a = some ⟨b, off, none⟩) ∧ Hid (∀ i x, l[i]? = some x → w.cell? ⟨b, off + i * 2, none⟩ = some (.func (.func x.f) #[] x.caps) ∧ w.cell? ⟨b, off + i * 2 + 1, none⟩ = some (.int .i64 x.e)) := by
  obtain ⟨a, cap, b, off, h1, h2, h3, h4, h5⟩ := h
  simp only [List.length_map] at h1 h2 h4
  refine ⟨a, cap, b, off, h1, h2, h3, h4, fun i x hx => ?_⟩
  have e : (l.map ruleC)[i]? = some (ruleC x) := by simp [hx]
  exact ⟨h5 i 0 _ _ e rfl, h5 i 1 _ _ e rfl⟩

def CallOk (f : Nat) : Prop := ∀ (args : Array Value) (w : World), (callFunc f args).run Try.prog w = .ok (.enter f args) w

set_option maxRecDepth 100000 in
set_option maxHeartbeats 400000 in
theorem attrFirst (v : Value) (rs : List Rule) (w : World) (hv : Rules w v rs) (hl : rs.length ≤ 1000) (hcf : Hid (∀ r ∈ rs, CallOk r.f))
    (hr : Hid (∀ r ∈ rs, ∀ w', Below w.heap.size w w' → Calls Try.prog r.f r.caps w' (RetB w' r.b))) :
    Calls Try.prog 32 #[v] w (RetI w (firstE (rs.map fun r => (r.b, r.e)))) := by
  obtain ⟨a, cap, b, off, rfl, hcap, hm, ha, hc⟩ := hv.open
  clear hv
  go_enter Try.func32, Try.ntmps32
  go_wp2
  go_loopw [7] (fun i wr => ∃ k : Nat, k ≤ rs.length ∧ i = .int .i64 k ∧ Below w.heap.size w wr ∧ Hid (firstE (rs.map fun r => (r.b, r.e)) = firstE ((rs.map fun r => (r.b, r.e)).drop k))) (fun i _ => rs.length - (intOf i).toNat)
  case atStart => exact ⟨0, by omega, rfl, Below.refl _ _, rfl⟩
  case round =>
    obtain ⟨k, hk, rfl, hb, hh⟩ := hrel
    by_cases hlt : k < rs.length
    · obtain ⟨y, hy⟩ := ints_get rs k (by omega)
      obtain ⟨c0', c1'⟩ := hc.out k y hy
      have c0 := below_cell hb c0'
      have c1 := below_cell hb c1'
      clear c0' c1'
      obtain rfl := ha (by omega)
      have hm := List.mem_of_getElem? hy
      have H : Hid (_ = _) := firstE_drop (rs.map fun r => (r.b, r.e)) k y.b y.e (by simp [hy])
      have hcf1 := hcf.out y hm
      have hr1 : Hid (∀ w', Below w.heap.size w w' → Calls Try.prog y.f y.caps w' (RetB w' y.b)) := hr.out y hm
      have hbl := World.block_lt_of_cell? _ _ c0
      clear hr hcf
      obtain ⟨yf, yc, yb, ye⟩ := y
      simp only at hcf1 c0 c1 H hr1
      unfold CallOk at hcf1
      clear ha hy hm hc
      cases yb
      · go_wp2_with fail
        refine (hr1.out _ (hb.trans ((below_alloc _ _).mono hb.size))).mono ?_
        rintro e w1 ⟨rfl, hb1⟩
        go_wp2
        go_roundw
        case rel => exact ⟨k + 1, by omega, by go_num, (hb.trans ((below_alloc _ _).mono hb.size)).trans (hb1.mono (by have := hb.size; simp; omega)), by rw [Hid, hh.out, H.out]; rfl⟩
        case measure => simp [intOf]; omega
      · go_wp2_with fail
        refine (hr1.out _ (hb.trans ((below_alloc _ _).mono hb.size))).mono ?_
        rintro e w1 ⟨rfl, hb1⟩
        have d1 : w1.cell? ⟨wr.heap.size, 1, none⟩ = some (.int .i64 ye) := below_cell hb1 (by simp)
        go_wp2
        go_ret
        exact RetI.mk (by rw [hh.out, H.out]; rfl) ((hb.trans ((below_alloc _ _).mono hb.size)).trans (hb1.mono (by have := hb.size; simp; omega)))
    · go_wp2
      go_ret
      exact RetI.mk (by rw [hh.out, firstE_end _ _ (by simp; omega)]) hb

set_option maxRecDepth 100000 in
set_option maxHeartbeats 400000 in
theorem indexAttr (v : Value) (l : List PAttr) (F g : Nat) (p : PAttr → Bool) (w : World) (hv : Attrs w v l) (hl : l.length ≤ 1000000000) (hcf : CallOk F)
    (hr : Hid (∀ x ∈ l, ∀ w', Below w.heap.size w w' → Calls Try.prog F #[attrV x, .pointer (some ⟨g, 0, none⟩)] w' (RetB w' (p x)))) :
    Calls Try.prog 28 #[v, .func (.func F) #[] #[.pointer (some ⟨g, 0, none⟩)]] w (RetI w (idxB (l.map p))) := by
  obtain ⟨a, cap, b, off, rfl, hcap, hm, ha, hc⟩ := hv.open
  unfold CallOk at hcf
  clear hv
  go_enter Try.func28, Try.ntmps28
  go_wp2
  go_loopw [8] (fun i wr => ∃ k : Nat, k ≤ l.length ∧ i = .int .i64 k ∧ Below w.heap.size w wr ∧ Hid (idxB (l.map p) = idxGo ((l.map p).drop k) k)) (fun i _ => l.length - (intOf i).toNat)
  case atStart => exact ⟨0, by omega, rfl, Below.refl _ _, rfl⟩
  case round =>
    obtain ⟨k, hk, rfl, hb, hh⟩ := hrel
    by_cases hlt : k < l.length
    · obtain ⟨y, hy⟩ := ints_get l k (by omega)
      obtain ⟨c0, c1, c2, c3⟩ := (hc.out k y hy).below hb
      obtain rfl := ha (by omega)
      have hm := List.mem_of_getElem? hy
      have H : Hid (_ = _) := idxGo_drop (l.map p) k (p y) (by simp [hy])
      have hr1 : Hid (∀ w', Below w.heap.size w w' → Calls Try.prog F #[attrV y, .pointer (some ⟨g, 0, none⟩)] w' (RetB w' (p y))) := hr.out y hm
      unfold attrV at hr1
      clear hr ha hy hm hc
      cases e : p y
      · have E := Lib.hid e
        clear e
        go_wp2_with fail
        refine (hr1.out _ hb).mono ?_
        rintro e w1 ⟨rfl, hb1⟩
        rw [E.out]
        go_wp2
        go_roundw
        case rel => exact ⟨k + 1, by omega, by go_num, hb.trans (hb1.mono hb.size), by rw [Hid, hh.out, H.out, E.out]; rfl⟩
        case measure => simp [intOf]; omega
      · have E := Lib.hid e
        clear e
        go_wp2_with fail
        refine (hr1.out _ hb).mono ?_
        rintro e w1 ⟨rfl, hb1⟩
        rw [E.out]
        go_wp2
        go_ret
        exact RetI.mk (by rw [hh.out, H.out, E.out]; rfl) (hb.trans (hb1.mono hb.size))
    · go_wp2
      go_ret
      exact RetI.mk (by rw [hh.out, idxGo_end _ _ (by simp; omega)]) hb

set_option maxRecDepth 100000 in
set_option maxHeartbeats 400000 in
theorem indexDef (v : Value) (l : List PDef) (F g : Nat) (p : PDef → Bool) (w : World) (hv : Defs w v l) (hl : l.length ≤ 1000000000) (hcf : CallOk F)
    (hr : Hid (∀ x ∈ l, ∀ wv, ∀ w', Below w.heap.size w w' → Calls Try.prog F #[defV x wv, .pointer (some ⟨g, 0, none⟩)] w' (RetB w' (p x)))) :
    Calls Try.prog 30 #[v, .func (.func F) #[] #[.pointer (some ⟨g, 0, none⟩)]] w (RetI w (idxB (l.map p))) := by
  obtain ⟨a, cap, b, off, rfl, hcap, hm, ha, hc⟩ := hv.open
  unfold CallOk at hcf
  clear hv
  go_enter Try.func30, Try.ntmps30
  go_wp2
  go_loopw [8] (fun i wr => ∃ k : Nat, k ≤ l.length ∧ i = .int .i64 k ∧ Below w.heap.size w wr ∧ Hid (idxB (l.map p) = idxGo ((l.map p).drop k) k)) (fun i _ => l.length - (intOf i).toNat)
  case atStart => exact ⟨0, by omega, rfl, Below.refl _ _, rfl⟩
  case round =>
    obtain ⟨k, hk, rfl, hb, hh⟩ := hrel
    by_cases hlt : k < l.length
    · obtain ⟨y, hy⟩ := ints_get l k (by omega)
      obtain ⟨wv, hd, hs⟩ := hc.out k y hy
      obtain ⟨c0, c1, c2, c3, c4⟩ := hd.below hb
      clear hd hs
      obtain rfl := ha (by omega)
      have hm := List.mem_of_getElem? hy
      have H : Hid (_ = _) := idxGo_drop (l.map p) k (p y) (by simp [hy])
      have hr1 : Hid (∀ w', Below w.heap.size w w' → Calls Try.prog F #[defV y wv, .pointer (some ⟨g, 0, none⟩)] w' (RetB w' (p y))) := hr.out y hm wv
      unfold defV at hr1
      clear hr ha hy hm hc
      cases e : p y
      · have E := Lib.hid e
        clear e
        go_wp2_with fail
        refine (hr1.out _ hb).mono ?_
        rintro e w1 ⟨rfl, hb1⟩
        rw [E.out]
        go_wp2
        go_roundw
        case rel => exact ⟨k + 1, by omega, by go_num, hb.trans (hb1.mono hb.size), by rw [Hid, hh.out, H.out, E.out]; rfl⟩
        case measure => simp [intOf]; omega
      · have E := Lib.hid e
        clear e
        go_wp2_with fail
        refine (hr1.out _ hb).mono ?_
        rintro e w1 ⟨rfl, hb1⟩
        rw [E.out]
        go_wp2
        go_ret
        exact RetI.mk (by rw [hh.out, H.out, E.out]; rfl) (hb.trans (hb1.mono hb.size))
    · go_wp2
      go_ret
      exact RetI.mk (by rw [hh.out, idxGo_end _ _ (by simp; omega)]) hb

set_option maxRecDepth 100000 in
set_option maxHeartbeats 400000 in
theorem indexStr (v : Value) (l : List ByteArray) (F : Nat) (p : ByteArray → Bool) (w : World) (hv : Strs w v l) (hl : l.length ≤ 1000000000) (hcf : CallOk F)
    (hr : Hid (∀ x ∈ l, ∀ w', Below w.heap.size w w' → Calls Try.prog F #[.string x] w' (RetB w' (p x)))) :
    Calls Try.prog 94 #[v, .func (.func F) #[] #[]] w (RetI w (idxB (l.map p))) := by
  obtain ⟨a, cap, b, off, rfl, hcap, hm, ha, hc⟩ := hv.open
  unfold CallOk at hcf
  clear hv
  go_enter Try.func94, Try.ntmps94
  go_wp2
  go_loopw [8] (fun i wr => ∃ k : Nat, k ≤ l.length ∧ i = .int .i64 k ∧ Below w.heap.size w wr ∧ Hid (idxB (l.map p) = idxGo ((l.map p).drop k) k)) (fun i _ => l.length - (intOf i).toNat)
  case atStart => exact ⟨0, by omega, rfl, Below.refl _ _, rfl⟩
  case round =>
    obtain ⟨k, hk, rfl, hb, hh⟩ := hrel
    by_cases hlt : k < l.length
    · obtain ⟨y, hy⟩ := ints_get l k (by omega)
      have c0 := below_cell hb (hc.out k y hy)
      obtain rfl := ha (by omega)
      have hm := List.mem_of_getElem? hy
      have H : Hid (_ = _) := idxGo_drop (l.map p) k (p y) (by simp [hy])
      have hr1 : Hid (∀ w', Below w.heap.size w w' → Calls Try.prog F #[.string y] w' (RetB w' (p y))) := hr.out y hm
      clear hr ha hy hm hc
      cases e : p y
      · have E := Lib.hid e
        clear e
        go_wp2_with fail
        refine (hr1.out _ hb).mono ?_
        rintro e w1 ⟨rfl, hb1⟩
        rw [E.out]
        go_wp2
        go_roundw
        case rel => exact ⟨k + 1, by omega, by go_num, hb.trans (hb1.mono hb.size), by rw [Hid, hh.out, H.out, E.out]; rfl⟩
        case measure => simp [intOf]; omega
      · have E := Lib.hid e
        clear e
        go_wp2_with fail
        refine (hr1.out _ hb).mono ?_
        rintro e w1 ⟨rfl, hb1⟩
        rw [E.out]
        go_wp2
        go_ret
        exact RetI.mk (by rw [hh.out, H.out, E.out]; rfl) (hb.trans (hb1.mono hb.size))
    · go_wp2
      go_ret
      exact RetI.mk (by rw [hh.out, idxGo_end _ _ (by simp; omega)]) hb

set_option maxRecDepth 100000 in
set_option maxHeartbeats 400000 in
theorem containsStr (v : Value) (l : List ByteArray) (F : Nat) (p : ByteArray → Bool) (w : World) (hv : Strs w v l) (hl : l.length ≤ 1000000000) (hcf : CallOk F)
    (hr : Hid (∀ x ∈ l, ∀ w', Below w.heap.size w w' → Calls Try.prog F #[.string x] w' (RetB w' (p x)))) :
    Calls Try.prog 87 #[v, .func (.func F) #[] #[]] w (RetB w (l.any p)) := by
  have H : Hid (decide (0 ≤ idxB (l.map p)) = l.any p) := by rw [Hid, idxB_any, List.any_map]; rfl
  have HCF := Lib.hid hcf
  clear hcf
  go_enter Try.func87, Try.ntmps87
  go_wp2_with (go_at_call 94; refine (indexStr _ l F p _ hv hl HCF.out hr).mono ?_; rintro e w' ⟨rfl, hb⟩)
  go_ret
  exact RetB.mk H.out hb

end Go.Proofs.Ytnjopfjmepbpoaa

/- Walks: the rules of a definition, def. -/
namespace Go.Proofs.Ytnjopfjmepbpoaa
set_option linter.unusedSimpArgs false
set_option linter.unusedVariables false
set_option linter.unnecessarySimpa false
open Go.RowKit

def SmallD (d : PDef) : Prop := d.name.size ≤ 1000 ∧ d.words.length ≤ 1000 ∧ ∀ s ∈ d.words, s.size ≤ 1000

theorem def1 (g : Nat) (d : PDef) (wv : Value) (w : World) (hd : DefAt w g 0 d wv) (hs : d.name.size ≤ 1000) : Calls Try.prog 79 #[.pointer (some ⟨g, 0, none⟩)] w (RetB w (!nameB d.name)) := by
  obtain ⟨c0, c1, c2, c3, c4⟩ := hd
  go_enter Try.func79, Try.ntmps79
  go_wp2_with (go_at_call 27; refine (attrName _ _ (by omega)).mono ?_; rintro e w' ⟨rfl, hb⟩)
  go_ret
  exact RetB.mk rfl hb

theorem def2 (g h : Nat) (d : PDef) (wv : Value) (bf : ByteArray) (w : World) (hd : DefAt w g 0 d wv) (c5 : w.cell? ⟨h, 0, none⟩ = some (.string bf)) :
    Calls Try.prog 80 #[.pointer (some ⟨g, 0, none⟩), .pointer (some ⟨h, 0, none⟩)] w (RetB w (leqB d.name bf)) := by
  obtain ⟨c0, c1, c2, c3, c4⟩ := hd
  go_enter Try.func80, Try.ntmps80
  go_wp2
  go_ret
  exact RetB.mk rfl (Below.refl _ _)

def kindBad (d : PDef) : Bool := d.kind != 1 && d.kind != 2
theorem def3 (g : Nat) (d : PDef) (wv : Value) (w : World) (hd : DefAt w g 0 d wv) : Calls Try.prog 81 #[.pointer (some ⟨g, 0, none⟩)] w (RetB w (kindBad d)) := by
  obtain ⟨c0, c1, c2, c3, c4⟩ := hd
  cases e : d.kind != 1
  all_goals
    go_enter Try.func81, Try.ntmps81
    go_wp2
    go_ret
    exact RetB.mk (by simp [kindBad, e]) (Below.refl _ _)

def rangeBad (d : PDef) : Bool := decide (d.lo < -1099511627776) || (decide (1099511627776 < d.hi) || decide (d.hi < d.lo))
theorem def4 (g : Nat) (d : PDef) (wv : Value) (w : World) (hd : DefAt w g 0 d wv) : Calls Try.prog 82 #[.pointer (some ⟨g, 0, none⟩)] w (RetB w (rangeBad d)) := by
  obtain ⟨c0, c1, c2, c3, c4⟩ := hd
  cases e : decide (d.lo < -1099511627776) <;> cases e2 : decide (1099511627776 < d.hi)
  all_goals
    go_enter Try.func82, Try.ntmps82
    go_wp2
    go_ret
    exact RetB.mk (by simp [rangeBad, e, e2]) (Below.refl _ _)

theorem def5 (g : Nat) (d : PDef) (wv : Value) (w : World) (hd : DefAt w g 0 d wv) (hs : Strs w wv d.words) (hl : d.words.length ≤ 1000) : Calls Try.prog 83 #[.pointer (some ⟨g, 0, none⟩)] w (RetB w (decide (0 < d.words.length))) := by
  obtain ⟨c0, c1, c2, c3, c4⟩ := hd
  obtain ⟨a, cap, b, off, rfl, -⟩ := hs.open
  go_enter Try.func83, Try.ntmps83
  go_wp2
  go_ret
  exact RetB.mk (by first | rfl | simp) (Below.refl _ _)

def formBad (d : PDef) : Bool := d.lo != 0 || d.hi != 0
theorem def6 (g : Nat) (d : PDef) (wv : Value) (w : World) (hd : DefAt w g 0 d wv) : Calls Try.prog 84 #[.pointer (some ⟨g, 0, none⟩)] w (RetB w (formBad d)) := by
  obtain ⟨c0, c1, c2, c3, c4⟩ := hd
  cases e : d.lo != 0
  all_goals
    go_enter Try.func84, Try.ntmps84
    go_wp2
    go_ret
    exact RetB.mk (by simp [formBad, e]) (Below.refl _ _)

def manyBad (d : PDef) : Bool := decide (d.words.length < 1) || decide (50 < d.words.length)
theorem def7 (g : Nat) (d : PDef) (wv : Value) (w : World) (hd : DefAt w g 0 d wv) (hs : Strs w wv d.words) (hl : d.words.length ≤ 1000) : Calls Try.prog 85 #[.pointer (some ⟨g, 0, none⟩)] w (RetB w (manyBad d)) := by
  obtain ⟨c0, c1, c2, c3, c4⟩ := hd
  obtain ⟨a, cap, b, off, rfl, -⟩ := hs.open
  cases e : decide (d.words.length < 1) <;> cases e2 : decide (50 < d.words.length)
  all_goals
    have e' : decide ((d.words.length : Int) < 1) = decide (d.words.length < 1) := by rw [Bool.eq_iff_iff]; simp only [decide_eq_true_eq]; omega
    have e2' : decide ((50 : Int) < (d.words.length : Int)) = decide (50 < d.words.length) := by rw [Bool.eq_iff_iff]; simp only [decide_eq_true_eq]; omega
    rw [e] at e'
    rw [e2] at e2'
    have E := Lib.hid e
    have E2 := Lib.hid e2
    clear e e2
    go_enter Try.func85, Try.ntmps85
    go_wp2
    go_ret
    exact RetB.mk (by simp only [manyBad, E.out, E2.out]; first | rfl | simp_all) (Below.refl _ _)

theorem callD81 : CallOk 88 := fun _ _ => by kernel_rfl
theorem def81 (s : ByteArray) (w : World) (hs : s.size ≤ 1000) : Calls Try.prog 88 #[.string s] w (RetB w (!nameB s)) := by
  go_enter Try.func88, Try.ntmps88
  go_wp2_with (go_at_call 27; refine (attrName _ _ (by omega)).mono ?_; rintro e w' ⟨rfl, hb⟩)
  go_ret
  exact RetB.mk rfl hb

theorem def8 (g : Nat) (d : PDef) (wv : Value) (w : World) (hd : DefAt w g 0 d wv) (hs : Strs w wv d.words) (hl : d.words.length ≤ 1000) (hsm : Hid (∀ s ∈ d.words, s.size ≤ 1000)) :
    Calls Try.prog 86 #[.pointer (some ⟨g, 0, none⟩)] w (RetB w (d.words.any fun s => !nameB s)) := by
  obtain ⟨c0, c1, c2, c3, c4⟩ := hd
  go_enter Try.func86, Try.ntmps86
  go_wp2_with (go_at_call 87; refine (containsStr _ d.words _ (fun s => !nameB s) _ hs (by omega) callD81 (fun x hx w' _ => def81 x w' (hsm.out x hx))).mono ?_; rintro e w' ⟨rfl, hb⟩)
  go_ret
  exact RetB.mk rfl hb

theorem def9 (g : Nat) (d : PDef) (wv : Value) (w : World) (hd : DefAt w g 0 d wv) (hs : Strs w wv d.words) (hl : d.words.length ≤ 1000) : Calls Try.prog 89 #[.pointer (some ⟨g, 0, none⟩)] w (RetB w (!riseB d.words)) := by
  obtain ⟨c0, c1, c2, c3, c4⟩ := hd
  go_enter Try.func89, Try.ntmps89
  go_wp2_with (go_at_call 90; refine (attrRising _ d.words _ hs (by omega)).mono ?_; rintro e w' ⟨rfl, n, rfl⟩)
  go_ret
  exact RetB.mk rfl (below_drewN _ _)

theorem cD1 : CallOk 79 := fun _ _ => by kernel_rfl
theorem cD2 : CallOk 80 := fun _ _ => by kernel_rfl
theorem cD3 : CallOk 81 := fun _ _ => by kernel_rfl
theorem cD4 : CallOk 82 := fun _ _ => by kernel_rfl
theorem cD5 : CallOk 83 := fun _ _ => by kernel_rfl
theorem cD6 : CallOk 84 := fun _ _ => by kernel_rfl
theorem cD7 : CallOk 85 := fun _ _ => by kernel_rfl
theorem cD8 : CallOk 86 := fun _ _ => by kernel_rfl
theorem cD9 : CallOk 89 := fun _ _ => by kernel_rfl

end Go.Proofs.Ytnjopfjmepbpoaa

/- Walks: def, Check of attr. -/
namespace Go.Proofs.Ytnjopfjmepbpoaa
set_option linter.unusedSimpArgs false
set_option linter.unusedVariables false
set_option linter.unnecessarySimpa false
open Go.RowKit

theorem flat_get {α : Type} (k : Nat) : ∀ (rows : List (List α)), (∀ r ∈ rows, r.length = k) → ∀ (i j : Nat) (r : List α) (u : α), rows[i]? = some r → r[j]? = some u → rows.flatten[i * k + j]? = some u
  | [], _, i, j, r, u, h, _ => by simp at h
  | x :: xs, hk, 0, j, r, u, h, hu => by
    simp at h; subst h
    have hj : j < x.length := (List.getElem?_eq_some_iff.1 hu).1
    rw [List.flatten_cons, Nat.zero_mul, Nat.zero_add, List.getElem?_append_left hj]
    exact hu
  | x :: xs, hk, i + 1, j, r, u, h, hu => by
    have hx := hk x (by simp)
    rw [List.flatten_cons, List.getElem?_append_right (by rw [hx, Nat.succ_mul]; omega), hx]
    have e : (i + 1) * k + j - k = i * k + j := by rw [Nat.succ_mul]; omega
    rw [e]
    exact flat_get k xs (fun r hr => hk r (by simp [hr])) i j r u (by simpa using h) hu

theorem RdS.lit (w : World) (k : Nat) (rows : List (List Value)) (hk : ∀ r ∈ rows, r.length = k) (T : TypeId) (hm : rows.length ≤ maxLen) :
    RdS (w.alloc (.cells rows.flatten.toArray T)) (.slice (some ⟨w.heap.size, 0, none⟩) rows.length rows.length) k rows := by
  refine ⟨_, _, w.heap.size, 0, rfl, Nat.le_refl _, hm, fun _ => rfl, fun i j r u hr hu => ?_⟩
  have := flat_get k rows hk i j r u hr hu
  rw [← this]
  simp [cell_of_row _ _ _ _ _ (0, 0) (heap_alloc_new w (.cells rows.flatten.toArray T))]

theorem Rules.lit (w : World) (rs : List Rule) (T : TypeId) (hm : rs.length ≤ 1000) : Rules (w.alloc (.cells (rs.map ruleC).flatten.toArray T)) (.slice (some ⟨w.heap.size, 0, none⟩) rs.length rs.length) rs := by
  have := RdS.lit w 2 (rs.map ruleC) (by intro r hr; obtain ⟨x, _, rfl⟩ := List.mem_map.1 hr; rfl) T (by simp [maxLen]; omega)
  simpa [Rules] using this

theorem Rules.mk {w : World} {g n : Nat} {T : TypeId} {cs : Array Value} (rs : List Rule) (hm : rs.length ≤ 1000) (hg : g = w.heap.size) (hn : n = rs.length) (hcs : cs = (rs.map ruleC).flatten.toArray) :
    Rules (w.alloc (.cells cs T)) (.slice (some ⟨g, 0, none⟩) n n) rs := by
  subst hg hn hcs
  exact Rules.lit w rs T hm

def defA (d : PDef) (bf : ByteArray) : List (Bool × Int) := [(!nameB d.name, 5), (leqB d.name bf, 6), (kindBad d, 130)]
def defBI (d : PDef) : List (Bool × Int) := [(rangeBad d, 131), (decide (0 < d.words.length), 3)]
def defBW (d : PDef) : List (Bool × Int) := [(formBad d, 3), (manyBad d, 2), (d.words.any fun s => !nameB s, 5), (!riseB d.words, 6)]

theorem defE_bad (d : PDef) (bf : ByteArray) (h : firstE (defA d bf) ≠ 0) : defE d bf = firstE (defA d bf) := by
  unfold defE
  revert h
  simp only [defA, firstE, kindBad]
  cases nameB d.name <;> cases leqB d.name bf <;> simp <;> (try (intro h1 h2; rw [if_neg h1, if_neg h2, if_pos ⟨h1, h2⟩]))
theorem defE_int (d : PDef) (bf : ByteArray) (h : firstE (defA d bf) = 0) (hk : d.kind = 1) : defE d bf = firstE (defBI d) := by
  unfold defE
  revert h
  simp only [defA, firstE, kindBad, defBI, rangeBad]
  cases nameB d.name <;> cases leqB d.name bf <;> simp [hk]
theorem defE_word (d : PDef) (bf : ByteArray) (h : firstE (defA d bf) = 0) (hk : d.kind ≠ 1) : defE d bf = firstE (defBW d) := by
  unfold defE
  revert h
  simp only [defA, firstE, kindBad, defBW, formBad, manyBad, wordsE]
  cases nameB d.name <;> cases leqB d.name bf <;> simp [hk]
  intro h2'
  cases riseB d.words <;> simp [h2']

theorem DefAt.box (w : World) (d : PDef) (wv : Value) (T : TypeId) : DefAt (w.alloc (.cells #[.string d.name, .int .i64 d.kind, .int .i64 d.lo, .int .i64 d.hi, wv] T)) w.heap.size 0 d wv := by
  refine ⟨?_, ?_, ?_, ?_, ?_⟩ <;> simp

theorem below_two (w : World) (o p : Obj) : Below w.heap.size w ((w.alloc o).alloc p) := (below_alloc w o).trans ((below_alloc _ p).mono (below_alloc w o).size)
theorem below_three (w : World) (o p q : Obj) : Below w.heap.size w (((w.alloc o).alloc p).alloc q) := (below_two w o p).trans ((below_alloc _ q).mono (below_two w o p).size)

theorem blift {w w1 w2 : World} (h : Below w.heap.size w w1) (h2 : Below w1.heap.size w1 w2) : Below w.heap.size w w2 := h.trans (h2.mono h.size)

/-- What the rules of a definition find: the definition in one box, the name before in another. -/
def EnvD (d : PDef) (wv : Value) (bf : ByteArray) (g h : Nat) (w : World) : Prop := DefAt w g 0 d wv ∧ Strs w wv d.words ∧ w.cell? ⟨h, 0, none⟩ = some (.string bf)
theorem EnvD.below {d : PDef} {wv : Value} {bf : ByteArray} {g h : Nat} {w w' : World} (e : EnvD d wv bf g h w) (hb : Below w.heap.size w w') : EnvD d wv bf g h w' :=
  ⟨e.1.below hb, e.2.1.below hb, below_cell hb e.2.2⟩

def rulesA (d : PDef) (bf : ByteArray) (g h : Nat) : List Rule := [⟨79, #[.pointer (some ⟨g, 0, none⟩)], !nameB d.name, 5⟩, ⟨80, #[.pointer (some ⟨g, 0, none⟩), .pointer (some ⟨h, 0, none⟩)], leqB d.name bf, 6⟩, ⟨81, #[.pointer (some ⟨g, 0, none⟩)], kindBad d, 130⟩]
def rulesBI (d : PDef) (g : Nat) : List Rule := [⟨82, #[.pointer (some ⟨g, 0, none⟩)], rangeBad d, 131⟩, ⟨83, #[.pointer (some ⟨g, 0, none⟩)], decide (0 < d.words.length), 3⟩]
def rulesBW (d : PDef) (g : Nat) : List Rule := [⟨84, #[.pointer (some ⟨g, 0, none⟩)], formBad d, 3⟩, ⟨85, #[.pointer (some ⟨g, 0, none⟩)], manyBad d, 2⟩, ⟨86, #[.pointer (some ⟨g, 0, none⟩)], d.words.any fun s => !nameB s, 5⟩, ⟨89, #[.pointer (some ⟨g, 0, none⟩)], !riseB d.words, 6⟩]

theorem runA {d : PDef} {wv : Value} {bf : ByteArray} {g h : Nat} {w : World} (e : EnvD d wv bf g h w) (hs : SmallD d) (v : Value) (hv : Rules w v (rulesA d bf g h)) :
    Calls Try.prog 32 #[v] w (RetI w (firstE (defA d bf))) := by
  refine attrFirst v (rulesA d bf g h) w hv (Nat.le_of_ble_eq_true rfl) ?_ ?_
  · intro r hr
    simp only [rulesA, List.mem_cons, List.not_mem_nil, or_false] at hr
    rcases hr with rfl | rfl | rfl
    · exact cD1
    · exact cD2
    · exact cD3
  · intro r hr w' hb
    have e' := e.below hb
    simp only [rulesA, List.mem_cons, List.not_mem_nil, or_false] at hr
    rcases hr with rfl | rfl | rfl
    · exact def1 g d wv w' e'.1 hs.1
    · exact def2 g h d wv bf w' e'.1 e'.2.2
    · exact def3 g d wv w' e'.1

theorem runBI {d : PDef} {wv : Value} {bf : ByteArray} {g h : Nat} {w : World} (e : EnvD d wv bf g h w) (hs : SmallD d) (v : Value) (hv : Rules w v (rulesBI d g)) :
    Calls Try.prog 32 #[v] w (RetI w (firstE (defBI d))) := by
  refine attrFirst v (rulesBI d g) w hv (Nat.le_of_ble_eq_true rfl) ?_ ?_
  · intro r hr
    simp only [rulesBI, List.mem_cons, List.not_mem_nil, or_false] at hr
    rcases hr with rfl | rfl
    · exact cD4
    · exact cD5
  · intro r hr w' hb
    have e' := e.below hb
    simp only [rulesBI, List.mem_cons, List.not_mem_nil, or_false] at hr
    rcases hr with rfl | rfl
    · exact def4 g d wv w' e'.1
    · exact def5 g d wv w' e'.1 e'.2.1 hs.2.1

theorem runBW {d : PDef} {wv : Value} {bf : ByteArray} {g h : Nat} {w : World} (e : EnvD d wv bf g h w) (hs : SmallD d) (v : Value) (hv : Rules w v (rulesBW d g)) :
    Calls Try.prog 32 #[v] w (RetI w (firstE (defBW d))) := by
  refine attrFirst v (rulesBW d g) w hv (Nat.le_of_ble_eq_true rfl) ?_ ?_
  · intro r hr
    simp only [rulesBW, List.mem_cons, List.not_mem_nil, or_false] at hr
    rcases hr with rfl | rfl | rfl | rfl
    · exact cD6
    · exact cD7
    · exact cD8
    · exact cD9
  · intro r hr w' hb
    have e' := e.below hb
    simp only [rulesBW, List.mem_cons, List.not_mem_nil, or_false] at hr
    rcases hr with rfl | rfl | rfl | rfl
    · exact def6 g d wv w' e'.1
    · exact def7 g d wv w' e'.1 e'.2.1 hs.2.1
    · exact def8 g d wv w' e'.1 e'.2.1 hs.2.1 hs.2.2
    · exact def9 g d wv w' e'.1 e'.2.1 hs.2.1

theorem EnvD.boxes (d : PDef) (wv : Value) (bf : ByteArray) (w : World) (hs : Strs w wv d.words) (o : Obj) :
    EnvD d wv bf w.heap.size (w.heap.size + 1) (((w.alloc (.cells #[.string d.name, .int .i64 d.kind, .int .i64 d.lo, .int .i64 d.hi, wv] 53)).alloc (.cells #[.string bf] 9)).alloc o) := by
  refine EnvD.below ⟨(DefAt.box w d wv _).below (below_alloc _ _), hs.below (below_two _ _ _), ?_⟩ (below_alloc _ _)
  have := cell_of_row _ _ 0 _ _ (0, 0) (heap_alloc_new (w.alloc (.cells #[.string d.name, .int .i64 d.kind, .int .i64 d.lo, .int .i64 d.hi, wv] 53)) (.cells #[.string bf] 9))
  simpa using this

set_option maxRecDepth 100000 in
set_option maxHeartbeats 1000000 in
theorem attrDef (d : PDef) (wv : Value) (bf : ByteArray) (w : World) (hs : Strs w wv d.words) (hsm : SmallD d) :
    Calls Try.prog 63 #[defV d wv, .string bf] w (RetI w (defE d bf)) := by
  have HE := Lib.hid (EnvD.boxes d wv bf w hs)
  have HS := Lib.hid hsm
  have HB := fun o => below_three w (.cells #[.string d.name, .int .i64 d.kind, .int .i64 d.lo, .int .i64 d.hi, wv] 53) (.cells #[.string bf] 9) o
  have HB := Lib.hid HB
  clear hs hsm
  unfold defV
  by_cases e1 : firstE (defA d bf) = 0
  · have E1 : (firstE (defA d bf) != 0) = false := by simpa using e1
    by_cases hk : d.kind = 1
    · have F := defE_int d bf e1 hk
      have K : (d.kind == 1) = true := by simpa using hk
      rw [F]
      clear F e1 hk
      go_enter Try.func63, Try.ntmps63
      go_wp2_with fail
      refine (runA (HE.out _) HS.out _ (Rules.mk (rulesA d bf _ _) (Nat.le_of_ble_eq_true rfl) (by simp) rfl rfl)).mono ?_
      rintro e w1 ⟨rfl, hb⟩
      have hE := Lib.hid ((HE.out _).below hb)
      have hB := Lib.hid (blift (HB.out _) hb)
      clear HE HB hb
      generalize firstE (defA d bf) = x1 at *
      have c1 := hE.out.1.2.1
      go_wp2_with fail
      refine (runBI (hE.out.below (below_alloc _ _)) HS.out _ (Rules.mk (rulesBI d _) (Nat.le_of_ble_eq_true rfl) (by simp) rfl rfl)).mono ?_
      rintro e w2 ⟨rfl, hb⟩
      go_wp2
      go_ret
      exact RetI.mk rfl (blift (blift hB.out (below_alloc _ _)) hb)
    · have F := defE_word d bf e1 hk
      have K : (d.kind == 1) = false := by simpa using hk
      rw [F]
      clear F e1 hk
      go_enter Try.func63, Try.ntmps63
      go_wp2_with fail
      refine (runA (HE.out _) HS.out _ (Rules.mk (rulesA d bf _ _) (Nat.le_of_ble_eq_true rfl) (by simp) rfl rfl)).mono ?_
      rintro e w1 ⟨rfl, hb⟩
      have hE := Lib.hid ((HE.out _).below hb)
      have hB := Lib.hid (blift (HB.out _) hb)
      clear HE HB hb
      generalize firstE (defA d bf) = x1 at *
      have c1 := hE.out.1.2.1
      go_wp2_with fail
      refine (runBW (hE.out.below (below_alloc _ _)) HS.out _ (Rules.mk (rulesBW d _) (Nat.le_of_ble_eq_true rfl) (by simp) rfl rfl)).mono ?_
      rintro e w2 ⟨rfl, hb⟩
      go_wp2
      go_ret
      exact RetI.mk rfl (blift (blift hB.out (below_alloc _ _)) hb)
  · have F := defE_bad d bf e1
    have E1 : (firstE (defA d bf) != 0) = true := by simpa using e1
    rw [F]
    clear F e1
    go_enter Try.func63, Try.ntmps63
    go_wp2_with fail
    refine (runA (HE.out _) HS.out _ (Rules.mk (rulesA d bf _ _) (Nat.le_of_ble_eq_true rfl) (by simp) rfl rfl)).mono ?_
    rintro e w1 ⟨rfl, hb⟩
    have hB := Lib.hid (blift (HB.out _) hb)
    clear HE HB hb
    generalize firstE (defA d bf) = x1 at *
    go_wp2
    go_ret
    exact RetI.mk rfl hB.out

end Go.Proofs.Ytnjopfjmepbpoaa

/- Walks: Check of attr. -/
namespace Go.Proofs.Ytnjopfjmepbpoaa
set_option linter.unusedSimpArgs false
set_option linter.unusedVariables false
set_option linter.unnecessarySimpa false
open Go.RowKit

def SmallS (s : PSchema) : Prop := s.defs.length ≤ 1000 ∧ ∀ d ∈ s.defs, SmallD d

def argBad (s : PSchema) : Bool := decide (s.dims < 1) || (decide (32 < s.dims) || (decide (s.metric < 1) || decide (3 < s.metric)))
def chkGo (x : Int) (b : ByteArray) (l : List PDef) : Int := if x ≠ 0 then x else defsE b l
theorem chkGo_drop (l : List PDef) (k : Nat) (b : ByteArray) (d : PDef) (h : l[k]? = some d) : chkGo 0 b (l.drop k) = chkGo (defE d b) d.name (l.drop (k+1)) := by
  obtain ⟨hk, rfl⟩ := List.getElem?_eq_some_iff.1 h
  rw [List.drop_eq_getElem_cons (by omega)]
  simp [chkGo, defsE]
theorem chkGo_end (l : List PDef) (k : Nat) (x : Int) (b : ByteArray) (h : l.length ≤ k) : chkGo x b (l.drop k) = x := by
  rw [List.drop_eq_nil_of_le h]
  simp [chkGo, defsE]
  intro h; exact h.symm
theorem chkGo_bad (x : Int) (b : ByteArray) (l : List PDef) (h : x ≠ 0) : chkGo x b l = x := by simp [chkGo, h]

theorem checkE_chk (s : PSchema) : checkE s = chkGo (firstE [(argBad s, 1), (decide (16 < s.defs.length), 2)]) ByteArray.empty s.defs := by
  unfold checkE chkGo
  simp only [firstE, argBad, Bool.or_eq_true, decide_eq_true_eq]
  by_cases h : s.dims < 1 ∨ 32 < s.dims ∨ s.metric < 1 ∨ 3 < s.metric
  · simp only [if_pos h]; simp
  · by_cases h2 : 16 < s.defs.length
    · simp only [if_neg h, if_pos h2]; simp
    · simp only [if_neg h, if_neg h2]; simp

/-- A schema in a box. -/
def SchAt (w : World) (g : Nat) (s : PSchema) (dv : Value) : Prop := w.cell? ⟨g, 0, none⟩ = some (.int .i64 s.dims) ∧ w.cell? ⟨g, 1, none⟩ = some (.int .i64 s.metric) ∧ w.cell? ⟨g, 2, none⟩ = some dv ∧ Defs w dv s.defs
theorem SchAt.below {w w' : World} {g : Nat} {s : PSchema} {dv : Value} (h : SchAt w g s dv) (hb : Below w.heap.size w w') : SchAt w' g s dv :=
  ⟨below_cell hb h.1, below_cell hb h.2.1, below_cell hb h.2.2.1, h.2.2.2.below hb⟩
theorem SchAt.box (w : World) (s : PSchema) (dv : Value) (T : TypeId) (h : Defs w dv s.defs) : SchAt (w.alloc (.cells #[.int .i64 s.dims, .int .i64 s.metric, dv] T)) w.heap.size s dv := by
  refine ⟨?_, ?_, ?_, h.below (below_alloc _ _)⟩ <;> simp

theorem check1 (g : Nat) (s : PSchema) (dv : Value) (w : World) (h : SchAt w g s dv) : Calls Try.prog 61 #[.pointer (some ⟨g, 0, none⟩)] w (RetB w (argBad s)) := by
  obtain ⟨c0, c1, c2, -⟩ := h
  cases e : decide (s.dims < 1) <;> cases e2 : decide (32 < s.dims) <;> cases e3 : decide (s.metric < 1)
  all_goals
    go_enter Try.func61, Try.ntmps61
    go_wp2
    go_ret
    exact RetB.mk (by simp [argBad, e, e2, e3]) (Below.refl _ _)

theorem check2 (g : Nat) (s : PSchema) (dv : Value) (w : World) (h : SchAt w g s dv) (hl : s.defs.length ≤ 1000) : Calls Try.prog 62 #[.pointer (some ⟨g, 0, none⟩)] w (RetB w (decide (16 < s.defs.length))) := by
  obtain ⟨c0, c1, c2, hd⟩ := h
  obtain ⟨a, cap, b, off, rfl, -⟩ := hd.open
  have e : decide ((16 : Int) < (s.defs.length : Int)) = decide (16 < s.defs.length) := by rw [Bool.eq_iff_iff]; simp only [decide_eq_true_eq]; omega
  have E := Lib.hid e
  clear e
  go_enter Try.func62, Try.ntmps62
  go_wp2
  go_ret
  exact RetB.mk E.out (Below.refl _ _)

theorem cC1 : CallOk 61 := fun _ _ => by kernel_rfl
theorem cC2 : CallOk 62 := fun _ _ => by kernel_rfl

def rulesC (s : PSchema) (g : Nat) : List Rule := [⟨61, #[.pointer (some ⟨g, 0, none⟩)], argBad s, 1⟩, ⟨62, #[.pointer (some ⟨g, 0, none⟩)], decide (16 < s.defs.length), 2⟩]
theorem runC {s : PSchema} {dv : Value} {g : Nat} {w : World} (e : SchAt w g s dv) (hl : s.defs.length ≤ 1000) (v : Value) (hv : Rules w v (rulesC s g)) :
    Calls Try.prog 32 #[v] w (RetI w (firstE [(argBad s, 1), (decide (16 < s.defs.length), 2)])) := by
  refine attrFirst v (rulesC s g) w hv (Nat.le_of_ble_eq_true rfl) ?_ ?_
  · intro r hr
    simp only [rulesC, List.mem_cons, List.not_mem_nil, or_false] at hr
    rcases hr with rfl | rfl
    · exact cC1
    · exact cC2
  · intro r hr w' hb
    have e' := e.below hb
    simp only [rulesC, List.mem_cons, List.not_mem_nil, or_false] at hr
    rcases hr with rfl | rfl
    · exact check1 g s dv w' e'
    · exact check2 g s dv w' e' hl

set_option maxRecDepth 100000 in
set_option maxHeartbeats 1000000 in
theorem attrCheck (v : Value) (s : PSchema) (w : World) (hv : SchemaV w v s) (hsm : SmallS s) : Calls Try.prog 25 #[v] w (RetI w (checkE s)) := by
  obtain ⟨dv, rfl, hd⟩ := hv
  obtain ⟨s1, s2⟩ := hsm
  have S2 : Hid (∀ d ∈ s.defs, SmallD d) := s2
  have HB := Lib.hid (SchAt.box w s dv 24 hd)
  have hw0 : Below w.heap.size w (w.alloc (.cells #[.int .i64 s.dims, .int .i64 s.metric, dv] 24)) := below_alloc _ _
  have C := Lib.hid (checkE_chk s)
  clear s2 hd
  go_enter Try.func25, Try.ntmps25
  go_wp2_with fail
  generalize hw : w.alloc (.cells #[.int .i64 s.dims, .int .i64 s.metric, dv] 24) = w0 at *
  have hsz : w.heap.size + 1 = w0.heap.size := by rw [← hw]; simp
  clear hw
  refine (runC (HB.out.below (below_alloc _ _)) (by omega) _ (Rules.mk (rulesC s _) (Nat.le_of_ble_eq_true rfl) (by rw [← hsz]) rfl rfl)).mono ?_
  rintro e w1 ⟨rfl, hb⟩
  have hb1 := blift (below_alloc _ _) hb
  clear hb hsz
  generalize firstE [(argBad s, 1), (decide (16 < s.defs.length), 2)] = x1 at *
  have ha := HB.out.2.2.2.open
  go_wp2
  go_loopw [3, 4, 5] (fun e b i wr => ∃ (k : Nat) (x : Int) (bf : ByteArray), k ≤ s.defs.length ∧ i = .int .i64 k ∧ e = .int .i64 x ∧ b = .string bf ∧ Below w0.heap.size w0 wr ∧ Hid (checkE s = chkGo x bf (s.defs.drop k))) (fun _ _ i _ => s.defs.length - (intOf i).toNat)
  case atStart => exact ⟨0, x1, _, by omega, rfl, rfl, rfl, hb1, C.out⟩
  case round =>
    obtain ⟨k, x, bf, hk, rfl, rfl, rfl, hb, hh⟩ := hrel
    obtain ⟨a, cap, b, off, rfl, -, -, ha, hc⟩ := ha
    have HS := Lib.hid (HB.out.below hb)
    have c2 := HS.out.2.2.1
    by_cases hlt : k < s.defs.length
    · by_cases hx : x = 0
      · subst hx
        obtain ⟨y, hy⟩ := ints_get s.defs k (by omega)
        obtain ⟨wv, hd, hs⟩ := hc.out k y hy
        obtain ⟨d0, d1, d2, d3, d4⟩ := hd.below hb
        have H := Lib.hid (chkGo_drop s.defs k bf y hy)
        have hs' := Lib.hid (hs.below hb)
        have hsm := Lib.hid (S2.out y (List.mem_of_getElem? hy))
        obtain rfl := ha (by omega)
        clear hs hd hc hy ha
        go_wp2_with fail
        refine (attrDef y wv bf _ hs'.out hsm.out).mono ?_
        rintro e w2 ⟨rfl, hb2⟩
        have d0' := below_cell hb2 d0
        have c2' := below_cell hb2 c2
        have hb3 := blift hb hb2
        clear hb hb2 d0 d1 d2 d3 d4 c2 hs'
        go_wp2
        go_roundw
        case rel => exact ⟨k + 1, _, _, by omega, by go_num, rfl, rfl, hb3, by rw [Hid, hh.out, H.out]⟩
        case measure => simp [intOf]; omega
      · have hx' : (x == 0) = false := by simpa using hx
        have F := Lib.hid (chkGo_bad x bf (s.defs.drop k) hx)
        clear hx hc ha
        go_wp2
        go_ret
        exact RetI.mk (by rw [hh.out, F.out]) (blift hw0 hb)
    · have F := Lib.hid (chkGo_end s.defs k x bf (by omega))
      clear hc ha
      go_wp2
      go_ret
      exact RetI.mk (by rw [hh.out, F.out]) (blift hw0 hb)

end Go.Proofs.Ytnjopfjmepbpoaa

/- Walks: FewDefs, Few, Find of antiquaryref13. -/
namespace Go.Proofs.Ytnjopfjmepbpoaa
set_option linter.unusedSimpArgs false
set_option linter.unusedVariables false
set_option linter.unnecessarySimpa false
open Go.RowKit

def FewRet (w : World) (p : Prop) (e : Ending) (w' : World) : Prop := ∃ b : Bool, e = .returned (.bool b) ∧ (b = true → p) ∧ Below w.heap.size w w'
theorem FewRet.mk {w w' : World} {p : Prop} {b : Bool} (h : b = true → p) (hb : Below w.heap.size w w') : FewRet w p (.returned (.bool b)) w' := ⟨b, rfl, h, hb⟩

def FewD (d : PDef) : Prop := d.words.length ≤ 60 ∧ d.name.size ≤ 100 ∧ ∀ s ∈ d.words, s.size ≤ 100
def FewS (s : PSchema) : Prop := s.defs.length ≤ 20 ∧ ∀ d ∈ s.defs, FewD d
theorem FewS.small {s : PSchema} (h : FewS s) : SmallS s := ⟨by have := h.1; omega, fun d hd => ⟨by have := (h.2 d hd).2.1; omega, by have := (h.2 d hd).1; omega, fun x hx => by have := (h.2 d hd).2.2 x hx; omega⟩⟩

theorem forall_snoc {α : Type} (l : List α) (p : α → Prop) (k : Nat) (y : α) (hy : l[k]? = some y) (h : ∀ (j : Nat) (x : α), j < k → l[j]? = some x → p x) (hp : p y) : ∀ (j : Nat) (x : α), j < k + 1 → l[j]? = some x → p x := by
  intro j x hj hx
  by_cases e : j = k
  · subst e; rw [hy] at hx; cases hx; exact hp
  · exact h j x (by omega) hx
theorem forall_all {α : Type} (l : List α) (p : α → Prop) (k : Nat) (hk : l.length ≤ k) (h : ∀ (j : Nat) (x : α), j < k → l[j]? = some x → p x) : ∀ x ∈ l, p x := by
  intro x hx
  obtain ⟨j, hj⟩ := List.getElem?_of_mem hx
  have := (List.getElem?_eq_some_iff.1 hj).1
  exact h j x (by omega) hj

set_option maxRecDepth 100000 in
set_option maxHeartbeats 1000000 in
theorem refFewDefs (v : Value) (s : PSchema) (w : World) (hv : SchemaV w v s) : Calls Try.prog 7 #[v, .int .i64 20] w (FewRet w (FewS s)) := by
  obtain ⟨dv, rfl, hd⟩ := hv
  have HB := Lib.hid (SchAt.box w s dv 24 hd)
  have hw0 : Below w.heap.size w (w.alloc (.cells #[.int .i64 s.dims, .int .i64 s.metric, dv] 24)) := below_alloc _ _
  obtain ⟨a, cap, b, off, rfl, hcap, hm, ha, hc⟩ := HB.out.2.2.2.open
  unfold maxLen at hm
  clear hd
  go_enter Try.func7, Try.ntmps7
  go_wp2
  generalize hw : w.alloc (.cells #[.int .i64 s.dims, .int .i64 s.metric, .slice a s.defs.length cap] 24) = w0 at *
  clear hw
  go_loopw [5] (fun i wr => ∃ k : Nat, k ≤ s.defs.length ∧ k ≤ 21 ∧ i = .int .i64 k ∧ Below w0.heap.size w0 wr ∧ Hid (∀ (j : Nat) (x : PDef), j < k → s.defs[j]? = some x → FewD x)) (fun i _ => s.defs.length - (intOf i).toNat)
  case atStart => exact ⟨0, by omega, by omega, rfl, Below.refl _ _, fun j x hj => absurd hj (by omega)⟩
  case round =>
    obtain ⟨k, hk, hk2, rfl, hb, hh⟩ := hrel
    have c2 := (HB.out.below hb).2.2.1
    by_cases hlt : k < s.defs.length
    · by_cases h20 : k ≤ 20
      · have h20' : decide ((k : Int) ≤ 20) = true := by simp only [decide_eq_true_eq]; omega
        obtain ⟨y, hy⟩ := ints_get s.defs k (by omega)
        obtain ⟨wv, hd, hs⟩ := hc.out k y hy
        obtain ⟨d0, d1, d2, d3, d4⟩ := hd.below hb
        have hs' := hs.below hb
        obtain ⟨a2, cap2, b2, off2, rfl, hcap2, hm2, ha2, hc2⟩ := hs'.open
        unfold maxLen at hm2
        obtain rfl := ha (by omega)
        have Y := Lib.hid hy
        have hbl := World.block_lt_of_cell? _ _ d0
        clear hs hd hy ha hs'
        by_cases g1 : 60 < y.words.length
        · have g1' : decide ((60 : Int) < (y.words.length : Int)) = true := by simp only [decide_eq_true_eq]; omega
          clear hc2 ha2
          go_wp2
          go_ret
          exact FewRet.mk (fun h => by cases h) (blift (blift hw0 hb) (below_alloc _ _))
        · have g1' : decide ((60 : Int) < (y.words.length : Int)) = false := by simp only [decide_eq_false_iff_not]; omega
          by_cases g2 : 100 < y.name.size
          · have g2' : decide ((100 : Int) < (y.name.size : Int)) = true := by simp only [decide_eq_true_eq]; omega
            clear hc2 ha2
            go_wp2
            go_ret
            exact FewRet.mk (fun h => by cases h) (blift (blift hw0 hb) (below_alloc _ _))
          · have g2' : decide ((100 : Int) < (y.name.size : Int)) = false := by simp only [decide_eq_false_iff_not]; omega
            go_wp2
            obtain ⟨wo, hwo⟩ : ∃ wo : World, wo = wr := ⟨wr, rfl⟩
            have hwo := Lib.hid hwo
            go_loop [7] (fun i => ∃ q : Nat, q ≤ y.words.length ∧ i = .int .i64 q ∧ Hid (∀ (j : Nat) (x : ByteArray), j < q → y.words[j]? = some x → x.size ≤ 100)) (fun i => y.words.length - (intOf i).toNat)
            case atStart => exact ⟨0, by omega, rfl, fun j x hj => absurd hj (by omega)⟩
            case round =>
              obtain ⟨q, hq, rfl, hq2⟩ := hrel
              by_cases hlt2 : q < y.words.length
              · obtain ⟨z, hz⟩ := ints_get y.words q (by omega)
                have z0 := hc2.out q z hz
                obtain rfl := ha2 (by omega)
                have Z := Lib.hid hz
                have hbl2 := World.block_lt_of_cell? _ _ z0
                clear hz ha2
                by_cases g3 : 100 < z.size
                · have g3' : decide ((100 : Int) < (z.size : Int)) = true := by simp only [decide_eq_true_eq]; omega
                  go_wp2
                  go_ret
                  exact FewRet.mk (fun h => by cases h) (blift (blift hw0 hb) (below_alloc _ _))
                · have g3' : decide ((100 : Int) < (z.size : Int)) = false := by simp only [decide_eq_false_iff_not]; omega
                  go_wp2
                  go_round
                  case rel => exact ⟨q + 1, by omega, by go_num, forall_snoc _ _ _ _ Z.out hq2.out (by omega)⟩
                  case measure => simp [intOf]; omega
              · go_wp2
                go_roundw
                case rel => exact ⟨k + 1, by omega, by omega, by go_num, blift hb (below_alloc _ _), forall_snoc _ _ _ _ Y.out hh.out ⟨by omega, by omega, forall_all _ _ q (by omega) hq2.out⟩⟩
                case measure => simp [intOf]; omega
      · have h20' : decide ((k : Int) ≤ 20) = false := by simp only [decide_eq_false_iff_not]; omega
        have h21 : decide ((s.defs.length : Int) ≤ 20) = false := by simp only [decide_eq_false_iff_not]; omega
        clear hc ha
        go_wp2
        go_ret
        exact FewRet.mk (fun h => by cases h) (blift hw0 hb)
    · have H := Lib.hid (forall_all _ _ k (by omega) hh.out)
      clear hc ha
      go_wp2
      go_ret
      exact FewRet.mk (fun h => ⟨by have := of_decide_eq_true h; omega, H.out⟩) (blift hw0 hb)

/-- An entry in a box. -/
def EntAt (w : World) (g : Nat) (e : PEntry) (vv av : Value) : Prop :=
  w.cell? ⟨g, 0, none⟩ = some (.int .i64 e.id) ∧ w.cell? ⟨g, 1, none⟩ = some (.int .i64 e.ver) ∧ w.cell? ⟨g, 2, none⟩ = some (.int .i64 e.owner) ∧ w.cell? ⟨g, 3, none⟩ = some (.int .i64 e.filed) ∧
  w.cell? ⟨g, 4, none⟩ = some (.int .i64 e.frm) ∧ w.cell? ⟨g, 5, none⟩ = some (.int .i64 e.to) ∧ w.cell? ⟨g, 6, none⟩ = some (.int .i64 e.born) ∧ w.cell? ⟨g, 7, none⟩ = some vv ∧ w.cell? ⟨g, 8, none⟩ = some av ∧ Ints w vv e.vec ∧ Attrs w av e.attrs
theorem EntAt.below {w w' : World} {g : Nat} {e : PEntry} {vv av : Value} (h : EntAt w g e vv av) (hb : Below w.heap.size w w') : EntAt w' g e vv av := by
  obtain ⟨h0, h1, h2, h3, h4, h5, h6, h7, h8, h9, h10⟩ := h
  exact ⟨below_cell hb h0, below_cell hb h1, below_cell hb h2, below_cell hb h3, below_cell hb h4, below_cell hb h5, below_cell hb h6, below_cell hb h7, below_cell hb h8, h9.below hb, h10.below hb⟩
def entCells (e : PEntry) (vv av : Value) : Array Value := #[.int .i64 e.id, .int .i64 e.ver, .int .i64 e.owner, .int .i64 e.filed, .int .i64 e.frm, .int .i64 e.to, .int .i64 e.born, vv, av]
theorem EntAt.box (w : World) (e : PEntry) (vv av : Value) (T : TypeId) (h : Ints w vv e.vec) (h2 : Attrs w av e.attrs) : EntAt (w.alloc (.cells #[.int .i64 e.id, .int .i64 e.ver, .int .i64 e.owner, .int .i64 e.filed, .int .i64 e.frm, .int .i64 e.to, .int .i64 e.born, vv, av] T)) w.heap.size e vv av := by
  refine ⟨?_, ?_, ?_, ?_, ?_, ?_, ?_, ?_, ?_, h.below (below_alloc _ _), h2.below (below_alloc _ _)⟩ <;> simp

def FewA (a : PAttr) : Prop := a.name.size ≤ 300 ∧ a.s.size ≤ 300
def FewE (e : PEntry) : Prop := e.vec.length ≤ 40 ∧ e.attrs.length ≤ 20 ∧ ∀ a ∈ e.attrs, FewA a

set_option maxRecDepth 100000 in
set_option maxHeartbeats 1000000 in
theorem refFew (v : Value) (x : PEntry) (w : World) (hv : EntryV w v x) : Calls Try.prog 9 #[v] w (FewRet w (FewE x)) := by
  obtain ⟨vv, av, rfl, hi, hatt⟩ := hv
  have HB := Lib.hid (EntAt.box w x vv av 28 hi hatt)
  have hw0 : Below w.heap.size w (w.alloc (.cells #[.int .i64 x.id, .int .i64 x.ver, .int .i64 x.owner, .int .i64 x.filed, .int .i64 x.frm, .int .i64 x.to, .int .i64 x.born, vv, av] 28)) := below_alloc _ _
  obtain ⟨a1, cap1, b1, off1, rfl, -, hm1, -, -⟩ := hi.open
  obtain ⟨a, cap, b, off, rfl, hcap, hm, ha, hc⟩ := HB.out.2.2.2.2.2.2.2.2.2.2.open
  unfold maxLen at hm hm1
  clear hi hatt
  unfold entryVal
  go_enter Try.func9, Try.ntmps9
  go_wp2
  generalize hw : w.alloc (.cells #[.int .i64 x.id, .int .i64 x.ver, .int .i64 x.owner, .int .i64 x.filed, .int .i64 x.frm, .int .i64 x.to, .int .i64 x.born, .slice a1 x.vec.length cap1, .slice a x.attrs.length cap] 28) = w0 at *
  clear hw
  obtain ⟨-, -, -, -, -, -, -, b7, b8, -, -⟩ := HB.out
  go_loop [3] (fun i => ∃ k : Nat, k ≤ x.attrs.length ∧ k ≤ 21 ∧ i = .int .i64 k ∧ Hid (∀ (j : Nat) (y : PAttr), j < k → x.attrs[j]? = some y → FewA y)) (fun i => x.attrs.length - (intOf i).toNat)
  case atStart => exact ⟨0, by omega, by omega, rfl, fun j x hj => absurd hj (by omega)⟩
  case round =>
    obtain ⟨k, hk, hk2, rfl, hh⟩ := hrel
    by_cases hlt : k < x.attrs.length
    · by_cases h20 : k ≤ 20
      · have h20' : decide ((k : Int) ≤ 20) = true := by simp only [decide_eq_true_eq]; omega
        obtain ⟨y, hy⟩ := ints_get x.attrs k (by omega)
        obtain ⟨d0, d1, d2, d3⟩ := hc.out k y hy
        obtain rfl := ha (by omega)
        have Y := Lib.hid hy
        clear hy ha hc
        by_cases g1 : 300 < y.name.size
        · have g1' : decide ((300 : Int) < (y.name.size : Int)) = true := by simp only [decide_eq_true_eq]; omega
          go_wp2
          go_ret
          exact FewRet.mk (fun h => by cases h) hw0
        · have g1' : decide ((300 : Int) < (y.name.size : Int)) = false := by simp only [decide_eq_false_iff_not]; omega
          by_cases g2 : 300 < y.s.size
          · have g2' : decide ((300 : Int) < (y.s.size : Int)) = true := by simp only [decide_eq_true_eq]; omega
            go_wp2
            go_ret
            exact FewRet.mk (fun h => by cases h) hw0
          · have g2' : decide ((300 : Int) < (y.s.size : Int)) = false := by simp only [decide_eq_false_iff_not]; omega
            go_wp2
            go_round
            case rel => exact ⟨k + 1, by omega, by omega, by go_num, forall_snoc _ _ _ _ Y.out hh.out ⟨by omega, by omega⟩⟩
            case measure => simp [intOf]; omega
      · have h20' : decide ((k : Int) ≤ 20) = false := by simp only [decide_eq_false_iff_not]; omega
        have h21 : decide ((x.attrs.length : Int) ≤ 20) = false := by simp only [decide_eq_false_iff_not]; omega
        clear hc ha
        by_cases g1 : x.vec.length ≤ 40
        all_goals
          have g1' : decide ((x.vec.length : Int) ≤ 40) = decide (x.vec.length ≤ 40) := by rw [Bool.eq_iff_iff]; simp only [decide_eq_true_eq]; omega
          simp only [g1, decide_true, decide_false] at g1'
          go_wp2
          go_ret
          exact FewRet.mk (fun h => by cases h) hw0
    · have H := Lib.hid (forall_all _ _ k (by omega) hh.out)
      clear hc ha
      by_cases g1 : x.vec.length ≤ 40
      · have g1' : decide ((x.vec.length : Int) ≤ 40) = true := by simp only [decide_eq_true_eq]; omega
        go_wp2
        go_ret
        exact FewRet.mk (fun h => ⟨g1, by have := of_decide_eq_true h; omega, H.out⟩) hw0
      · have g1' : decide ((x.vec.length : Int) ≤ 40) = false := by simp only [decide_eq_false_iff_not]; omega
        go_wp2
        go_ret
        exact FewRet.mk (fun h => by cases h) hw0

set_option maxRecDepth 100000 in
set_option maxHeartbeats 1000000 in
theorem refFind (v : Value) (s : PSchema) (nm : ByteArray) (w : World) (hv : SchemaV w v s) (hl : s.defs.length ≤ 1000) : Calls Try.prog 39 #[v, .string nm] w (RetI w (findI s.defs nm)) := by
  obtain ⟨dv, rfl, hd⟩ := hv
  have HB := Lib.hid (SchAt.box w s dv 24 hd)
  have hw0 : Below w.heap.size w (w.alloc (.cells #[.int .i64 s.dims, .int .i64 s.metric, dv] 24)) := below_alloc _ _
  obtain ⟨a, cap, b, off, rfl, hcap, hm, ha, hc⟩ := HB.out.2.2.2.open
  clear hd
  go_enter Try.func39, Try.ntmps39
  go_wp2
  generalize hw : w.alloc (.cells #[.int .i64 s.dims, .int .i64 s.metric, .slice a s.defs.length cap] 24) = w0 at *
  clear hw
  have c2 := HB.out.2.2.1
  go_loop [5] (fun i => ∃ k : Nat, k ≤ s.defs.length ∧ i = .int .i64 k ∧ Hid (findI s.defs nm = idxGo ((s.defs.map fun d => eqB d.name nm).drop k) k)) (fun i => s.defs.length - (intOf i).toNat)
  case atStart => exact ⟨0, by omega, rfl, rfl⟩
  case round =>
    obtain ⟨k, hk, rfl, hh⟩ := hrel
    by_cases hlt : k < s.defs.length
    · obtain ⟨y, hy⟩ := ints_get s.defs k (by omega)
      obtain ⟨wv, ⟨d0, d1, d2, d3, d4⟩, -⟩ := hc.out k y hy
      have H : Hid (_ = _) := idxGo_drop (s.defs.map fun d => eqB d.name nm) k (eqB y.name nm) (by simp [hy])
      obtain rfl := ha (by omega)
      clear hy ha hc
      cases e : eqB y.name nm
      · have e' : (y.name.toList == nm.toList) = false := e
        have E := Lib.hid e
        clear e
        go_wp2
        go_round
        case rel => exact ⟨k + 1, by omega, by go_num, by rw [Hid, hh.out, H.out, E.out]; rfl⟩
        case measure => simp [intOf]; omega
      · have e' : (y.name.toList == nm.toList) = true := e
        have E := Lib.hid e
        clear e
        go_wp2
        go_ret
        exact RetI.mk (by rw [hh.out, H.out, E.out]; rfl) hw0
    · clear hc ha
      go_wp2
      go_ret
      exact RetI.mk (by rw [hh.out, idxGo_end _ _ (by simp; omega)]) hw0

end Go.Proofs.Ytnjopfjmepbpoaa

/- Walks: Value, Get of antiquaryref13; Get of attr. -/
namespace Go.Proofs.Ytnjopfjmepbpoaa
set_option linter.unusedSimpArgs false
set_option linter.unusedVariables false
set_option linter.unnecessarySimpa false
open Go.RowKit

theorem AttrAt.box (w : World) (a : PAttr) (T : TypeId) : AttrAt (w.alloc (.cells #[.string a.name, .int .i64 a.kind, .int .i64 a.n, .string a.s] T)) w.heap.size 0 a := by
  refine ⟨?_, ?_, ?_, ?_⟩ <;> simp

theorem eqB_empty (s : ByteArray) : eqB s ByteArray.empty = s.toList.isEmpty := by
  have e : ByteArray.empty.toList = [] := by unfold ByteArray.toList ByteArray.toList.loop; rfl
  unfold eqB
  rw [e]
  cases h : s.toList <;> rfl

set_option maxRecDepth 100000 in
set_option maxHeartbeats 1000000 in
theorem refValue (d : PDef) (wv : Value) (a : PAttr) (w : World) (hs : Strs w wv d.words) (hl : d.words.length ≤ 1000) :
    Calls Try.prog 40 #[defV d wv, attrV a] w (RetI w (valueE d a)) := by
  have HS := Lib.hid (hs.below (below_two w (.cells #[.string d.name, .int .i64 d.kind, .int .i64 d.lo, .int .i64 d.hi, wv] 53) (.cells #[.string a.name, .int .i64 a.kind, .int .i64 a.n, .string a.s] 35)))
  have hw0 := below_two w (.cells #[.string d.name, .int .i64 d.kind, .int .i64 d.lo, .int .i64 d.hi, wv] 53) (.cells #[.string a.name, .int .i64 a.kind, .int .i64 a.n, .string a.s] 35)
  clear hs
  unfold defV attrV
  by_cases h1 : a.kind = d.kind
  · have h1' : (a.kind != d.kind) = false := by simp [h1]
    by_cases h2 : a.kind = 1
    · have h2' : (a.kind == 1) = true := by simp [h2]
      cases h3 : a.s.toList.isEmpty
      · have F := Lib.hid (show valueE d a = 3 by rw [valueE, if_neg (by simp [h1]), if_pos h2, if_pos (by rw [eqB_empty, h3])])
        clear h1 h2
        go_enter Try.func40, Try.ntmps40
        go_wp2
        go_ret
        exact RetI.mk F.out.symm hw0
      · have F := Lib.hid (show valueE d a = if a.n < d.lo ∨ d.hi < a.n then 131 else 0 by rw [valueE, if_neg (by simp [h1]), if_pos h2, if_neg (by rw [eqB_empty, h3]; simp)])
        have h3' : a.s.toList = [] := by simpa using h3
        clear h1 h2
        cases r1 : decide (a.n < d.lo) <;> cases r2 : decide (d.hi < a.n)
        all_goals
          go_enter Try.func40, Try.ntmps40
          go_wp2
          go_ret
          refine RetI.mk ?_ hw0
          rw [F.out]
          simp at r1 r2
          split <;> first | rfl | omega
    · have h2' : (a.kind == 1) = false := by simp [h2]
      by_cases h3 : a.n = 0
      · have h3' : (a.n != 0) = false := by simp [h3]
        have F := Lib.hid (show valueE d a = if hasB d.words a.s then 0 else 131 by rw [valueE, if_neg (by simp [h1]), if_neg h2, if_neg (by simp [h3])])
        clear h1 h2 h3
        cases h4 : hasB d.words a.s
        all_goals
          have H4 := Lib.hid h4
          clear h4
          go_enter Try.func40, Try.ntmps40
          go_wp2_with fail
          refine (refHasS _ d.words a.s _ HS.out (by omega)).mono ?_
          rintro e w' ⟨rfl, rfl⟩
          rw [H4.out]
          go_wp2
          go_ret
          exact RetI.mk (by rw [F.out, H4.out]; rfl) hw0
      · have h3' : (a.n != 0) = true := by simp [h3]
        have F := Lib.hid (show valueE d a = 3 by rw [valueE, if_neg (by simp [h1]), if_neg h2, if_pos h3])
        clear h1 h2 h3
        go_enter Try.func40, Try.ntmps40
        go_wp2
        go_ret
        exact RetI.mk F.out.symm hw0
  · have h1' : (a.kind != d.kind) = true := by simp [h1]
    have F := Lib.hid (show valueE d a = 130 by rw [valueE, if_pos h1])
    clear h1
    go_enter Try.func40, Try.ntmps40
    go_wp2
    go_ret
    exact RetI.mk F.out.symm hw0

theorem getA_drop (l : List PAttr) (nm : ByteArray) (k : Nat) (a : PAttr) (h : l[k]? = some a) : getA (l.drop k) nm = if eqB a.name nm then (a, true) else getA (l.drop (k+1)) nm := by
  obtain ⟨hk, rfl⟩ := List.getElem?_eq_some_iff.1 h
  rw [List.drop_eq_getElem_cons (by omega), getA]
theorem getA_end (l : List PAttr) (nm : ByteArray) (k : Nat) (h : l.length ≤ k) : getA (l.drop k) nm = (zeroA, false) := by
  rw [List.drop_eq_nil_of_le h, getA]

/-- A call returns Got{A, Is}. -/
def GotRet (w : World) (r : PAttr × Bool) (e : Ending) (w' : World) : Prop :=
  e = .returned (.agg #[.string r.1.name, .int .i64 r.1.kind, .int .i64 r.1.n, .string r.1.s, .bool r.2]) ∧ Below w.heap.size w w'
theorem GotRet.mk {w w' : World} {r : PAttr × Bool} {a : PAttr} {b : Bool} (h : r = (a, b)) (hb : Below w.heap.size w w') : GotRet w r (.returned (.agg #[.string a.name, .int .i64 a.kind, .int .i64 a.n, .string a.s, .bool b])) w' := by
  subst h; exact ⟨rfl, hb⟩

set_option maxRecDepth 100000 in
set_option maxHeartbeats 1000000 in
theorem refGet (v : Value) (l : List PAttr) (nm : ByteArray) (w : World) (hv : Attrs w v l) (hl : l.length ≤ 1000000) :
    Calls Try.prog 12 #[v, .string nm] w (GotRet w (getA l nm)) := by
  obtain ⟨a, cap, b, off, rfl, hcap, hm, ha, hc⟩ := hv.open
  clear hv
  go_enter Try.func12, Try.ntmps12
  go_wp2
  go_loop [5] (fun i => ∃ k : Nat, k ≤ l.length ∧ i = .int .i64 k ∧ Hid (getA l nm = getA (l.drop k) nm)) (fun i => l.length - (intOf i).toNat)
  case atStart => exact ⟨0, by omega, rfl, rfl⟩
  case round =>
    obtain ⟨k, hk, rfl, hh⟩ := hrel
    by_cases hlt : k < l.length
    · obtain ⟨y, hy⟩ := ints_get l k (by omega)
      obtain ⟨c0, c1, c2, c3⟩ := hc.out k y hy
      obtain rfl := ha (by omega)
      have hbl : b < w.heap.size := World.block_lt_of_cell? _ _ c0
      have H := Lib.hid (getA_drop l nm k y hy)
      clear ha hy hc
      cases e : eqB y.name nm
      · have e' : (y.name.toList == nm.toList) = false := e
        have E := Lib.hid e
        clear e
        go_wp2
        go_round
        case rel => exact ⟨k + 1, by omega, by go_num, by rw [Hid, hh.out, H.out, E.out]; rfl⟩
        case measure => simp [intOf]; omega
      · have e' : (y.name.toList == nm.toList) = true := e
        have E := Lib.hid e
        clear e
        go_wp2
        refine bodyPost_ret (v := .agg #[.string y.name, .int .i64 y.kind, .int .i64 y.n, .string y.s, .bool true]) (by simp [results, Try.results12, go_sem]) rfl (GotRet.mk ?_ (below_alloc _ _))
        rw [hh.out, H.out, E.out]; rfl
    · clear hc ha
      go_wp2
      refine bodyPost_ret (v := .agg #[.string ⟨#[]⟩, .int .i64 0, .int .i64 0, .string ⟨#[]⟩, .bool false]) (by simp [results, Try.results12, go_sem]) rfl (GotRet.mk (a := zeroA) ?_ (below_alloc _ _))
      rw [hh.out, getA_end _ _ _ (by omega)]

theorem get1 (g : Nat) (x : PAttr) (nm : ByteArray) (w : World) (c5 : w.cell? ⟨g, 0, none⟩ = some (.string nm)) :
    Calls Try.prog 29 #[attrV x, .pointer (some ⟨g, 0, none⟩)] w (RetB w (eqB x.name nm)) := by
  have hlt := World.block_lt_of_cell? _ _ c5
  unfold attrV
  go_enter Try.func29, Try.ntmps29
  go_wp2
  go_ret
  exact RetB.mk rfl (below_alloc _ _)
theorem cG1 : CallOk 29 := fun _ _ => by kernel_rfl

theorem getA_idx (l : List PAttr) (nm : ByteArray) : (idxB (l.map fun x => eqB x.name nm) = -1 ∧ getA l nm = (zeroA, false)) ∨
    ∃ (k : Nat) (a : PAttr), idxB (l.map fun x => eqB x.name nm) = k ∧ l[k]? = some a ∧ getA l nm = (a, true) := by
  have key : ∀ (l : List PAttr) (j : Nat), (idxGo (l.map fun x => eqB x.name nm) j = -1 ∧ getA l nm = (zeroA, false)) ∨
      ∃ (k : Nat) (a : PAttr), idxGo (l.map fun x => eqB x.name nm) j = ((j + k : Nat) : Int) ∧ l[k]? = some a ∧ getA l nm = (a, true) := by
    intro l
    induction l with
    | nil => intro j; exact .inl ⟨rfl, rfl⟩
    | cons x r ih =>
      intro j
      simp only [List.map_cons, idxGo, getA]
      cases e : eqB x.name nm
      · rcases ih (j+1) with ⟨h1, h2⟩ | ⟨k, a, h1, h2, h3⟩
        · left; simp only [Bool.false_eq_true, if_false]; exact ⟨h1, h2⟩
        · right; refine ⟨k+1, a, ?_, h2, ?_⟩
          · simp only [Bool.false_eq_true, if_false]
            have : (((j + 1 : Nat) : Int)) = (j : Int) + 1 := by omega
            rw [this] at h1; rw [h1]; omega
          · simpa using h3
      · right; exact ⟨0, x, by simp, by simp, by simp⟩
  rcases key l 0 with h | ⟨k, a, h1, h2, h3⟩
  · exact .inl h
  · exact .inr ⟨k, a, by simpa [idxB] using h1, h2, h3⟩

/-- A call returns an attribute, and whether there is one. -/
def GetRet (w : World) (r : PAttr × Bool) (e : Ending) (w' : World) : Prop :=
  e = .returned (.tuple #[attrV r.1, .bool r.2]) ∧ Below w.heap.size w w'
theorem GetRet.mk {w w' : World} {r : PAttr × Bool} {a : PAttr} {b : Bool} (h : r = (a, b)) (hb : Below w.heap.size w w') : GetRet w r (.returned (.tuple #[.agg #[.string a.name, .int .i64 a.kind, .int .i64 a.n, .string a.s], .bool b])) w' := by
  subst h; exact ⟨rfl, hb⟩

set_option maxRecDepth 100000 in
set_option maxHeartbeats 1000000 in
theorem attrGet (v : Value) (l : List PAttr) (nm : ByteArray) (w : World) (hv : Attrs w v l) (hl : l.length ≤ 1000000) :
    Calls Try.prog 11 #[v, .string nm] w (GetRet w (getA l nm)) := by
  have HV := Lib.hid hv
  obtain ⟨a, cap, b, off, rfl, hcap, hm, ha, hc⟩ := hv.open
  clear hv
  go_enter Try.func11, Try.ntmps11
  go_wp2_with fail
  refine (indexAttr _ l _ _ (fun x => eqB x.name nm) _ (HV.out.below (below_two _ _ _)) (by omega) cG1 (fun x hx w' hb => get1 _ x nm w' (below_cell ((blift (below_alloc _ _) hb)) (by simp)))).mono ?_
  rintro e w1 ⟨rfl, hb⟩
  have hb1 := blift (below_two _ _ _) hb
  have r0 : ∀ j, w1.frozen? ⟨w.heap.size + 1, j, none⟩ = false := fun j => by rw [hb.frozen (by simp)]; simp
  have r1 : w1.cell? ⟨w.heap.size + 1, 0, none⟩ = some (.string ⟨#[]⟩) := below_cell hb (by simp)
  have r2 : w1.cell? ⟨w.heap.size + 1, 1, none⟩ = some (.int .i64 0) := below_cell hb (by simp)
  have r3 : w1.cell? ⟨w.heap.size + 1, 2, none⟩ = some (.int .i64 0) := below_cell hb (by simp)
  have r4 : w1.cell? ⟨w.heap.size + 1, 3, none⟩ = some (.string ⟨#[]⟩) := below_cell hb (by simp)
  clear hb
  rcases getA_idx l nm with ⟨h1, h2⟩ | ⟨k, x, h1, h2, h3⟩
  · have H := Lib.hid h2
    rw [h1]
    clear h1 h2 hc ha
    go_wp2
    refine bodyPost_ret (v := .tuple #[.agg #[.string ⟨#[]⟩, .int .i64 0, .int .i64 0, .string ⟨#[]⟩], .bool false]) (by simp [results, Try.results11, go_sem, r0, r1, r2, r3, r4]) rfl (GetRet.mk (a := zeroA) H.out ((((hb1.setCell ?_ _).setCell ?_ _).setCell ?_ _).setCell ?_ _)) <;> simp
  · have H := Lib.hid h3
    have hk : k < l.length := (List.getElem?_eq_some_iff.1 h2).1
    obtain ⟨c0, c1, c2, c3⟩ := (hc.out k x h2).below hb1
    obtain rfl := ha (by omega)
    have hbl : b < w.heap.size := (hc.out k x h2).lt
    rw [h1]
    clear h1 h2 h3 hc ha
    go_wp2
    refine bodyPost_ret (v := .tuple #[.agg #[.string x.name, .int .i64 x.kind, .int .i64 x.n, .string x.s], .bool true]) (by simp [results, Try.results11, go_sem, r0, r1, r2, r3, r4]) rfl (GetRet.mk H.out ((((hb1.setCell ?_ _).setCell ?_ _).setCell ?_ _).setCell ?_ _)) <;> simp

end Go.Proofs.Ytnjopfjmepbpoaa

/- Plain lists: what the functions of the packages bits and antiquaryref11 compute, and lemmas on it. No program in sight. -/
namespace Go.Proofs.Ytnjopfjmepbpoaa
set_option linter.unusedSimpArgs false
set_option linter.unusedVariables false
set_option linter.unnecessarySimpa false

def hasL : List Int → Int → Bool
  | a :: b :: r, x => (decide (a ≤ x) && decide (x < b)) || hasL r x
  | _, _ => false

theorem hasL_short (l : List Int) (x : Int) (h : l.length ≤ 1) : hasL l x = false := by
  match l with
  | [] => rfl
  | [_] => rfl
  | _ :: _ :: _ => simp at h

theorem drop_two {α : Type} (zs : List α) (k : Nat) (a b : α) (ha : zs[k]? = some a) (hb : zs[k+1]? = some b) : zs.drop k = a :: b :: zs.drop (k+2) := by
  obtain ⟨hk, rfl⟩ := List.getElem?_eq_some_iff.1 hb
  rw [List.drop_eq_getElem_cons (by omega), List.drop_eq_getElem_cons (by omega)]
  obtain ⟨hk', rfl⟩ := List.getElem?_eq_some_iff.1 ha
  rfl

theorem drop_one {α : Type} (zs : List α) (k : Nat) (a : α) (ha : zs[k]? = some a) : zs.drop k = a :: zs.drop (k+1) := by
  obtain ⟨hk, rfl⟩ := List.getElem?_eq_some_iff.1 ha
  rw [List.drop_eq_getElem_cons (by omega)]

theorem take_one {α : Type} (zs : List α) (k : Nat) (a : α) (ha : zs[k]? = some a) : zs.take (k+1) = zs.take k ++ [a] := by
  rw [List.take_add_one, ha]; rfl

theorem hasL_drop (zs : List Int) (k : Nat) (a b x : Int) (ha : zs[k]? = some a) (hb : zs[k+1]? = some b) :
    hasL (zs.drop k) x = ((decide (a ≤ x) && decide (x < b)) || hasL (zs.drop (k+2)) x) := by
  rw [drop_two zs k a b ha hb, hasL]

/-- Each element is greater than the one before it (the first: than lo) and at most 4096. -/
def ascB (lo : Int) : List Int → Bool
  | [] => true
  | z :: r => decide (lo < z) && decide (z ≤ 4096) && ascB z r

def validB (zs : List Int) : Bool := ascB (-1) zs && decide (zs.length % 2 = 0)

def prevAt (zs : List Int) (k : Nat) : Int := if k = 0 then -1 else zs.getD (k - 1) 0

theorem ascB_drop (zs : List Int) (k : Nat) (a lo : Int) (ha : zs[k]? = some a) : ascB lo (zs.drop k) = (decide (lo < a) && decide (a ≤ 4096) && ascB a (zs.drop (k+1))) := by
  rw [drop_one zs k a ha, ascB]

theorem prevAt_succ (zs : List Int) (k : Nat) (a : Int) (ha : zs[k]? = some a) : prevAt zs (k+1) = a := by
  simp [prevAt, ha]

theorem ascB_end (zs : List Int) (k : Nat) (lo : Int) (h : zs.length ≤ k) : ascB lo (zs.drop k) = true := by
  rw [List.drop_eq_nil_of_le h, ascB]

/-- What is known of a valid set. -/
structure Good (zs : List Int) : Prop where
  even : zs.length % 2 = 0
  len : zs.length ≤ 4097
  rng : ∀ (k : Nat) (y : Int), zs[k]? = some y → 0 ≤ y ∧ y ≤ 4096
  asc : ∀ (k : Nat) (y z : Int), zs[k]? = some y → zs[k+1]? = some z → y < z

theorem ascB_rng : ∀ (zs : List Int) (lo : Int), ascB lo zs = true → ∀ (k : Nat) (y : Int), zs[k]? = some y → lo < y ∧ y ≤ 4096
  | [], _, _, k, y, h => by simp at h
  | z :: r, lo, h, k, y, hk => by
    simp only [ascB, Bool.and_eq_true, decide_eq_true_eq] at h
    cases k with
    | zero => simp at hk; subst hk; exact h.1
    | succ k => have := ascB_rng r z h.2 k y (by simpa using hk); omega

theorem ascB_asc : ∀ (zs : List Int) (lo : Int), ascB lo zs = true → ∀ (k : Nat) (y z : Int), zs[k]? = some y → zs[k+1]? = some z → y < z
  | [], _, _, k, y, z, h, _ => by simp at h
  | x :: r, lo, h, k, y, z, hk, hk1 => by
    simp only [ascB, Bool.and_eq_true, decide_eq_true_eq] at h
    cases k with
    | zero => simp at hk; subst hk; exact (ascB_rng r x h.2 0 z (by simpa using hk1)).1
    | succ k => exact ascB_asc r x h.2 k y z (by simpa using hk) (by simpa using hk1)

theorem ascB_len : ∀ (zs : List Int) (lo : Int), ascB lo zs = true → lo ≤ 4096 → (zs.length : Int) ≤ 4096 - lo
  | [], lo, _, h => by simp; omega
  | z :: r, lo, h, _ => by
    simp only [ascB, Bool.and_eq_true, decide_eq_true_eq] at h
    have := ascB_len r z h.2 h.1.2
    simp; omega

theorem good_of_valid {zs : List Int} (h : validB zs = true) : Good zs := by
  simp only [validB, Bool.and_eq_true, decide_eq_true_eq] at h
  refine ⟨h.2, ?_, fun k y hk => ?_, ascB_asc zs (-1) h.1⟩
  · have := ascB_len zs (-1) h.1 (by omega); omega
  · have := ascB_rng zs (-1) h.1 k y hk; omega

def rankL : List Int → Int → Int
  | a :: b :: r, s => if a < s then (min b s - a) + rankL r s else 0
  | _, _ => 0

theorem rankL_drop (zs : List Int) (k : Nat) (a b s : Int) (ha : zs[k]? = some a) (hb : zs[k+1]? = some b) :
    rankL (zs.drop k) s = if a < s then (min b s - a) + rankL (zs.drop (k+2)) s else 0 := by
  rw [drop_two zs k a b ha hb, rankL]

theorem rankL_short (l : List Int) (x : Int) (h : l.length ≤ 1) : rankL l x = 0 := by
  match l with
  | [] => rfl
  | [_] => rfl
  | _ :: _ :: _ => simp at h

def selL : List Int → Int → Int
  | a :: b :: r, n => if b - a ≤ n then selL r (n - (b - a)) else a + n
  | _, _ => -1

theorem selL_drop (zs : List Int) (k : Nat) (a b s : Int) (ha : zs[k]? = some a) (hb : zs[k+1]? = some b) :
    selL (zs.drop k) s = if b - a ≤ s then selL (zs.drop (k+2)) (s - (b - a)) else a + s := by
  rw [drop_two zs k a b ha hb, selL]

theorem selL_short (l : List Int) (x : Int) (h : l.length ≤ 1) : selL l x = -1 := by
  match l with
  | [] => rfl
  | [_] => rfl
  | _ :: _ :: _ => simp at h

def selB (zs : List Int) (s : Int) : Int := if s < 0 then -1 else selL zs s

def sameFrom (a b : List Int) (k : Nat) : Bool := a.drop k == b.drop k

theorem sameFrom_step (a b : List Int) (k : Nat) (x y : Int) (ha : a[k]? = some x) (hb : b[k]? = some y) : sameFrom a b k = ((x == y) && sameFrom a b (k+1)) := by
  unfold sameFrom
  rw [drop_one a k x ha, drop_one b k y hb]
  rfl


/-- What bits.merge does from here on; pa, pb, po: whether an odd number of borders of a, of b, of the result has been passed. -/
def mergeF (r : Bool → Bool → Bool) : Nat → List Int → List Int → Bool → Bool → Bool → List Int
  | 0, _, _, _, _, _ => []
  | _ + 1, [], [], _, _, _ => []
  | n + 1, a :: az, [], pa, pb, po => if r (!pa) pb != po then a :: mergeF r n az [] (!pa) pb (!po) else mergeF r n az [] (!pa) pb po
  | n + 1, [], b :: bs, pa, pb, po => if r pa (!pb) != po then b :: mergeF r n [] bs pa (!pb) (!po) else mergeF r n [] bs pa (!pb) po
  | n + 1, a :: az, b :: bs, pa, pb, po =>
    if a < b then (if r (!pa) pb != po then a :: mergeF r n az (b :: bs) (!pa) pb (!po) else mergeF r n az (b :: bs) (!pa) pb po)
    else if b < a then (if r pa (!pb) != po then b :: mergeF r n (a :: az) bs pa (!pb) (!po) else mergeF r n (a :: az) bs pa (!pb) po)
    else (if r (!pa) (!pb) != po then a :: mergeF r n az bs (!pa) (!pb) (!po) else mergeF r n az bs (!pa) (!pb) po)

def mergeL (r : Bool → Bool → Bool) (az bs : List Int) : List Int := mergeF r (az.length + bs.length) az bs false false false

theorem mergeF_nil (r : Bool → Bool → Bool) (n : Nat) (pa pb po : Bool) : mergeF r n [] [] pa pb po = [] := by cases n <;> rfl

theorem mergeF_left (r : Bool → Bool → Bool) (n : Nat) (a : Int) (az : List Int) (pa pb po : Bool) :
    mergeF r (n+1) (a :: az) [] pa pb po = if r (!pa) pb != po then a :: mergeF r n az [] (!pa) pb (!po) else mergeF r n az [] (!pa) pb po := rfl
theorem mergeF_right (r : Bool → Bool → Bool) (n : Nat) (b : Int) (bs : List Int) (pa pb po : Bool) :
    mergeF r (n+1) [] (b :: bs) pa pb po = if r pa (!pb) != po then b :: mergeF r n [] bs pa (!pb) (!po) else mergeF r n [] bs pa (!pb) po := rfl

theorem mergeF_more (r : Bool → Bool → Bool) : ∀ (n : Nat) (az bs : List Int) (pa pb po : Bool), az.length + bs.length ≤ n → mergeF r (n+1) az bs pa pb po = mergeF r n az bs pa pb po
  | 0, az, bs, pa, pb, po, h => by
    have h1 : az = [] := List.eq_nil_of_length_eq_zero (by omega)
    have h2 : bs = [] := List.eq_nil_of_length_eq_zero (by omega)
    subst h1; subst h2; rfl
  | n + 1, az, bs, pa, pb, po, h => by
    match az, bs with
    | [], [] => rfl
    | a :: az, [] =>
      have := fun po => mergeF_more r n az [] (!pa) pb po (by simp at h ⊢; omega)
      rw [mergeF_left, mergeF_left, this, this]
    | [], b :: bs =>
      have := fun po => mergeF_more r n [] bs pa (!pb) po (by simp at h ⊢; omega)
      rw [mergeF_right, mergeF_right, this, this]
    | a :: az, b :: bs =>
      have h1 := fun po => mergeF_more r n az (b :: bs) (!pa) pb po (by simp at h ⊢; omega)
      have h2 := fun po => mergeF_more r n (a :: az) bs pa (!pb) po (by simp at h ⊢; omega)
      have h3 := fun po => mergeF_more r n az bs (!pa) (!pb) po (by simp at h ⊢; omega)
      simp only [mergeF.eq_5, h1, h2, h3]

theorem mergeF_len (r : Bool → Bool → Bool) : ∀ (n : Nat) (az bs : List Int) (pa pb po : Bool), (mergeF r n az bs pa pb po).length ≤ n
  | 0, _, _, _, _, _ => by simp [mergeF]
  | n + 1, az, bs, pa, pb, po => by
    match az, bs with
    | [], [] => simp [mergeF]
    | a :: az, [] =>
      have := fun po => mergeF_len r n az [] (!pa) pb po
      rw [mergeF_left]; split <;> simp <;> grind
    | [], b :: bs =>
      have := fun po => mergeF_len r n [] bs pa (!pb) po
      rw [mergeF_right]; split <;> simp <;> grind
    | a :: az, b :: bs =>
      have h1 := fun po => mergeF_len r n az (b :: bs) (!pa) pb po
      have h2 := fun po => mergeF_len r n (a :: az) bs pa (!pb) po
      have h3 := fun po => mergeF_len r n az bs (!pa) (!pb) po
      simp only [mergeF.eq_5]
      repeat' split
      all_goals simp
      all_goals grind

/-- The state of the loop in merge: i and k borders have been passed, out has been laid down. -/
def MergeAt (r : Bool → Bool → Bool) (az bs : List Int) (i k : Nat) (out : List Int) : Prop :=
  mergeL r az bs = out ++ mergeF r (az.length - i + (bs.length - k)) (az.drop i) (bs.drop k) (decide (i % 2 = 1)) (decide (k % 2 = 1)) (decide (out.length % 2 = 1))

theorem MergeAt.start (r : Bool → Bool → Bool) (az bs : List Int) : MergeAt r az bs 0 0 [] := by simp [MergeAt, mergeL]

theorem MergeAt.done {r : Bool → Bool → Bool} {az bs : List Int} {i k : Nat} {out : List Int} (h : MergeAt r az bs i k out) (hi : az.length ≤ i) (hk : bs.length ≤ k) : mergeL r az bs = out := by
  rw [MergeAt, List.drop_eq_nil_of_le hi, List.drop_eq_nil_of_le hk, mergeF_nil] at h
  simpa using h

theorem odd_succ (i : Nat) : decide ((i+1) % 2 = 1) = !decide (i % 2 = 1) := by
  by_cases h : i % 2 = 1
  · have : (i+1) % 2 = 0 := by omega
    simp [h, this]
  · have : (i+1) % 2 = 1 := by omega
    simp [h, this]

/-- What one round adds. -/
def addIf (c : Bool) (out : List Int) (x : Int) : List Int := if c then out ++ [x] else out

theorem MergeAt.left {r : Bool → Bool → Bool} {az bs : List Int} {i k : Nat} {out : List Int} (h : MergeAt r az bs i k out) (x : Int) (hx : az[i]? = some x) (hk : bs.length ≤ k ∨ ∃ y, bs[k]? = some y ∧ x < y) (c : Bool)
    (hc : c = (r (decide ((i+1) % 2 = 1)) (decide (k % 2 = 1)) != decide (out.length % 2 = 1))) : MergeAt r az bs (i+1) k (addIf c out x) := by
  obtain ⟨hi, _⟩ := List.getElem?_eq_some_iff.1 hx
  unfold MergeAt at h ⊢
  rw [h]
  have e1 : az.length - i + (bs.length - k) = (az.length - (i+1) + (bs.length - k)) + 1 := by omega
  rw [e1, drop_one az i x hx]
  rw [odd_succ] at hc
  have step : mergeF r (az.length - (i + 1) + (bs.length - k) + 1) (x :: az.drop (i+1)) (bs.drop k) (decide (i % 2 = 1)) (decide (k % 2 = 1)) (decide (out.length % 2 = 1)) =
      if c then x :: mergeF r (az.length - (i + 1) + (bs.length - k)) (az.drop (i+1)) (bs.drop k) (!decide (i % 2 = 1)) (decide (k % 2 = 1)) (!decide (out.length % 2 = 1))
      else mergeF r (az.length - (i + 1) + (bs.length - k)) (az.drop (i+1)) (bs.drop k) (!decide (i % 2 = 1)) (decide (k % 2 = 1)) (decide (out.length % 2 = 1)) := by
    rcases hk with hk | ⟨y, hy, hxy⟩
    · rw [List.drop_eq_nil_of_le hk, mergeF_left, hc]
    · rw [drop_one bs k y hy, mergeF.eq_5, if_pos hxy, hc]
  rw [step, odd_succ]
  cases c
  · simp [addIf]
  · simp only [addIf, if_true, List.length_append, List.length_cons, List.length_nil, Nat.zero_add, odd_succ, List.append_assoc, List.cons_append, List.nil_append]

theorem MergeAt.right {r : Bool → Bool → Bool} {az bs : List Int} {i k : Nat} {out : List Int} (h : MergeAt r az bs i k out) (x : Int) (hx : bs[k]? = some x) (hk : az.length ≤ i ∨ ∃ y, az[i]? = some y ∧ x < y) (c : Bool)
    (hc : c = (r (decide (i % 2 = 1)) (decide ((k+1) % 2 = 1)) != decide (out.length % 2 = 1))) : MergeAt r az bs i (k+1) (addIf c out x) := by
  obtain ⟨hi, _⟩ := List.getElem?_eq_some_iff.1 hx
  unfold MergeAt at h ⊢
  rw [h]
  have e1 : az.length - i + (bs.length - k) = (az.length - i + (bs.length - (k+1))) + 1 := by omega
  rw [e1, drop_one bs k x hx]
  rw [odd_succ] at hc
  have step : mergeF r (az.length - i + (bs.length - (k+1)) + 1) (az.drop i) (x :: bs.drop (k+1)) (decide (i % 2 = 1)) (decide (k % 2 = 1)) (decide (out.length % 2 = 1)) =
      if c then x :: mergeF r (az.length - i + (bs.length - (k+1))) (az.drop i) (bs.drop (k+1)) (decide (i % 2 = 1)) (!decide (k % 2 = 1)) (!decide (out.length % 2 = 1))
      else mergeF r (az.length - i + (bs.length - (k+1))) (az.drop i) (bs.drop (k+1)) (decide (i % 2 = 1)) (!decide (k % 2 = 1)) (decide (out.length % 2 = 1)) := by
    rcases hk with hk | ⟨y, hy, hxy⟩
    · rw [List.drop_eq_nil_of_le hk, mergeF_right, hc]
    · rw [drop_one az i y hy, mergeF.eq_5, if_neg (by omega), if_pos hxy, hc]
  rw [step, odd_succ]
  cases c
  · simp [addIf]
  · simp only [addIf, if_true, List.length_append, List.length_cons, List.length_nil, Nat.zero_add, odd_succ, List.append_assoc, List.cons_append, List.nil_append]

theorem MergeAt.both {r : Bool → Bool → Bool} {az bs : List Int} {i k : Nat} {out : List Int} (h : MergeAt r az bs i k out) (x : Int) (hx : az[i]? = some x) (hy : bs[k]? = some x) (c : Bool)
    (hc : c = (r (decide ((i+1) % 2 = 1)) (decide ((k+1) % 2 = 1)) != decide (out.length % 2 = 1))) : MergeAt r az bs (i+1) (k+1) (addIf c out x) := by
  obtain ⟨hi, _⟩ := List.getElem?_eq_some_iff.1 hx
  obtain ⟨hj, _⟩ := List.getElem?_eq_some_iff.1 hy
  unfold MergeAt at h ⊢
  rw [h]
  have e1 : az.length - i + (bs.length - k) = (az.length - (i+1) + (bs.length - (k+1)) + 1) + 1 := by omega
  rw [e1, drop_one bs k x hy, drop_one az i x hx]
  rw [odd_succ, odd_succ] at hc
  have m := fun po => mergeF_more r (az.length - (i+1) + (bs.length - (k+1))) (az.drop (i+1)) (bs.drop (k+1)) (!decide (i % 2 = 1)) (!decide (k % 2 = 1)) po (by simp)
  rw [mergeF.eq_5, if_neg (by omega), if_neg (by omega), ← hc, m, m, odd_succ, odd_succ]
  cases c
  · simp [addIf]
  · simp only [addIf, if_true, List.length_append, List.length_cons, List.length_nil, Nat.zero_add, odd_succ, List.append_assoc, List.cons_append, List.nil_append]

theorem odd_int (n : Nat) : (((n : Int) % 2) == 1) = decide (n % 2 = 1) := by
  rw [Bool.eq_iff_iff]; simp only [beq_iff_eq, decide_eq_true_eq]; omega
theorem odd_int1 (n : Nat) : ((((n : Int) + 1) % 2) == 1) = decide ((n + 1) % 2 = 1) := by
  rw [Bool.eq_iff_iff]; simp only [beq_iff_eq, decide_eq_true_eq]; omega


/-- The table of a rule at 0 to 4095. -/
def tab (f : Int → Bool) : List Bool := (List.range 4096).map (fun j => f (j : Nat))

theorem tab_length (f : Int → Bool) : (tab f).length = 4096 := by simp [tab]
theorem tab_get (f : Int → Bool) (x : Nat) (h : x < 4096) : (tab f)[x]? = some (f x) := by simp [tab, h]
theorem tab_set (f : Int → Bool) (x : Nat) (b : Bool) : (tab f).set x b = tab (fun j => if j = x then b else f j) := by
  apply List.ext_getElem
  · simp [tab]
  · intro k h1 h2
    simp only [tab, List.getElem_set, List.getElem_map, List.getElem_range]
    by_cases h : x = k
    · subst h; simp
    · rw [if_neg h, if_neg (by omega)]
theorem tab_congr {f g : Int → Bool} (h : ∀ j : Int, 0 ≤ j → j < 4096 → f j = g j) : tab f = tab g := by
  apply List.ext_getElem
  · simp [tab]
  · intro k h1 h2
    simp only [tab, List.getElem_map, List.getElem_range]
    simp [tab] at h1
    exact h k (by omega) (by omega)
theorem tab_false : List.replicate 4096 false = tab (fun _ => false) := by
  apply List.ext_getElem
  · rw [List.length_replicate, tab_length]
  · intro k h1 h2
    rw [List.getElem_replicate]
    simp only [tab, List.getElem_map]

theorem hasL_snoc (a b x : Int) : ∀ (l : List Int), l.length % 2 = 0 → hasL (l ++ [a, b]) x = (hasL l x || (decide (a ≤ x) && decide (x < b)))
  | [], _ => by simp [hasL]
  | [_], h => by simp at h
  | c :: d :: r, h => by
    have := hasL_snoc a b x r (by simp at h; omega)
    simp only [List.cons_append, hasL, this, Bool.or_assoc]

theorem take_two {α : Type} (zs : List α) (k : Nat) (a b : α) (ha : zs[k]? = some a) (hb : zs[k+1]? = some b) : zs.take (k+2) = zs.take k ++ [a, b] := by
  rw [take_one zs (k+1) b hb, take_one zs k a ha]; simp

theorem hasL_take (zs : List Int) (k : Nat) (a b x : Int) (ha : zs[k]? = some a) (hb : zs[k+1]? = some b) (hk : k % 2 = 0) :
    hasL (zs.take (k+2)) x = (hasL (zs.take k) x || (decide (a ≤ x) && decide (x < b))) := by
  rw [take_two zs k a b ha hb]
  refine hasL_snoc a b x _ ?_
  obtain ⟨h, _⟩ := List.getElem?_eq_some_iff.1 ha
  rw [List.length_take, Nat.min_eq_left (by omega)]; exact hk

/-- What antiquaryref11.Bits does. -/
def bitsGo : List Bool → Int → Bool → List Int
  | [], x, was => if was then [x] else []
  | c :: r, x, was => if c = was then bitsGo r (x + 1) was else x :: bitsGo r (x + 1) c
def bitsL (l : List Bool) : List Int := bitsGo l 0 false

theorem bitsGo_drop (l : List Bool) (k : Nat) (c : Bool) (x : Int) (was : Bool) (h : l[k]? = some c) : bitsGo (l.drop k) x was = if c = was then bitsGo (l.drop (k+1)) (x + 1) was else x :: bitsGo (l.drop (k+1)) (x + 1) c := by
  rw [drop_one l k c h, bitsGo]

/-- The slots of a set, one after the other. -/
def upto (a : Int) : Nat → List Int
  | 0 => []
  | n + 1 => a :: upto (a + 1) n
def slotsL : List Int → List Int
  | a :: b :: r => upto a (b - a).toNat ++ slotsL r
  | _ => []

theorem upto_snoc (a : Int) : ∀ n, upto a (n + 1) = upto a n ++ [a + n]
  | 0 => by simp [upto]
  | n + 1 => by
    have := upto_snoc (a + 1) n
    rw [upto, this, upto]
    simp; omega
theorem upto_length (a : Int) : ∀ n, (upto a n).length = n
  | 0 => rfl
  | n + 1 => by simp [upto, upto_length (a+1) n]

theorem slotsL_snoc (a b : Int) : ∀ (l : List Int), l.length % 2 = 0 → slotsL (l ++ [a, b]) = slotsL l ++ upto a (b - a).toNat
  | [], _ => by simp [slotsL]
  | [_], h => by simp at h
  | c :: d :: r, h => by
    have := slotsL_snoc a b r (by simp at h; omega)
    simp only [List.cons_append, slotsL, this, List.append_assoc]
theorem slotsL_take (zs : List Int) (k : Nat) (a b : Int) (ha : zs[k]? = some a) (hb : zs[k+1]? = some b) (hk : k % 2 = 0) :
    slotsL (zs.take (k+2)) = slotsL (zs.take k) ++ upto a (b - a).toNat := by
  rw [take_two zs k a b ha hb]
  refine slotsL_snoc a b _ ?_
  obtain ⟨h, _⟩ := List.getElem?_eq_some_iff.1 ha
  rw [List.length_take, Nat.min_eq_left (by omega)]; exact hk

end Go.Proofs.Ytnjopfjmepbpoaa

/- Plain lists, second part. -/
namespace Go.Proofs.Ytnjopfjmepbpoaa
set_option linter.unusedSimpArgs false
set_option linter.unusedVariables false
set_option linter.unnecessarySimpa false

def inR (x : Int) : Bool := decide (0 ≤ x) && decide (x < 4096)
def ofB (l : List Int) : List Int := if l.all inR then bitsL (tab (fun j => l.contains j)) else []
def ofE (l : List Int) : Int := if l.all inR then 0 else 1

theorem all_take (l : List Int) (k : Nat) (y : Int) (h : l[k]? = some y) : (l.take (k+1)).all inR = ((l.take k).all inR && inR y) := by
  rw [take_one l k y h]; simp
theorem not_all (l : List Int) (k : Nat) (y : Int) (h : l[k]? = some y) (hy : inR y = false) : l.all inR = false := by
  rw [List.all_eq_false]
  exact ⟨y, List.mem_of_getElem? h, by simp [hy]⟩
theorem contains_take (l : List Int) (k : Nat) (y j : Int) (h : l[k]? = some y) : (l.take (k+1)).contains j = ((l.take k).contains j || decide (j = y)) := by
  rw [take_one l k y h]; simp

/-- How many of the first elements are less than s. -/
def countLess (l : List Int) (s : Int) : Int := (l.filter (fun x => decide (x < s))).length
theorem countLess_take (l : List Int) (k : Nat) (y s : Int) (h : l[k]? = some y) : countLess (l.take (k+1)) s = countLess (l.take k) s + if y < s then 1 else 0 := by
  rw [countLess, take_one l k y h, List.filter_append, countLess]
  by_cases g : y < s <;> simp [g]
theorem countLess_le (l : List Int) (s : Int) : 0 ≤ countLess l s ∧ countLess l s ≤ l.length := by
  unfold countLess; have := List.length_filter_le (fun x => decide (x < s)) l; omega

def selR (l : List Int) (n : Int) : Int := if n < 0 ∨ (l.length : Int) ≤ n then -1 else l.getD n.toNat 0

theorem asc_le_last : ∀ (zs : List Int) (lo : Int), ascB lo zs = true → ∀ y ∈ zs, lo < y ∧ y ≤ 4096
  | [], _, _, y, h => by simp at h
  | z :: r, lo, h, y, hy => by
    simp only [ascB, Bool.and_eq_true, decide_eq_true_eq] at h
    rcases List.mem_cons.1 hy with rfl | hy
    · exact h.1
    · have := asc_le_last r z h.2 y hy; omega

/-- The slots before the k-th border are at most as many as that border. -/
theorem slotsL_len (zs : List Int) (hg : Good zs) : ∀ k, k ≤ zs.length → k % 2 = 0 → (slotsL (zs.take k)).length ≤ prevAt zs k + 1 ∨ k = 0 := by
  intro k
  induction k using Nat.strongRecOn with
  | _ k ih =>
    intro hk hk2
    match k, hk2 with
    | 0, _ => exact .inr rfl
    | 1, h => omega
    | k + 2, hk2 =>
      left
      obtain ⟨y, ha⟩ : ∃ y, zs[k]? = some y := ⟨zs[k], by simp⟩
      obtain ⟨z, hb⟩ : ∃ y, zs[k+1]? = some y := ⟨zs[k+1], by simp⟩
      rw [slotsL_take zs k _ _ ha hb (by omega), List.length_append, upto_length, prevAt_succ zs (k+1) _ hb]
      have h1 := hg.asc k _ _ ha hb
      have h2 := hg.rng k _ ha
      rcases ih k (by omega) (by omega) (by omega) with h | h
      · by_cases h0 : k = 0
        · subst h0; simp [slotsL]; omega
        · have hc : zs[k-1]? = some zs[k-1] := by simp
          have h3 := hg.asc (k-1) _ y hc (by rw [show k - 1 + 1 = k by omega]; exact ha)
          have h4 : prevAt zs k = zs[k-1] := by rw [← prevAt_succ zs (k-1) _ hc, show k - 1 + 1 = k by omega]
          omega
      · subst h; simp [slotsL]; omega
theorem slotsL_le (zs : List Int) (hg : Good zs) (k : Nat) (hk : k ≤ zs.length) (hk2 : k % 2 = 0) : (slotsL (zs.take k)).length ≤ 4097 := by
  rcases slotsL_len zs hg k hk hk2 with h | h
  · by_cases h0 : k = 0
    · subst h0; simp [slotsL]
    · have hc : zs[k-1]? = some zs[k-1] := by simp
      have h4 : prevAt zs k = zs[k-1] := by rw [← prevAt_succ zs (k-1) _ hc, show k - 1 + 1 = k by omega]
      have := hg.rng (k-1) _ hc
      omega
  · subst h; simp [slotsL]

end Go.Proofs.Ytnjopfjmepbpoaa
