/- Proved here: antiquarylaw13.AttrPartsFit returns true for every input, and leaves its arguments as they were. No conditions. -/
import Derived.Laws.Strings
import Derived.Test.YtnjopfjmepbpoaaC5
/- Plain laws of attributes and schemas. -/
namespace Go.Proofs.Ytnjopfjmepbpoaa
set_option linter.unusedSimpArgs false
set_option linter.unusedVariables false
set_option linter.unnecessarySimpa false
open Go Go.RowKit

theorem bl_irrefl : ∀ a : List UInt8, Op.bytesLess a a = false
  | [] => rfl
  | a :: x => by simp [Op.bytesLess, bl_irrefl x]
theorem bl_trans : ∀ a b c : List UInt8, Op.bytesLess a b = true → Op.bytesLess b c = true → Op.bytesLess a c = true
  | _, [], c, h, _ => by cases ‹List UInt8› <;> simp [Op.bytesLess] at h
  | _, b :: y, [], _, h => by simp [Op.bytesLess] at h
  | [], b :: y, c :: z, _, _ => by simp [Op.bytesLess]
  | a :: x, b :: y, c :: z, h, k => by
    simp only [Op.bytesLess, Bool.or_eq_true, Bool.and_eq_true, decide_eq_true_eq, beq_iff_eq] at h k ⊢
    rcases h with h | ⟨rfl, h⟩
    · rcases k with k | ⟨rfl, k⟩
      · exact .inl (UInt8.lt_trans h k)
      · exact .inl h
    · rcases k with k | ⟨rfl, k⟩
      · exact .inl k
      · exact .inr ⟨rfl, bl_trans x y z h k⟩
theorem bl_total : ∀ a b : List UInt8, Op.bytesLess a b = false → a ≠ b → Op.bytesLess b a = true
  | [], [], _, h => absurd rfl h
  | [], b :: y, h, _ => by simp [Op.bytesLess] at h
  | a :: x, [], _, _ => by simp [Op.bytesLess]
  | a :: x, b :: y, h, hne => by
    simp only [Op.bytesLess, Bool.or_eq_false_iff, decide_eq_false_iff_not, Bool.and_eq_false_iff, Bool.or_eq_true, Bool.and_eq_true, decide_eq_true_eq, beq_iff_eq] at h ⊢
    by_cases e : a = b
    · subst e
      refine .inr ⟨rfl, bl_total x y ?_ (fun e => hne (e ▸ rfl))⟩
      rcases h.2 with h2 | h2
      · simp at h2
      · exact h2
    · left
      have := h.1
      have h3 : ¬ a.toNat = b.toNat := fun h => e (UInt8.toNat_inj.1 h)
      rw [UInt8.lt_iff_toNat_lt] at this ⊢
      omega

def ltB (a b : ByteArray) : Prop := Op.bytesLess a.toList b.toList = true
theorem ltB_trans {a b c : ByteArray} (h : ltB a b) (k : ltB b c) : ltB a c := bl_trans _ _ _ h k
theorem ltB_ne {a b : ByteArray} (h : ltB a b) : eqB a b = false := by
  cases e : eqB a b with
  | false => rfl
  | true =>
    simp only [eqB, beq_iff_eq] at e
    unfold ltB at h
    rw [e, bl_irrefl] at h; cases h
theorem eqB_self (a : ByteArray) : eqB a a = true := by simp [eqB]
theorem leqB_self (a : ByteArray) : leqB a a = true := by simp [leqB]
theorem leqB_false {x p : ByteArray} : leqB x p = false ↔ ltB p x := by
  unfold leqB ltB
  rw [Bool.or_eq_false_iff]
  constructor
  · rintro ⟨h1, h2⟩
    exact bl_total _ _ h1 (by simpa using h2)
  · intro h
    refine ⟨?_, ?_⟩
    · cases e : Op.bytesLess x.toList p.toList with
      | false => rfl
      | true => have := bl_trans _ _ _ h e; rw [bl_irrefl] at this; cases this
    · have := ltB_ne h
      rw [eqB_comm] at this; exact this
theorem name_pos {s : ByteArray} (h : nameB s = true) : ltB ByteArray.empty s := by
  unfold nameB at h
  simp only [Bool.and_eq_true, decide_eq_true_eq] at h
  unfold ltB
  rw [ByteArray.toList_eq, ByteArray.toList_eq]
  have h1 := h.2.1.1
  have : s.data.toList ≠ [] := by
    intro e
    have := congrArg List.length e
    simp at this
    have h3 : s.size = 0 := by rw [← ByteArray.size_data, this]; rfl
    omega
  cases hs : s.data.toList with
  | nil => exact absurd hs this
  | cons a x => rfl

/-- Definitions without error behind a name. -/
structure DefsOk (b : ByteArray) (ds : List PDef) : Prop where
  one : ∀ d ∈ ds, nameB d.name = true ∧ (d.kind = 1 ∨ d.kind = 2) ∧ ltB b d.name
  rise : ds.Pairwise fun d e => ltB d.name e.name
theorem defE_ok {d : PDef} {b : ByteArray} (h : defE d b = 0) : nameB d.name = true ∧ (d.kind = 1 ∨ d.kind = 2) ∧ ltB b d.name := by
  unfold defE at h
  split at h
  · simp at h
  · rename_i h1
    split at h
    · simp at h
    · rename_i h2
      refine ⟨by simpa using h1, ?_, leqB_false.1 (by simpa using h2)⟩
      split at h
      · left; assumption
      · split at h
        · right; assumption
        · simp at h
theorem defsE_ok : ∀ (ds : List PDef) (b : ByteArray), defsE b ds = 0 → DefsOk b ds
  | [], b, _ => ⟨by simp, .nil⟩
  | d :: r, b, h => by
    rw [defsE] at h
    split at h
    · rename_i h1; exact absurd h h1
    · rename_i h1
      obtain ⟨k1, k2, k3⟩ := defE_ok (by simpa using h1)
      have ih := defsE_ok r d.name h
      refine ⟨fun e he => ?_, ?_⟩
      · rcases List.mem_cons.1 he with rfl | he
        · exact ⟨k1, k2, k3⟩
        · obtain ⟨i1, i2, i3⟩ := ih.one e he
          exact ⟨i1, i2, ltB_trans k3 i3⟩
      · rw [List.pairwise_cons]
        exact ⟨fun e he => (ih.one e he).2.2, ih.rise⟩
theorem checkE_ok {s : PSchema} (h : checkE s = 0) : DefsOk ByteArray.empty s.defs := by
  unfold checkE at h
  split at h
  · simp at h
  · split at h
    · simp at h
    · exact defsE_ok _ _ h

/- The place of a name. -/
theorem idxGo_first : ∀ (l : List Bool) (j : Nat) (k : Int), (∀ i, i < j → l[i]? = some false) → l[j]? = some true → idxGo l k = k + j
  | [], j, k, _, h => by simp at h
  | b :: r, 0, k, _, h => by simp at h; subst h; simp [idxGo]
  | b :: r, j + 1, k, h1, h2 => by
    have h0 := h1 0 (by omega)
    simp at h0; subst h0
    rw [idxGo, if_neg (by simp), idxGo_first r j (k + 1) (fun i hi => by simpa using h1 (i + 1) (by omega)) (by simpa using h2)]
    omega
theorem findI_at {b : ByteArray} {ds : List PDef} (h : DefsOk b ds) {j : Nat} {d : PDef} (hj : ds[j]? = some d) : findI ds d.name = j := by
  unfold findI idxB
  rw [idxGo_first _ j 0 (fun i hi => ?_) (by rw [List.getElem?_map, hj]; simp [eqB_self])]
  · omega
  · obtain ⟨hj1, hj2⟩ := List.getElem?_eq_some_iff.1 hj
    have := List.pairwise_iff_getElem.1 h.rise i j (by omega) hj1 hi
    rw [List.getElem?_map, List.getElem?_eq_getElem (by omega : i < ds.length), Option.map_some, ← hj2, ltB_ne this]
/-- Whose name is found is one of them. -/
theorem findI_get {ds : List PDef} {nm : ByteArray} (h : 0 ≤ findI ds nm) : ∃ d, ds[(findI ds nm).toNat]? = some d := by
  have := idxB_lt (ds.map fun (d : PDef) => eqB d.name nm) (by unfold findI at h; exact h)
  rw [List.length_map] at this
  have hlt : (findI ds nm).toNat < ds.length := by unfold findI at h ⊢; omega
  exact ⟨_, List.getElem?_eq_getElem hlt⟩
theorem idxGo_true : ∀ (l : List Bool) (k : Int), idxGo l k ≠ -1 → 0 ≤ k → l[(idxGo l k - k).toNat]? = some true
  | [], k, h, _ => by simp [idxGo] at h
  | b :: r, k, h, hk => by
    rw [idxGo] at h ⊢
    cases b with
    | true => simp
    | false =>
      simp only [Bool.false_eq_true, if_false] at h ⊢
      have ih := idxGo_true r (k + 1) h (by omega)
      have hb := idxGo_bd r (k + 1) (by omega)
      rcases hb with ⟨e, -⟩ | ⟨e, -, -⟩
      · exact absurd e h
      · rw [show (idxGo r (k + 1) - k).toNat = (idxGo r (k + 1) - (k + 1)).toNat + 1 by omega, List.getElem?_cons_succ]
        exact ih
theorem findI_name {ds : List PDef} {nm : ByteArray} (h : 0 ≤ findI ds nm) {d : PDef} (hd : ds[(findI ds nm).toNat]? = some d) : eqB d.name nm = true := by
  have := idxGo_true (ds.map fun d => eqB d.name nm) 0 (by unfold findI idxB at h; omega) (by omega)
  rw [Int.sub_zero] at this
  unfold findI idxB at hd
  rw [List.getElem?_map, hd] at this
  simpa using this

/- Attributes that fit. -/
def one (ds : List PDef) (a : PAttr) : Prop := 0 ≤ findI ds a.name ∧ (match ds[(findI ds a.name).toNat]? with | some d => valueE d a | none => 0) = 0
theorem fitE_iff {ds : List PDef} {b : ByteArray} {a : PAttr} : fitE ds b false a = 0 ↔ ltB b a.name ∧ one ds a := by
  unfold fitE one
  by_cases h1 : findI ds a.name < 0
  · rw [if_pos h1]
    constructor
    · intro h; simp at h
    · rintro ⟨-, h, -⟩; omega
  · rw [if_neg h1]
    cases h2 : leqB a.name b with
    | true =>
      simp only [Bool.not_false, Bool.true_and, if_true]
      constructor
      · intro h; simp at h
      · rintro ⟨h, -⟩
        rw [leqB_false.2 h] at h2; cases h2
    | false =>
      simp only [Bool.not_false, Bool.true_and, Bool.false_eq_true, if_false]
      exact ⟨fun h => ⟨leqB_false.1 h2, by omega, h⟩, fun h => h.2.2⟩
theorem fits_iff {ds : List PDef} : ∀ (l : List PAttr) (b : ByteArray), fitsGo ds b false l = 0 ↔ (∀ a ∈ l, ltB b a.name ∧ one ds a) ∧ l.Pairwise fun x y => ltB x.name y.name
  | [], b => by simp [fitsGo]
  | a :: r, b => by
    rw [fitsGo]
    by_cases h : fitE ds b false a = 0
    · rw [if_neg (by simpa using h), fits_iff r a.name]
      obtain ⟨h1, h2⟩ := fitE_iff.1 h
      rw [List.pairwise_cons]
      constructor
      · rintro ⟨k1, k2⟩
        refine ⟨fun x hx => ?_, fun x hx => (k1 x hx).1, k2⟩
        rcases List.mem_cons.1 hx with rfl | hx
        · exact ⟨h1, h2⟩
        · exact ⟨ltB_trans h1 (k1 x hx).1, (k1 x hx).2⟩
      · rintro ⟨k1, k2, k3⟩
        exact ⟨fun x hx => ⟨k2 x hx, (k1 x (by simp [hx])).2⟩, k3⟩
    · rw [if_pos (by simpa using h)]
      constructor
      · intro e; exact absurd e h
      · rintro ⟨k1, -⟩; exact absurd (fitE_iff.2 (k1 a (by simp))) h
def lastN (b : ByteArray) (l : List PAttr) : ByteArray := match l.getLast? with | some a => a.name | none => b
theorem fits_append {ds : List PDef} : ∀ (l r : List PAttr) (b : ByteArray), fitsGo ds b false l = 0 → fitsGo ds b false (l ++ r) = fitsGo ds (lastN b l) false r
  | [], r, b, _ => rfl
  | a :: l, r, b, h => by
    rw [fitsGo] at h
    split at h
    · rename_i h1; exact absurd h h1
    · rename_i h1
      rw [List.cons_append, fitsGo, if_neg h1, fits_append l r a.name h]
      congr 1
      cases l with
      | nil => rfl
      | cons x l =>
        simp only [lastN, List.getLast?_cons_cons]
        cases hh : (x :: l).getLast? with
        | none => simp at hh
        | some y => rfl
/-- The first attribute is behind no name. -/
theorem fits_first {b : ByteArray} {ds : List PDef} (hd : DefsOk b ds) (hb : b = ByteArray.empty) (l : List PAttr) : fitsGo ds b false l = fitsGo ds b true l := by
  cases l with
  | nil => rfl
  | cons a r =>
    have : fitE ds b false a = fitE ds b true a := by
      unfold fitE
      by_cases h1 : findI ds a.name < 0
      · rw [if_pos h1, if_pos h1]
      · rw [if_neg h1, if_neg h1]
        obtain ⟨d, hd'⟩ := findI_get (show 0 ≤ findI ds a.name by omega)
        have hn := findI_name (by omega) hd'
        have hm := (hd.one d (mem_of_get' hd')).2.2
        have e : d.name.toList = a.name.toList := by simpa [eqB] using hn
        have : leqB a.name b = false := leqB_false.2 (by unfold ltB at hm ⊢; rw [← e]; exact hm)
        simp [this]
    rw [fitsGo, fitsGo, this]
where
  mem_of_get' {α : Type} {l : List α} {j : Nat} {c : α} (h : l[j]? = some c) : c ∈ l := List.mem_of_getElem? h

/- An attribute found by its name. -/
theorem getA_none {l : List PAttr} {nm : ByteArray} (h : ∀ a ∈ l, eqB a.name nm = false) : getA l nm = (zeroA, false) := by
  induction l with
  | nil => rfl
  | cons a r ih => rw [getA, h a (by simp)]; simp only [Bool.false_eq_true, if_false]; exact ih (fun x hx => h x (by simp [hx]))
theorem getA_mem {l : List PAttr} (hp : l.Pairwise fun x y => ltB x.name y.name) {a : PAttr} (ha : a ∈ l) : getA l a.name = (a, true) := by
  induction l with
  | nil => cases ha
  | cons b r ih =>
    rw [List.pairwise_cons] at hp
    rw [getA]
    rcases List.mem_cons.1 ha with rfl | ha
    · rw [eqB_self]; rfl
    · rw [ltB_ne (hp.1 a ha)]; simp only [Bool.false_eq_true, if_false]; exact ih hp.2 ha

/- Entries. -/
theorem entryA_E {s : PSchema} (h : checkE s = 0) (e : PEntry) : entryA s e = entryE s e := by
  have hf : fitsGo s.defs ByteArray.empty false e.attrs = fitsE s e.attrs := fits_first (checkE_ok h) rfl _
  have h1 : idBad e = decide (e.id < 1 ∨ 1073741824 < e.id ∨ e.owner < 1 ∨ 1073741824 < e.owner ∨ e.ver < 1 ∨ 1073741824 < e.ver) := by
    simp only [idBad, Bool.decide_or]
  have h2 : (fromBad e || (toBad e || bornBad e)) = decide (e.filed < 0 ∨ e.frm < e.filed ∨ e.to ≤ e.frm ∨ 1048577 < e.to ∨ 1048576 < e.frm ∨ e.born < 1 ∨ 1073741824 < e.born) := by
    rw [Bool.eq_iff_iff]
    simp only [fromBad, toBad, bornBad, Bool.or_eq_true, decide_eq_true_eq]
    constructor <;> intro h <;> omega
  have h3 : vecBad s e = decide (validV e.vec = false ∨ (e.vec.length : Int) ≠ s.dims) := by
    rw [Bool.eq_iff_iff]
    simp only [vecBad, Bool.or_eq_true, bne_iff_ne, Bool.not_eq_true', decide_eq_true_eq]
    exact ⟨fun h => h.symm, fun h => h.symm⟩
  unfold entryA entR entryE
  rw [hf]
  simp only [firstE, h1, h3]
  by_cases g1 : e.id < 1 ∨ 1073741824 < e.id ∨ e.owner < 1 ∨ 1073741824 < e.owner ∨ e.ver < 1 ∨ 1073741824 < e.ver
  · simp [g1]
  · rw [if_neg g1]
    simp only [g1, decide_false, Bool.false_eq_true, if_false]
    by_cases g2 : e.filed < 0 ∨ e.frm < e.filed ∨ e.to ≤ e.frm ∨ 1048577 < e.to ∨ 1048576 < e.frm ∨ e.born < 1 ∨ 1073741824 < e.born
    · rw [if_pos g2]
      rw [decide_eq_true g2] at h2
      simp only [Bool.or_eq_true] at h2
      cases ha : fromBad e <;> cases hb : toBad e <;> cases hc : bornBad e <;> simp_all
    · rw [if_neg g2]
      rw [decide_eq_false g2] at h2
      simp only [Bool.or_eq_false_iff] at h2
      simp only [h2.1, h2.2.1, h2.2.2, Bool.false_eq_true, if_false]
      by_cases g3 : validV e.vec = false ∨ (e.vec.length : Int) ≠ s.dims
      · simp [g3]
      · simp [g3]
end Go.Proofs.Ytnjopfjmepbpoaa

/- Law AttrValuesAreInRange: the walk. -/
namespace Go.Proofs.Ytnjopfjmepbpoaa
set_option linter.unusedSimpArgs false
set_option linter.unusedVariables false
set_option linter.unnecessarySimpa false
open Go.RowKit

theorem fits_one {ds : List PDef} (h : DefsOk ByteArray.empty ds) {j : Nat} {d : PDef} (hj : ds[j]? = some d) (k n : Int) (w : ByteArray) : fitsGo ds ByteArray.empty false [⟨d.name, k, n, w⟩] = valueE d ⟨d.name, k, n, w⟩ := by
  have h1 := findI_at h hj
  have h2 := (h.one d (mem_of_get hj)).2.2
  have h3 : fitE ds ByteArray.empty false ⟨d.name, k, n, w⟩ = valueE d ⟨d.name, k, n, w⟩ := by
    unfold fitE
    simp only [h1]
    rw [if_neg (by omega), leqB_false.2 h2]
    simp only [Bool.not_false, Bool.and_false, Bool.false_eq_true, if_false, Int.toNat_natCast, hj]
  rw [fitsGo, h3, fitsGo]
  split
  · rfl
  · rename_i h; exact (by simpa using h : valueE d ⟨d.name, k, n, w⟩ = 0).symm

section
variable {P : Program} {T : Tab} {σ : PS} {o : Oper} {i base : Nat} {ops : Array Oper} {ok : Nat → Nat → Bool} {rest : List (Nat × Oper)} {K : PS → Prop}
/-- A remainder by what is not zero. -/
theorem PWops.remG {d : Nat} {u v : Int} {t tt : TypeId} {x y : Operand} (hop : o.op = .binOp .rem t x y tt) (hg : pguard ops σ o = some true) (hd : o.dst = some d) (hx : pev σ x = .val (.int .i64 u)) (hy : pev σ y = .val (.int .i64 v)) (h : 0 ≤ u ∧ 0 < v) (hb : σ.b (base + i) = none) (k : PWops P T ops base ok rest K (σ.put d (.val (.int .i64 (u % v))))) : PWops P T ops base ok ((i, o) :: rest) K σ := by
  refine PWops.valEq hg hd (p := .val (.int .i64 (u.tmod v))) ?_ (by rw [Int.tmod_eq_emod_of_nonneg h.1]) hb k
  have h0 : v ≠ 0 := by omega
  simp [hop, presE, pval, pev_only, hx, hy, pbin, h0]
end

def defCellsP (d : PDef) : List PV := [pstr d.name, pint d.kind, pint d.lo, pint d.hi, pstrs d.words]

set_option maxRecDepth 10000 in
set_option maxHeartbeats 4000000 in
theorem pw_values (s : PSchema) (place n : Int) (wd : ByteArray) (hs1 : s.defs.length ≤ 20000000000000) (hs2 : ∀ d ∈ s.defs, d.words.length ≤ 20000000000000) (hp : 0 ≤ place ∧ place < 256) : PCalls Try.prog 6 [pschema s, pbyte place, pint n, pstr wd] (· = pbool true) := by
  refine pcalls_of_pw typeTab_ok Try.func6 rfl (by kernel_rfl) (by (first | exact low_mapI | exact low_mapS | exact low_mapB | simp [low_val, low_nilsl, low_sl, low_ep, low_agg, low_tup, low_fn, low_pint, low_pstr, low_pbool, low_pints, low_pstrs, low_pbyte, low_pbytes, low_pattrs, low_pdefs, low_pschema, low_pentry])) (by simp [pschema, pstr, pbyte, pint, PV.ownB]) (by rw [Try.ntmps6]; simp) ?_
  rw [Try.ntmps6, Try.results6]
  have c0 := pw_sanity
  have cs := pw_fewDefs s hs1 hs2
  cases fs : fewDefsB s with
  | false =>
    rw [fs] at cs
    (repeat (first | (with_reducible first | refine PW.seq ?_ | refine PW.block ?_ | refine PW.skip ?_ | refine PW.exit ?_ | refine PW.ret ?_ | refine thenP ?_ | refine thenP_exit ?_ | refine thenP_ret ?_ | refine blockP ?_ | refine blockP_exit ?_ | refine blockP_ret ?_ | refine loopP_exit ?_ | refine loopP_ret ?_) | ((with_reducible refine PWops.idd ?_) ; first | (first | refine PWops.stepA rfl ?_ | refine PWops.doneI rfl ?_ | refine PWops.boolK true rfl rfl rfl rfl (by (first | rfl | assumption | (simp only [decide_eq_true_eq, decide_eq_false_iff_not, bne_iff_ne, beq_iff_eq, beq_eq_false_iff_ne, bne_eq_false_iff_eq, ne_eq] ; omega))) rfl ?_ | refine PWops.boolK false rfl rfl rfl rfl (by (first | rfl | assumption | (simp only [decide_eq_true_eq, decide_eq_false_iff_not, bne_iff_ne, beq_iff_eq, beq_eq_false_iff_ne, bne_eq_false_iff_eq, ne_eq] ; omega))) rfl ?_ | refine PWops.fitsK rfl rfl rfl rfl (by omega) (by omega) rfl ?_ | refine PWops.remK rfl rfl rfl rfl (by omega) rfl ?_ | refine PWops.quoK rfl rfl rfl rfl (by omega) rfl ?_ | refine PWops.app rfl rfl rfl rfl rfl rfl rfl (by omega) (by omega) (by first | rfl | exact one_pint _ | exact one_pstr _ | exact one_pbyte _ | exact one_pattrs _) ?_ | refine PWops.app0 rfl rfl rfl rfl rfl rfl rfl (by omega) (by omega) (by first | rfl | exact one_pint _ | exact one_pstr _ | exact one_pbyte _ | exact one_pattrs _) ?_ | refine PWops.idx1 rfl rfl rfl rfl rfl rfl rfl rfl (by omega) ?_ | refine PWops.idx rfl rfl rfl rfl rfl rfl rfl rfl (by omega) ?_ | refine PWops.ld rfl rfl rfl rfl rfl rfl rfl (by assumption) rfl ?_ | refine PWops.ldA rfl rfl rfl rfl rfl rfl (by omega) (by assumption) ?_ | refine PWops.str rfl rfl rfl rfl rfl rfl rfl rfl rfl rfl rfl ?_) | (first | (refine PWops.call rfl rfl rfl (by assumption) ?_) | refine PWops.idxZ1 rfl rfl rfl rfl rfl rfl rfl rfl (by omega) ?_ | refine PWops.idxZ rfl rfl rfl rfl rfl rfl rfl rfl (by omega) ?_ | refine PWops.ld rfl rfl rfl rfl rfl rfl rfl rfl rfl ?_ | refine PWops.slcL rfl rfl rfl rfl rfl rfl rfl rfl (by omega) ?_ | refine PWops.slcH rfl rfl rfl rfl rfl rfl rfl rfl (by omega) ?_ | refine PWops.slcRL rfl rfl rfl rfl rfl rfl rfl rfl (by intro; rfl) (by omega) ?_ | refine PWops.slcRH rfl rfl rfl rfl rfl rfl rfl rfl (by intro; rfl) (by omega) ?_ | refine PWops.slcM rfl rfl rfl rfl rfl rfl rfl rfl rfl (by omega) ?_ | refine PWops.ldM rfl rfl rfl rfl rfl rfl rfl (by omega) rfl ?_ | refine PWops.ldR rfl rfl rfl rfl rfl rfl rfl (by intro; rfl) (by omega) rfl rfl ?_ | refine PWops.ldRA rfl rfl rfl rfl rfl rfl (by intro; rfl) (by omega) rfl ?_)) | (first | ((with_reducible refine PW.idd ?_) ; (first | refine PW.region typeTab_ok (by kernel_rfl) ?_ | refine PW.draw typeTab_ok (by kernel_rfl) (by kernel_rfl) (by kernel_rfl) ?_ | refine PW.condT rfl ?_ | refine PW.condF rfl ?_ | refine blockP_other (by decide) ?_)) | with_reducible refine blockP_other (by decide) ?_)))
    exact retP rfl (by (first | exact low_mapI | exact low_mapS | exact low_mapB | simp [low_val, low_nilsl, low_sl, low_ep, low_agg, low_tup, low_fn, low_pint, low_pstr, low_pbool, low_pints, low_pstrs, low_pbyte, low_pbytes, low_pattrs, low_pdefs, low_pschema, low_pentry])) rfl
  | true =>
  rw [fs] at cs
  have hF := fewDefsB_few fs
  have hS := hF.small
  have k1 := pcRefCheck s hS
  by_cases hk : checkE s = 0
  case neg =>
    (repeat (first | (with_reducible first | refine PW.seq ?_ | refine PW.block ?_ | refine PW.skip ?_ | refine PW.exit ?_ | refine PW.ret ?_ | refine thenP ?_ | refine thenP_exit ?_ | refine thenP_ret ?_ | refine blockP ?_ | refine blockP_exit ?_ | refine blockP_ret ?_ | refine loopP_exit ?_ | refine loopP_ret ?_) | ((with_reducible refine PWops.idd ?_) ; first | (first | refine PWops.stepA rfl ?_ | refine PWops.doneI rfl ?_ | refine PWops.boolK true rfl rfl rfl rfl (by (first | rfl | assumption | (simp only [decide_eq_true_eq, decide_eq_false_iff_not, bne_iff_ne, beq_iff_eq, beq_eq_false_iff_ne, bne_eq_false_iff_eq, ne_eq] ; omega))) rfl ?_ | refine PWops.boolK false rfl rfl rfl rfl (by (first | rfl | assumption | (simp only [decide_eq_true_eq, decide_eq_false_iff_not, bne_iff_ne, beq_iff_eq, beq_eq_false_iff_ne, bne_eq_false_iff_eq, ne_eq] ; omega))) rfl ?_ | refine PWops.fitsK rfl rfl rfl rfl (by omega) (by omega) rfl ?_ | refine PWops.remK rfl rfl rfl rfl (by omega) rfl ?_ | refine PWops.quoK rfl rfl rfl rfl (by omega) rfl ?_ | refine PWops.app rfl rfl rfl rfl rfl rfl rfl (by omega) (by omega) (by first | rfl | exact one_pint _ | exact one_pstr _ | exact one_pbyte _ | exact one_pattrs _) ?_ | refine PWops.app0 rfl rfl rfl rfl rfl rfl rfl (by omega) (by omega) (by first | rfl | exact one_pint _ | exact one_pstr _ | exact one_pbyte _ | exact one_pattrs _) ?_ | refine PWops.idx1 rfl rfl rfl rfl rfl rfl rfl rfl (by omega) ?_ | refine PWops.idx rfl rfl rfl rfl rfl rfl rfl rfl (by omega) ?_ | refine PWops.ld rfl rfl rfl rfl rfl rfl rfl (by assumption) rfl ?_ | refine PWops.ldA rfl rfl rfl rfl rfl rfl (by omega) (by assumption) ?_ | refine PWops.str rfl rfl rfl rfl rfl rfl rfl rfl rfl rfl rfl ?_) | (first | (refine PWops.call rfl rfl rfl (by assumption) ?_) | refine PWops.idxZ1 rfl rfl rfl rfl rfl rfl rfl rfl (by omega) ?_ | refine PWops.idxZ rfl rfl rfl rfl rfl rfl rfl rfl (by omega) ?_ | refine PWops.ld rfl rfl rfl rfl rfl rfl rfl rfl rfl ?_ | refine PWops.slcL rfl rfl rfl rfl rfl rfl rfl rfl (by omega) ?_ | refine PWops.slcH rfl rfl rfl rfl rfl rfl rfl rfl (by omega) ?_ | refine PWops.slcRL rfl rfl rfl rfl rfl rfl rfl rfl (by intro; rfl) (by omega) ?_ | refine PWops.slcRH rfl rfl rfl rfl rfl rfl rfl rfl (by intro; rfl) (by omega) ?_ | refine PWops.slcM rfl rfl rfl rfl rfl rfl rfl rfl rfl (by omega) ?_ | refine PWops.ldM rfl rfl rfl rfl rfl rfl rfl (by omega) rfl ?_ | refine PWops.ldR rfl rfl rfl rfl rfl rfl rfl (by intro; rfl) (by omega) rfl rfl ?_ | refine PWops.ldRA rfl rfl rfl rfl rfl rfl (by intro; rfl) (by omega) rfl ?_)) | (first | ((with_reducible refine PW.idd ?_) ; (first | refine PW.region typeTab_ok (by kernel_rfl) ?_ | refine PW.draw typeTab_ok (by kernel_rfl) (by kernel_rfl) (by kernel_rfl) ?_ | refine PW.condT rfl ?_ | refine PW.condF rfl ?_ | refine blockP_other (by decide) ?_)) | with_reducible refine blockP_other (by decide) ?_)))
    exact retP rfl (by (first | exact low_mapI | exact low_mapS | exact low_mapB | simp [low_val, low_nilsl, low_sl, low_ep, low_agg, low_tup, low_fn, low_pint, low_pstr, low_pbool, low_pints, low_pstrs, low_pbyte, low_pbytes, low_pattrs, low_pdefs, low_pschema, low_pentry])) rfl
  rw [hk] at k1
  (repeat (first | (with_reducible first | refine PW.seq ?_ | refine PW.block ?_ | refine PW.skip ?_ | refine PW.exit ?_ | refine PW.ret ?_ | refine thenP ?_ | refine thenP_exit ?_ | refine thenP_ret ?_ | refine blockP ?_ | refine blockP_exit ?_ | refine blockP_ret ?_ | refine loopP_exit ?_ | refine loopP_ret ?_) | ((with_reducible refine PWops.idd ?_) ; first | (first | refine PWops.stepA rfl ?_ | refine PWops.doneI rfl ?_ | refine PWops.boolK true rfl rfl rfl rfl (by (first | rfl | assumption | (simp only [decide_eq_true_eq, decide_eq_false_iff_not, bne_iff_ne, beq_iff_eq, beq_eq_false_iff_ne, bne_eq_false_iff_eq, ne_eq] ; omega))) rfl ?_ | refine PWops.boolK false rfl rfl rfl rfl (by (first | rfl | assumption | (simp only [decide_eq_true_eq, decide_eq_false_iff_not, bne_iff_ne, beq_iff_eq, beq_eq_false_iff_ne, bne_eq_false_iff_eq, ne_eq] ; omega))) rfl ?_ | refine PWops.fitsK rfl rfl rfl rfl (by omega) (by omega) rfl ?_ | refine PWops.remK rfl rfl rfl rfl (by omega) rfl ?_ | refine PWops.quoK rfl rfl rfl rfl (by omega) rfl ?_ | refine PWops.app rfl rfl rfl rfl rfl rfl rfl (by omega) (by omega) (by first | rfl | exact one_pint _ | exact one_pstr _ | exact one_pbyte _ | exact one_pattrs _) ?_ | refine PWops.app0 rfl rfl rfl rfl rfl rfl rfl (by omega) (by omega) (by first | rfl | exact one_pint _ | exact one_pstr _ | exact one_pbyte _ | exact one_pattrs _) ?_ | refine PWops.idx1 rfl rfl rfl rfl rfl rfl rfl rfl (by omega) ?_ | refine PWops.idx rfl rfl rfl rfl rfl rfl rfl rfl (by omega) ?_ | refine PWops.ld rfl rfl rfl rfl rfl rfl rfl (by assumption) rfl ?_ | refine PWops.ldA rfl rfl rfl rfl rfl rfl (by omega) (by assumption) ?_ | refine PWops.str rfl rfl rfl rfl rfl rfl rfl rfl rfl rfl rfl ?_) | (first | (refine PWops.call rfl rfl rfl (by assumption) ?_) | refine PWops.idxZ1 rfl rfl rfl rfl rfl rfl rfl rfl (by omega) ?_ | refine PWops.idxZ rfl rfl rfl rfl rfl rfl rfl rfl (by omega) ?_ | refine PWops.ld rfl rfl rfl rfl rfl rfl rfl rfl rfl ?_ | refine PWops.slcL rfl rfl rfl rfl rfl rfl rfl rfl (by omega) ?_ | refine PWops.slcH rfl rfl rfl rfl rfl rfl rfl rfl (by omega) ?_ | refine PWops.slcRL rfl rfl rfl rfl rfl rfl rfl rfl (by intro; rfl) (by omega) ?_ | refine PWops.slcRH rfl rfl rfl rfl rfl rfl rfl rfl (by intro; rfl) (by omega) ?_ | refine PWops.slcM rfl rfl rfl rfl rfl rfl rfl rfl rfl (by omega) ?_ | refine PWops.ldM rfl rfl rfl rfl rfl rfl rfl (by omega) rfl ?_ | refine PWops.ldR rfl rfl rfl rfl rfl rfl rfl (by intro; rfl) (by omega) rfl rfl ?_ | refine PWops.ldRA rfl rfl rfl rfl rfl rfl (by intro; rfl) (by omega) rfl ?_)) | (first | ((with_reducible refine PW.idd ?_) ; (first | refine PW.region typeTab_ok (by kernel_rfl) ?_ | refine PW.draw typeTab_ok (by kernel_rfl) (by kernel_rfl) (by kernel_rfl) ?_ | refine PW.condT rfl ?_ | refine PW.condF rfl ?_ | refine blockP_other (by decide) ?_)) | with_reducible refine blockP_other (by decide) ?_)))
  by_cases h0 : s.defs.length = 0
  · (repeat (first | (with_reducible first | refine PW.seq ?_ | refine PW.block ?_ | refine PW.skip ?_ | refine PW.exit ?_ | refine PW.ret ?_ | refine thenP ?_ | refine thenP_exit ?_ | refine thenP_ret ?_ | refine blockP ?_ | refine blockP_exit ?_ | refine blockP_ret ?_ | refine loopP_exit ?_ | refine loopP_ret ?_) | ((with_reducible refine PWops.idd ?_) ; first | (first | refine PWops.stepA rfl ?_ | refine PWops.doneI rfl ?_ | refine PWops.boolK true rfl rfl rfl rfl (by (first | rfl | assumption | (simp only [decide_eq_true_eq, decide_eq_false_iff_not, bne_iff_ne, beq_iff_eq, beq_eq_false_iff_ne, bne_eq_false_iff_eq, ne_eq] ; omega))) rfl ?_ | refine PWops.boolK false rfl rfl rfl rfl (by (first | rfl | assumption | (simp only [decide_eq_true_eq, decide_eq_false_iff_not, bne_iff_ne, beq_iff_eq, beq_eq_false_iff_ne, bne_eq_false_iff_eq, ne_eq] ; omega))) rfl ?_ | refine PWops.fitsK rfl rfl rfl rfl (by omega) (by omega) rfl ?_ | refine PWops.remK rfl rfl rfl rfl (by omega) rfl ?_ | refine PWops.quoK rfl rfl rfl rfl (by omega) rfl ?_ | refine PWops.app rfl rfl rfl rfl rfl rfl rfl (by omega) (by omega) (by first | rfl | exact one_pint _ | exact one_pstr _ | exact one_pbyte _ | exact one_pattrs _) ?_ | refine PWops.app0 rfl rfl rfl rfl rfl rfl rfl (by omega) (by omega) (by first | rfl | exact one_pint _ | exact one_pstr _ | exact one_pbyte _ | exact one_pattrs _) ?_ | refine PWops.idx1 rfl rfl rfl rfl rfl rfl rfl rfl (by omega) ?_ | refine PWops.idx rfl rfl rfl rfl rfl rfl rfl rfl (by omega) ?_ | refine PWops.ld rfl rfl rfl rfl rfl rfl rfl (by assumption) rfl ?_ | refine PWops.ldA rfl rfl rfl rfl rfl rfl (by omega) (by assumption) ?_ | refine PWops.str rfl rfl rfl rfl rfl rfl rfl rfl rfl rfl rfl ?_) | (first | (refine PWops.call rfl rfl rfl (by assumption) ?_) | refine PWops.idxZ1 rfl rfl rfl rfl rfl rfl rfl rfl (by omega) ?_ | refine PWops.idxZ rfl rfl rfl rfl rfl rfl rfl rfl (by omega) ?_ | refine PWops.ld rfl rfl rfl rfl rfl rfl rfl rfl rfl ?_ | refine PWops.slcL rfl rfl rfl rfl rfl rfl rfl rfl (by omega) ?_ | refine PWops.slcH rfl rfl rfl rfl rfl rfl rfl rfl (by omega) ?_ | refine PWops.slcRL rfl rfl rfl rfl rfl rfl rfl rfl (by intro; rfl) (by omega) ?_ | refine PWops.slcRH rfl rfl rfl rfl rfl rfl rfl rfl (by intro; rfl) (by omega) ?_ | refine PWops.slcM rfl rfl rfl rfl rfl rfl rfl rfl rfl (by omega) ?_ | refine PWops.ldM rfl rfl rfl rfl rfl rfl rfl (by omega) rfl ?_ | refine PWops.ldR rfl rfl rfl rfl rfl rfl rfl (by intro; rfl) (by omega) rfl rfl ?_ | refine PWops.ldRA rfl rfl rfl rfl rfl rfl (by intro; rfl) (by omega) rfl ?_)) | (first | ((with_reducible refine PW.idd ?_) ; (first | refine PW.region typeTab_ok (by kernel_rfl) ?_ | refine PW.draw typeTab_ok (by kernel_rfl) (by kernel_rfl) (by kernel_rfl) ?_ | refine PW.condT rfl ?_ | refine PW.condF rfl ?_ | refine blockP_other (by decide) ?_)) | with_reducible refine blockP_other (by decide) ?_)))
    exact retP rfl (by (first | exact low_mapI | exact low_mapS | exact low_mapB | simp [low_val, low_nilsl, low_sl, low_ep, low_agg, low_tup, low_fn, low_pint, low_pstr, low_pbool, low_pints, low_pstrs, low_pbyte, low_pbytes, low_pattrs, low_pdefs, low_pschema, low_pentry])) rfl
  (repeat (first | (with_reducible first | refine PW.seq ?_ | refine PW.block ?_ | refine PW.skip ?_ | refine PW.exit ?_ | refine PW.ret ?_ | refine thenP ?_ | refine thenP_exit ?_ | refine thenP_ret ?_ | refine blockP ?_ | refine blockP_exit ?_ | refine blockP_ret ?_ | refine loopP_exit ?_ | refine loopP_ret ?_) | ((with_reducible refine PWops.idd ?_) ; first | (first | refine PWops.stepA rfl ?_ | refine PWops.doneI rfl ?_ | refine PWops.boolK true rfl rfl rfl rfl (by (first | rfl | assumption | (simp only [decide_eq_true_eq, decide_eq_false_iff_not, bne_iff_ne, beq_iff_eq, beq_eq_false_iff_ne, bne_eq_false_iff_eq, ne_eq] ; omega))) rfl ?_ | refine PWops.boolK false rfl rfl rfl rfl (by (first | rfl | assumption | (simp only [decide_eq_true_eq, decide_eq_false_iff_not, bne_iff_ne, beq_iff_eq, beq_eq_false_iff_ne, bne_eq_false_iff_eq, ne_eq] ; omega))) rfl ?_ | refine PWops.fitsK rfl rfl rfl rfl (by omega) (by omega) rfl ?_ | refine PWops.remK rfl rfl rfl rfl (by omega) rfl ?_ | refine PWops.quoK rfl rfl rfl rfl (by omega) rfl ?_ | refine PWops.app rfl rfl rfl rfl rfl rfl rfl (by omega) (by omega) (by first | rfl | exact one_pint _ | exact one_pstr _ | exact one_pbyte _ | exact one_pattrs _) ?_ | refine PWops.app0 rfl rfl rfl rfl rfl rfl rfl (by omega) (by omega) (by first | rfl | exact one_pint _ | exact one_pstr _ | exact one_pbyte _ | exact one_pattrs _) ?_ | refine PWops.idx1 rfl rfl rfl rfl rfl rfl rfl rfl (by omega) ?_ | refine PWops.idx rfl rfl rfl rfl rfl rfl rfl rfl (by omega) ?_ | refine PWops.ld rfl rfl rfl rfl rfl rfl rfl (by assumption) rfl ?_ | refine PWops.ldA rfl rfl rfl rfl rfl rfl (by omega) (by assumption) ?_ | refine PWops.str rfl rfl rfl rfl rfl rfl rfl rfl rfl rfl rfl ?_) | (first | (refine PWops.call rfl rfl rfl (by assumption) ?_) | refine PWops.idxZ1 rfl rfl rfl rfl rfl rfl rfl rfl (by omega) ?_ | refine PWops.idxZ rfl rfl rfl rfl rfl rfl rfl rfl (by omega) ?_ | refine PWops.ld rfl rfl rfl rfl rfl rfl rfl rfl rfl ?_ | refine PWops.slcL rfl rfl rfl rfl rfl rfl rfl rfl (by omega) ?_ | refine PWops.slcH rfl rfl rfl rfl rfl rfl rfl rfl (by omega) ?_ | refine PWops.slcRL rfl rfl rfl rfl rfl rfl rfl rfl (by intro; rfl) (by omega) ?_ | refine PWops.slcRH rfl rfl rfl rfl rfl rfl rfl rfl (by intro; rfl) (by omega) ?_ | refine PWops.slcM rfl rfl rfl rfl rfl rfl rfl rfl rfl (by omega) ?_ | refine PWops.ldM rfl rfl rfl rfl rfl rfl rfl (by omega) rfl ?_ | refine PWops.ldR rfl rfl rfl rfl rfl rfl rfl (by intro; rfl) (by omega) rfl rfl ?_ | refine PWops.ldRA rfl rfl rfl rfl rfl rfl (by intro; rfl) (by omega) rfl ?_)) | (first | ((with_reducible refine PW.idd ?_) ; (first | refine PW.region typeTab_ok (by kernel_rfl) ?_ | refine PW.draw typeTab_ok (by kernel_rfl) (by kernel_rfl) (by kernel_rfl) ?_ | refine PW.condT rfl ?_ | refine PW.condF rfl ?_ | refine blockP_other (by decide) ?_)) | with_reducible refine blockP_other (by decide) ?_)))
  by_cases hw : wd.size ≤ 100
  case neg =>
    (repeat (first | (with_reducible first | refine PW.seq ?_ | refine PW.block ?_ | refine PW.skip ?_ | refine PW.exit ?_ | refine PW.ret ?_ | refine thenP ?_ | refine thenP_exit ?_ | refine thenP_ret ?_ | refine blockP ?_ | refine blockP_exit ?_ | refine blockP_ret ?_ | refine loopP_exit ?_ | refine loopP_ret ?_) | ((with_reducible refine PWops.idd ?_) ; first | (first | refine PWops.stepA rfl ?_ | refine PWops.doneI rfl ?_ | refine PWops.boolK true rfl rfl rfl rfl (by (first | rfl | assumption | (simp only [decide_eq_true_eq, decide_eq_false_iff_not, bne_iff_ne, beq_iff_eq, beq_eq_false_iff_ne, bne_eq_false_iff_eq, ne_eq] ; omega))) rfl ?_ | refine PWops.boolK false rfl rfl rfl rfl (by (first | rfl | assumption | (simp only [decide_eq_true_eq, decide_eq_false_iff_not, bne_iff_ne, beq_iff_eq, beq_eq_false_iff_ne, bne_eq_false_iff_eq, ne_eq] ; omega))) rfl ?_ | refine PWops.fitsK rfl rfl rfl rfl (by omega) (by omega) rfl ?_ | refine PWops.remK rfl rfl rfl rfl (by omega) rfl ?_ | refine PWops.quoK rfl rfl rfl rfl (by omega) rfl ?_ | refine PWops.app rfl rfl rfl rfl rfl rfl rfl (by omega) (by omega) (by first | rfl | exact one_pint _ | exact one_pstr _ | exact one_pbyte _ | exact one_pattrs _) ?_ | refine PWops.app0 rfl rfl rfl rfl rfl rfl rfl (by omega) (by omega) (by first | rfl | exact one_pint _ | exact one_pstr _ | exact one_pbyte _ | exact one_pattrs _) ?_ | refine PWops.idx1 rfl rfl rfl rfl rfl rfl rfl rfl (by omega) ?_ | refine PWops.idx rfl rfl rfl rfl rfl rfl rfl rfl (by omega) ?_ | refine PWops.ld rfl rfl rfl rfl rfl rfl rfl (by assumption) rfl ?_ | refine PWops.ldA rfl rfl rfl rfl rfl rfl (by omega) (by assumption) ?_ | refine PWops.str rfl rfl rfl rfl rfl rfl rfl rfl rfl rfl rfl ?_) | (first | (refine PWops.call rfl rfl rfl (by assumption) ?_) | refine PWops.idxZ1 rfl rfl rfl rfl rfl rfl rfl rfl (by omega) ?_ | refine PWops.idxZ rfl rfl rfl rfl rfl rfl rfl rfl (by omega) ?_ | refine PWops.ld rfl rfl rfl rfl rfl rfl rfl rfl rfl ?_ | refine PWops.slcL rfl rfl rfl rfl rfl rfl rfl rfl (by omega) ?_ | refine PWops.slcH rfl rfl rfl rfl rfl rfl rfl rfl (by omega) ?_ | refine PWops.slcRL rfl rfl rfl rfl rfl rfl rfl rfl (by intro; rfl) (by omega) ?_ | refine PWops.slcRH rfl rfl rfl rfl rfl rfl rfl rfl (by intro; rfl) (by omega) ?_ | refine PWops.slcM rfl rfl rfl rfl rfl rfl rfl rfl rfl (by omega) ?_ | refine PWops.ldM rfl rfl rfl rfl rfl rfl rfl (by omega) rfl ?_ | refine PWops.ldR rfl rfl rfl rfl rfl rfl rfl (by intro; rfl) (by omega) rfl rfl ?_ | refine PWops.ldRA rfl rfl rfl rfl rfl rfl (by intro; rfl) (by omega) rfl ?_)) | (first | ((with_reducible refine PW.idd ?_) ; (first | refine PW.region typeTab_ok (by kernel_rfl) ?_ | refine PW.draw typeTab_ok (by kernel_rfl) (by kernel_rfl) (by kernel_rfl) ?_ | refine PW.condT rfl ?_ | refine PW.condF rfl ?_ | refine blockP_other (by decide) ?_)) | with_reducible refine blockP_other (by decide) ?_)))
    exact retP rfl (by (first | exact low_mapI | exact low_mapS | exact low_mapB | simp [low_val, low_nilsl, low_sl, low_ep, low_agg, low_tup, low_fn, low_pint, low_pstr, low_pbool, low_pints, low_pstrs, low_pbyte, low_pbytes, low_pattrs, low_pdefs, low_pschema, low_pentry])) rfl
  (repeat (first | (with_reducible first | refine PW.seq ?_ | refine PW.block ?_ | refine PW.skip ?_ | refine PW.exit ?_ | refine PW.ret ?_ | refine thenP ?_ | refine thenP_exit ?_ | refine thenP_ret ?_ | refine blockP ?_ | refine blockP_exit ?_ | refine blockP_ret ?_ | refine loopP_exit ?_ | refine loopP_ret ?_) | ((with_reducible refine PWops.idd ?_) ; first | (first | refine PWops.stepA rfl ?_ | refine PWops.doneI rfl ?_ | refine PWops.boolK true rfl rfl rfl rfl (by (first | rfl | assumption | (simp only [decide_eq_true_eq, decide_eq_false_iff_not, bne_iff_ne, beq_iff_eq, beq_eq_false_iff_ne, bne_eq_false_iff_eq, ne_eq] ; omega))) rfl ?_ | refine PWops.boolK false rfl rfl rfl rfl (by (first | rfl | assumption | (simp only [decide_eq_true_eq, decide_eq_false_iff_not, bne_iff_ne, beq_iff_eq, beq_eq_false_iff_ne, bne_eq_false_iff_eq, ne_eq] ; omega))) rfl ?_ | refine PWops.fitsK rfl rfl rfl rfl (by omega) (by omega) rfl ?_ | refine PWops.remK rfl rfl rfl rfl (by omega) rfl ?_ | refine PWops.quoK rfl rfl rfl rfl (by omega) rfl ?_ | refine PWops.app rfl rfl rfl rfl rfl rfl rfl (by omega) (by omega) (by first | rfl | exact one_pint _ | exact one_pstr _ | exact one_pbyte _ | exact one_pattrs _) ?_ | refine PWops.app0 rfl rfl rfl rfl rfl rfl rfl (by omega) (by omega) (by first | rfl | exact one_pint _ | exact one_pstr _ | exact one_pbyte _ | exact one_pattrs _) ?_ | refine PWops.idx1 rfl rfl rfl rfl rfl rfl rfl rfl (by omega) ?_ | refine PWops.idx rfl rfl rfl rfl rfl rfl rfl rfl (by omega) ?_ | refine PWops.ld rfl rfl rfl rfl rfl rfl rfl (by assumption) rfl ?_ | refine PWops.ldA rfl rfl rfl rfl rfl rfl (by omega) (by assumption) ?_ | refine PWops.str rfl rfl rfl rfl rfl rfl rfl rfl rfl rfl rfl ?_) | (first | (refine PWops.call rfl rfl rfl (by assumption) ?_) | refine PWops.idxZ1 rfl rfl rfl rfl rfl rfl rfl rfl (by omega) ?_ | refine PWops.idxZ rfl rfl rfl rfl rfl rfl rfl rfl (by omega) ?_ | refine PWops.ld rfl rfl rfl rfl rfl rfl rfl rfl rfl ?_ | refine PWops.slcL rfl rfl rfl rfl rfl rfl rfl rfl (by omega) ?_ | refine PWops.slcH rfl rfl rfl rfl rfl rfl rfl rfl (by omega) ?_ | refine PWops.slcRL rfl rfl rfl rfl rfl rfl rfl rfl (by intro; rfl) (by omega) ?_ | refine PWops.slcRH rfl rfl rfl rfl rfl rfl rfl rfl (by intro; rfl) (by omega) ?_ | refine PWops.slcM rfl rfl rfl rfl rfl rfl rfl rfl rfl (by omega) ?_ | refine PWops.ldM rfl rfl rfl rfl rfl rfl rfl (by omega) rfl ?_ | refine PWops.ldR rfl rfl rfl rfl rfl rfl rfl (by intro; rfl) (by omega) rfl rfl ?_ | refine PWops.ldRA rfl rfl rfl rfl rfl rfl (by intro; rfl) (by omega) rfl ?_)) | (first | ((with_reducible refine PW.idd ?_) ; (first | refine PW.region typeTab_ok (by kernel_rfl) ?_ | refine PW.draw typeTab_ok (by kernel_rfl) (by kernel_rfl) (by kernel_rfl) ?_ | refine PW.condT rfl ?_ | refine PW.condF rfl ?_ | refine blockP_other (by decide) ?_)) | with_reducible refine blockP_other (by decide) ?_)))
  rw [show IntKind.i64.wrap place = place from wrap64_id (by omega) (by omega)]
  (repeat (first | (with_reducible first | refine PW.seq ?_ | refine PW.block ?_ | refine PW.skip ?_ | refine PW.exit ?_ | refine PW.ret ?_ | refine thenP ?_ | refine thenP_exit ?_ | refine thenP_ret ?_ | refine blockP ?_ | refine blockP_exit ?_ | refine blockP_ret ?_ | refine loopP_exit ?_ | refine loopP_ret ?_) | ((with_reducible refine PWops.idd ?_) ; first | (first | refine PWops.stepA rfl ?_ | refine PWops.doneI rfl ?_ | refine PWops.boolK true rfl rfl rfl rfl (by (first | rfl | assumption | (simp only [decide_eq_true_eq, decide_eq_false_iff_not, bne_iff_ne, beq_iff_eq, beq_eq_false_iff_ne, bne_eq_false_iff_eq, ne_eq] ; omega))) rfl ?_ | refine PWops.boolK false rfl rfl rfl rfl (by (first | rfl | assumption | (simp only [decide_eq_true_eq, decide_eq_false_iff_not, bne_iff_ne, beq_iff_eq, beq_eq_false_iff_ne, bne_eq_false_iff_eq, ne_eq] ; omega))) rfl ?_ | refine PWops.fitsK rfl rfl rfl rfl (by omega) (by omega) rfl ?_ | refine PWops.remK rfl rfl rfl rfl (by omega) rfl ?_ | refine PWops.quoK rfl rfl rfl rfl (by omega) rfl ?_ | refine PWops.app rfl rfl rfl rfl rfl rfl rfl (by omega) (by omega) (by first | rfl | exact one_pint _ | exact one_pstr _ | exact one_pbyte _ | exact one_pattrs _) ?_ | refine PWops.app0 rfl rfl rfl rfl rfl rfl rfl (by omega) (by omega) (by first | rfl | exact one_pint _ | exact one_pstr _ | exact one_pbyte _ | exact one_pattrs _) ?_ | refine PWops.idx1 rfl rfl rfl rfl rfl rfl rfl rfl (by omega) ?_ | refine PWops.idx rfl rfl rfl rfl rfl rfl rfl rfl (by omega) ?_ | refine PWops.ld rfl rfl rfl rfl rfl rfl rfl (by assumption) rfl ?_ | refine PWops.ldA rfl rfl rfl rfl rfl rfl (by omega) (by assumption) ?_ | refine PWops.str rfl rfl rfl rfl rfl rfl rfl rfl rfl rfl rfl ?_) | (first | (refine PWops.call rfl rfl rfl (by assumption) ?_) | refine PWops.idxZ1 rfl rfl rfl rfl rfl rfl rfl rfl (by omega) ?_ | refine PWops.idxZ rfl rfl rfl rfl rfl rfl rfl rfl (by omega) ?_ | refine PWops.ld rfl rfl rfl rfl rfl rfl rfl rfl rfl ?_ | refine PWops.slcL rfl rfl rfl rfl rfl rfl rfl rfl (by omega) ?_ | refine PWops.slcH rfl rfl rfl rfl rfl rfl rfl rfl (by omega) ?_ | refine PWops.slcRL rfl rfl rfl rfl rfl rfl rfl rfl (by intro; rfl) (by omega) ?_ | refine PWops.slcRH rfl rfl rfl rfl rfl rfl rfl rfl (by intro; rfl) (by omega) ?_ | refine PWops.slcM rfl rfl rfl rfl rfl rfl rfl rfl rfl (by omega) ?_ | refine PWops.ldM rfl rfl rfl rfl rfl rfl rfl (by omega) rfl ?_ | refine PWops.ldR rfl rfl rfl rfl rfl rfl rfl (by intro; rfl) (by omega) rfl rfl ?_ | refine PWops.ldRA rfl rfl rfl rfl rfl rfl (by intro; rfl) (by omega) rfl ?_)) | (first | ((with_reducible refine PW.idd ?_) ; (first | refine PW.region typeTab_ok (by kernel_rfl) ?_ | refine PW.draw typeTab_ok (by kernel_rfl) (by kernel_rfl) (by kernel_rfl) ?_ | refine PW.condT rfl ?_ | refine PW.condF rfl ?_ | refine blockP_other (by decide) ?_)) | with_reducible refine blockP_other (by decide) ?_)))
  refine PWops.remG rfl rfl rfl rfl rfl (by omega) rfl ?_
  have hm1 : 0 ≤ place % (s.defs.length : Int) := Int.emod_nonneg _ (by omega)
  have hm2 : place % (s.defs.length : Int) < s.defs.length := Int.emod_lt_of_pos _ (by omega)
  generalize place % (s.defs.length : Int) = z at hm1 hm2 ⊢
  obtain ⟨j, rfl⟩ : ∃ j : Nat, z = j := ⟨z.toNat, by omega⟩
  obtain ⟨d, hd⟩ := ints_get s.defs j (by omega)
  have hrow := flatMap_row (f := pdefL) (k := 5) (fun _ => rfl) hd
  have hlen := flatMap_len (f := pdefL) (k := 5) (fun _ => rfl) s.defs
  have hrow' : (((s.defs.flatMap pdefL).drop (j * 5)).take 5).map PV.bare = pdefL d := by rw [hrow]; rfl
  have hdo := checkE_ok hk
  have hone := hdo.one d (mem_of_get hd)
  have f1 := pcFits s [⟨d.name, 1, n, ByteArray.empty⟩] hS (Nat.le_of_ble_eq_true rfl)
  have f2 := pcFits s [⟨d.name, 2, 0, wd⟩] hS (Nat.le_of_ble_eq_true rfl)
  rw [fits_one hdo hd] at f1 f2
  have h1 := pcRefHas d.words wd (by have := hS.2 d (mem_of_get hd); unfold SmallD at this; omega)
  (repeat (first | (with_reducible first | refine PW.seq ?_ | refine PW.block ?_ | refine PW.skip ?_ | refine PW.exit ?_ | refine PW.ret ?_ | refine thenP ?_ | refine thenP_exit ?_ | refine thenP_ret ?_ | refine blockP ?_ | refine blockP_exit ?_ | refine blockP_ret ?_ | refine loopP_exit ?_ | refine loopP_ret ?_) | ((with_reducible refine PWops.idd ?_) ; first | (first | refine PWops.stepA rfl ?_ | refine PWops.doneI rfl ?_ | refine PWops.boolK true rfl rfl rfl rfl (by (first | rfl | assumption | (simp only [decide_eq_true_eq, decide_eq_false_iff_not, bne_iff_ne, beq_iff_eq, beq_eq_false_iff_ne, bne_eq_false_iff_eq, ne_eq] ; omega))) rfl ?_ | refine PWops.boolK false rfl rfl rfl rfl (by (first | rfl | assumption | (simp only [decide_eq_true_eq, decide_eq_false_iff_not, bne_iff_ne, beq_iff_eq, beq_eq_false_iff_ne, bne_eq_false_iff_eq, ne_eq] ; omega))) rfl ?_ | refine PWops.fitsK rfl rfl rfl rfl (by omega) (by omega) rfl ?_ | refine PWops.remK rfl rfl rfl rfl (by omega) rfl ?_ | refine PWops.quoK rfl rfl rfl rfl (by omega) rfl ?_ | refine PWops.app rfl rfl rfl rfl rfl rfl rfl (by omega) (by omega) (by first | rfl | exact one_pint _ | exact one_pstr _ | exact one_pbyte _ | exact one_pattrs _) ?_ | refine PWops.app0 rfl rfl rfl rfl rfl rfl rfl (by omega) (by omega) (by first | rfl | exact one_pint _ | exact one_pstr _ | exact one_pbyte _ | exact one_pattrs _) ?_ | refine PWops.idx1 rfl rfl rfl rfl rfl rfl rfl rfl (by omega) ?_ | refine PWops.idx rfl rfl rfl rfl rfl rfl rfl rfl (by omega) ?_ | refine PWops.ld rfl rfl rfl rfl rfl rfl rfl (by assumption) rfl ?_ | refine PWops.ldA rfl rfl rfl rfl rfl rfl (by omega) (by assumption) ?_ | refine PWops.str rfl rfl rfl rfl rfl rfl rfl rfl rfl rfl rfl ?_) | (first | (refine PWops.call rfl rfl rfl (by assumption) ?_) | refine PWops.idxZ1 rfl rfl rfl rfl rfl rfl rfl rfl (by omega) ?_ | refine PWops.idxZ rfl rfl rfl rfl rfl rfl rfl rfl (by omega) ?_ | refine PWops.ld rfl rfl rfl rfl rfl rfl rfl rfl rfl ?_ | refine PWops.slcL rfl rfl rfl rfl rfl rfl rfl rfl (by omega) ?_ | refine PWops.slcH rfl rfl rfl rfl rfl rfl rfl rfl (by omega) ?_ | refine PWops.slcRL rfl rfl rfl rfl rfl rfl rfl rfl (by intro; rfl) (by omega) ?_ | refine PWops.slcRH rfl rfl rfl rfl rfl rfl rfl rfl (by intro; rfl) (by omega) ?_ | refine PWops.slcM rfl rfl rfl rfl rfl rfl rfl rfl rfl (by omega) ?_ | refine PWops.ldM rfl rfl rfl rfl rfl rfl rfl (by omega) rfl ?_ | refine PWops.ldR rfl rfl rfl rfl rfl rfl rfl (by intro; rfl) (by omega) rfl rfl ?_ | refine PWops.ldRA rfl rfl rfl rfl rfl rfl (by intro; rfl) (by omega) rfl ?_)) | (first | ((with_reducible refine PW.idd ?_) ; (first | refine PW.region typeTab_ok (by kernel_rfl) ?_ | refine PW.draw typeTab_ok (by kernel_rfl) (by kernel_rfl) (by kernel_rfl) ?_ | refine PW.condT rfl ?_ | refine PW.condF rfl ?_ | refine blockP_other (by decide) ?_)) | with_reducible refine blockP_other (by decide) ?_)))
  rcases hone.2.1 with hkd | hkd
  · have t1 : valueE d ⟨d.name, 2, 0, wd⟩ = 130 := by unfold valueE; rw [if_pos (by rw [hkd]; simp)]
    have t2 : valueE d ⟨d.name, 1, n, ByteArray.empty⟩ = if n < d.lo ∨ d.hi < n then 131 else 0 := by
      unfold valueE
      rw [if_neg (by rw [hkd]; simp), if_pos rfl, if_neg (by rw [eqB_self]; simp)]
    simp only [t1, t2]
    by_cases g1 : d.lo ≤ n
    · by_cases g2 : n ≤ d.hi
      · simp only [if_neg (show ¬ (n < d.lo ∨ d.hi < n) by omega)]
        (repeat (first | (with_reducible first | refine PW.seq ?_ | refine PW.block ?_ | refine PW.skip ?_ | refine PW.exit ?_ | refine PW.ret ?_ | refine thenP ?_ | refine thenP_exit ?_ | refine thenP_ret ?_ | refine blockP ?_ | refine blockP_exit ?_ | refine blockP_ret ?_ | refine loopP_exit ?_ | refine loopP_ret ?_) | ((with_reducible refine PWops.idd ?_) ; first | (first | refine PWops.stepA rfl ?_ | refine PWops.doneI rfl ?_ | refine PWops.boolK true rfl rfl rfl rfl (by (first | rfl | assumption | (simp only [decide_eq_true_eq, decide_eq_false_iff_not, bne_iff_ne, beq_iff_eq, beq_eq_false_iff_ne, bne_eq_false_iff_eq, ne_eq] ; omega))) rfl ?_ | refine PWops.boolK false rfl rfl rfl rfl (by (first | rfl | assumption | (simp only [decide_eq_true_eq, decide_eq_false_iff_not, bne_iff_ne, beq_iff_eq, beq_eq_false_iff_ne, bne_eq_false_iff_eq, ne_eq] ; omega))) rfl ?_ | refine PWops.fitsK rfl rfl rfl rfl (by omega) (by omega) rfl ?_ | refine PWops.remK rfl rfl rfl rfl (by omega) rfl ?_ | refine PWops.quoK rfl rfl rfl rfl (by omega) rfl ?_ | refine PWops.app rfl rfl rfl rfl rfl rfl rfl (by omega) (by omega) (by first | rfl | exact one_pint _ | exact one_pstr _ | exact one_pbyte _ | exact one_pattrs _) ?_ | refine PWops.app0 rfl rfl rfl rfl rfl rfl rfl (by omega) (by omega) (by first | rfl | exact one_pint _ | exact one_pstr _ | exact one_pbyte _ | exact one_pattrs _) ?_ | refine PWops.idx1 rfl rfl rfl rfl rfl rfl rfl rfl (by omega) ?_ | refine PWops.idx rfl rfl rfl rfl rfl rfl rfl rfl (by omega) ?_ | refine PWops.ld rfl rfl rfl rfl rfl rfl rfl (by assumption) rfl ?_ | refine PWops.ldA rfl rfl rfl rfl rfl rfl (by omega) (by assumption) ?_ | refine PWops.str rfl rfl rfl rfl rfl rfl rfl rfl rfl rfl rfl ?_) | (first | (refine PWops.call rfl rfl rfl (by assumption) ?_) | refine PWops.idxZ1 rfl rfl rfl rfl rfl rfl rfl rfl (by omega) ?_ | refine PWops.idxZ rfl rfl rfl rfl rfl rfl rfl rfl (by omega) ?_ | refine PWops.ld rfl rfl rfl rfl rfl rfl rfl rfl rfl ?_ | refine PWops.slcL rfl rfl rfl rfl rfl rfl rfl rfl (by omega) ?_ | refine PWops.slcH rfl rfl rfl rfl rfl rfl rfl rfl (by omega) ?_ | refine PWops.slcRL rfl rfl rfl rfl rfl rfl rfl rfl (by intro; rfl) (by omega) ?_ | refine PWops.slcRH rfl rfl rfl rfl rfl rfl rfl rfl (by intro; rfl) (by omega) ?_ | refine PWops.slcM rfl rfl rfl rfl rfl rfl rfl rfl rfl (by omega) ?_ | refine PWops.ldM rfl rfl rfl rfl rfl rfl rfl (by omega) rfl ?_ | refine PWops.ldR rfl rfl rfl rfl rfl rfl rfl (by intro; rfl) (by omega) rfl rfl ?_ | refine PWops.ldRA rfl rfl rfl rfl rfl rfl (by intro; rfl) (by omega) rfl ?_)) | (first | ((with_reducible refine PW.idd ?_) ; (first | refine PW.region typeTab_ok (by kernel_rfl) ?_ | refine PW.draw typeTab_ok (by kernel_rfl) (by kernel_rfl) (by kernel_rfl) ?_ | refine PW.condT rfl ?_ | refine PW.condF rfl ?_ | refine blockP_other (by decide) ?_)) | with_reducible refine blockP_other (by decide) ?_)))
        exact retP rfl (by (first | exact low_mapI | exact low_mapS | exact low_mapB | simp [low_val, low_nilsl, low_sl, low_ep, low_agg, low_tup, low_fn, low_pint, low_pstr, low_pbool, low_pints, low_pstrs, low_pbyte, low_pbytes, low_pattrs, low_pdefs, low_pschema, low_pentry])) rfl
      · simp only [if_pos (show (n < d.lo ∨ d.hi < n) by omega)]
        (repeat (first | (with_reducible first | refine PW.seq ?_ | refine PW.block ?_ | refine PW.skip ?_ | refine PW.exit ?_ | refine PW.ret ?_ | refine thenP ?_ | refine thenP_exit ?_ | refine thenP_ret ?_ | refine blockP ?_ | refine blockP_exit ?_ | refine blockP_ret ?_ | refine loopP_exit ?_ | refine loopP_ret ?_) | ((with_reducible refine PWops.idd ?_) ; first | (first | refine PWops.stepA rfl ?_ | refine PWops.doneI rfl ?_ | refine PWops.boolK true rfl rfl rfl rfl (by (first | rfl | assumption | (simp only [decide_eq_true_eq, decide_eq_false_iff_not, bne_iff_ne, beq_iff_eq, beq_eq_false_iff_ne, bne_eq_false_iff_eq, ne_eq] ; omega))) rfl ?_ | refine PWops.boolK false rfl rfl rfl rfl (by (first | rfl | assumption | (simp only [decide_eq_true_eq, decide_eq_false_iff_not, bne_iff_ne, beq_iff_eq, beq_eq_false_iff_ne, bne_eq_false_iff_eq, ne_eq] ; omega))) rfl ?_ | refine PWops.fitsK rfl rfl rfl rfl (by omega) (by omega) rfl ?_ | refine PWops.remK rfl rfl rfl rfl (by omega) rfl ?_ | refine PWops.quoK rfl rfl rfl rfl (by omega) rfl ?_ | refine PWops.app rfl rfl rfl rfl rfl rfl rfl (by omega) (by omega) (by first | rfl | exact one_pint _ | exact one_pstr _ | exact one_pbyte _ | exact one_pattrs _) ?_ | refine PWops.app0 rfl rfl rfl rfl rfl rfl rfl (by omega) (by omega) (by first | rfl | exact one_pint _ | exact one_pstr _ | exact one_pbyte _ | exact one_pattrs _) ?_ | refine PWops.idx1 rfl rfl rfl rfl rfl rfl rfl rfl (by omega) ?_ | refine PWops.idx rfl rfl rfl rfl rfl rfl rfl rfl (by omega) ?_ | refine PWops.ld rfl rfl rfl rfl rfl rfl rfl (by assumption) rfl ?_ | refine PWops.ldA rfl rfl rfl rfl rfl rfl (by omega) (by assumption) ?_ | refine PWops.str rfl rfl rfl rfl rfl rfl rfl rfl rfl rfl rfl ?_) | (first | (refine PWops.call rfl rfl rfl (by assumption) ?_) | refine PWops.idxZ1 rfl rfl rfl rfl rfl rfl rfl rfl (by omega) ?_ | refine PWops.idxZ rfl rfl rfl rfl rfl rfl rfl rfl (by omega) ?_ | refine PWops.ld rfl rfl rfl rfl rfl rfl rfl rfl rfl ?_ | refine PWops.slcL rfl rfl rfl rfl rfl rfl rfl rfl (by omega) ?_ | refine PWops.slcH rfl rfl rfl rfl rfl rfl rfl rfl (by omega) ?_ | refine PWops.slcRL rfl rfl rfl rfl rfl rfl rfl rfl (by intro; rfl) (by omega) ?_ | refine PWops.slcRH rfl rfl rfl rfl rfl rfl rfl rfl (by intro; rfl) (by omega) ?_ | refine PWops.slcM rfl rfl rfl rfl rfl rfl rfl rfl rfl (by omega) ?_ | refine PWops.ldM rfl rfl rfl rfl rfl rfl rfl (by omega) rfl ?_ | refine PWops.ldR rfl rfl rfl rfl rfl rfl rfl (by intro; rfl) (by omega) rfl rfl ?_ | refine PWops.ldRA rfl rfl rfl rfl rfl rfl (by intro; rfl) (by omega) rfl ?_)) | (first | ((with_reducible refine PW.idd ?_) ; (first | refine PW.region typeTab_ok (by kernel_rfl) ?_ | refine PW.draw typeTab_ok (by kernel_rfl) (by kernel_rfl) (by kernel_rfl) ?_ | refine PW.condT rfl ?_ | refine PW.condF rfl ?_ | refine blockP_other (by decide) ?_)) | with_reducible refine blockP_other (by decide) ?_)))
        exact retP rfl (by (first | exact low_mapI | exact low_mapS | exact low_mapB | simp [low_val, low_nilsl, low_sl, low_ep, low_agg, low_tup, low_fn, low_pint, low_pstr, low_pbool, low_pints, low_pstrs, low_pbyte, low_pbytes, low_pattrs, low_pdefs, low_pschema, low_pentry])) rfl
    · simp only [if_pos (show (n < d.lo ∨ d.hi < n) by omega)]
      (repeat (first | (with_reducible first | refine PW.seq ?_ | refine PW.block ?_ | refine PW.skip ?_ | refine PW.exit ?_ | refine PW.ret ?_ | refine thenP ?_ | refine thenP_exit ?_ | refine thenP_ret ?_ | refine blockP ?_ | refine blockP_exit ?_ | refine blockP_ret ?_ | refine loopP_exit ?_ | refine loopP_ret ?_) | ((with_reducible refine PWops.idd ?_) ; first | (first | refine PWops.stepA rfl ?_ | refine PWops.doneI rfl ?_ | refine PWops.boolK true rfl rfl rfl rfl (by (first | rfl | assumption | (simp only [decide_eq_true_eq, decide_eq_false_iff_not, bne_iff_ne, beq_iff_eq, beq_eq_false_iff_ne, bne_eq_false_iff_eq, ne_eq] ; omega))) rfl ?_ | refine PWops.boolK false rfl rfl rfl rfl (by (first | rfl | assumption | (simp only [decide_eq_true_eq, decide_eq_false_iff_not, bne_iff_ne, beq_iff_eq, beq_eq_false_iff_ne, bne_eq_false_iff_eq, ne_eq] ; omega))) rfl ?_ | refine PWops.fitsK rfl rfl rfl rfl (by omega) (by omega) rfl ?_ | refine PWops.remK rfl rfl rfl rfl (by omega) rfl ?_ | refine PWops.quoK rfl rfl rfl rfl (by omega) rfl ?_ | refine PWops.app rfl rfl rfl rfl rfl rfl rfl (by omega) (by omega) (by first | rfl | exact one_pint _ | exact one_pstr _ | exact one_pbyte _ | exact one_pattrs _) ?_ | refine PWops.app0 rfl rfl rfl rfl rfl rfl rfl (by omega) (by omega) (by first | rfl | exact one_pint _ | exact one_pstr _ | exact one_pbyte _ | exact one_pattrs _) ?_ | refine PWops.idx1 rfl rfl rfl rfl rfl rfl rfl rfl (by omega) ?_ | refine PWops.idx rfl rfl rfl rfl rfl rfl rfl rfl (by omega) ?_ | refine PWops.ld rfl rfl rfl rfl rfl rfl rfl (by assumption) rfl ?_ | refine PWops.ldA rfl rfl rfl rfl rfl rfl (by omega) (by assumption) ?_ | refine PWops.str rfl rfl rfl rfl rfl rfl rfl rfl rfl rfl rfl ?_) | (first | (refine PWops.call rfl rfl rfl (by assumption) ?_) | refine PWops.idxZ1 rfl rfl rfl rfl rfl rfl rfl rfl (by omega) ?_ | refine PWops.idxZ rfl rfl rfl rfl rfl rfl rfl rfl (by omega) ?_ | refine PWops.ld rfl rfl rfl rfl rfl rfl rfl rfl rfl ?_ | refine PWops.slcL rfl rfl rfl rfl rfl rfl rfl rfl (by omega) ?_ | refine PWops.slcH rfl rfl rfl rfl rfl rfl rfl rfl (by omega) ?_ | refine PWops.slcRL rfl rfl rfl rfl rfl rfl rfl rfl (by intro; rfl) (by omega) ?_ | refine PWops.slcRH rfl rfl rfl rfl rfl rfl rfl rfl (by intro; rfl) (by omega) ?_ | refine PWops.slcM rfl rfl rfl rfl rfl rfl rfl rfl rfl (by omega) ?_ | refine PWops.ldM rfl rfl rfl rfl rfl rfl rfl (by omega) rfl ?_ | refine PWops.ldR rfl rfl rfl rfl rfl rfl rfl (by intro; rfl) (by omega) rfl rfl ?_ | refine PWops.ldRA rfl rfl rfl rfl rfl rfl (by intro; rfl) (by omega) rfl ?_)) | (first | ((with_reducible refine PW.idd ?_) ; (first | refine PW.region typeTab_ok (by kernel_rfl) ?_ | refine PW.draw typeTab_ok (by kernel_rfl) (by kernel_rfl) (by kernel_rfl) ?_ | refine PW.condT rfl ?_ | refine PW.condF rfl ?_ | refine blockP_other (by decide) ?_)) | with_reducible refine blockP_other (by decide) ?_)))
      exact retP rfl (by (first | exact low_mapI | exact low_mapS | exact low_mapB | simp [low_val, low_nilsl, low_sl, low_ep, low_agg, low_tup, low_fn, low_pint, low_pstr, low_pbool, low_pints, low_pstrs, low_pbyte, low_pbytes, low_pattrs, low_pdefs, low_pschema, low_pentry])) rfl
  · have t1 : valueE d ⟨d.name, 1, n, ByteArray.empty⟩ = 130 := by unfold valueE; rw [if_pos (by rw [hkd]; simp)]
    have t2 : valueE d ⟨d.name, 2, 0, wd⟩ = if hasB d.words wd then 0 else 131 := by
      unfold valueE
      rw [if_neg (by rw [hkd]; simp), if_neg (by simp), if_neg (by simp)]
    simp only [t1, t2]
    cases hb : hasB d.words wd with
    | true =>
      rw [hb] at h1
      simp only [if_true]
      (repeat (first | (with_reducible first | refine PW.seq ?_ | refine PW.block ?_ | refine PW.skip ?_ | refine PW.exit ?_ | refine PW.ret ?_ | refine thenP ?_ | refine thenP_exit ?_ | refine thenP_ret ?_ | refine blockP ?_ | refine blockP_exit ?_ | refine blockP_ret ?_ | refine loopP_exit ?_ | refine loopP_ret ?_) | ((with_reducible refine PWops.idd ?_) ; first | (first | refine PWops.stepA rfl ?_ | refine PWops.doneI rfl ?_ | refine PWops.boolK true rfl rfl rfl rfl (by (first | rfl | assumption | (simp only [decide_eq_true_eq, decide_eq_false_iff_not, bne_iff_ne, beq_iff_eq, beq_eq_false_iff_ne, bne_eq_false_iff_eq, ne_eq] ; omega))) rfl ?_ | refine PWops.boolK false rfl rfl rfl rfl (by (first | rfl | assumption | (simp only [decide_eq_true_eq, decide_eq_false_iff_not, bne_iff_ne, beq_iff_eq, beq_eq_false_iff_ne, bne_eq_false_iff_eq, ne_eq] ; omega))) rfl ?_ | refine PWops.fitsK rfl rfl rfl rfl (by omega) (by omega) rfl ?_ | refine PWops.remK rfl rfl rfl rfl (by omega) rfl ?_ | refine PWops.quoK rfl rfl rfl rfl (by omega) rfl ?_ | refine PWops.app rfl rfl rfl rfl rfl rfl rfl (by omega) (by omega) (by first | rfl | exact one_pint _ | exact one_pstr _ | exact one_pbyte _ | exact one_pattrs _) ?_ | refine PWops.app0 rfl rfl rfl rfl rfl rfl rfl (by omega) (by omega) (by first | rfl | exact one_pint _ | exact one_pstr _ | exact one_pbyte _ | exact one_pattrs _) ?_ | refine PWops.idx1 rfl rfl rfl rfl rfl rfl rfl rfl (by omega) ?_ | refine PWops.idx rfl rfl rfl rfl rfl rfl rfl rfl (by omega) ?_ | refine PWops.ld rfl rfl rfl rfl rfl rfl rfl (by assumption) rfl ?_ | refine PWops.ldA rfl rfl rfl rfl rfl rfl (by omega) (by assumption) ?_ | refine PWops.str rfl rfl rfl rfl rfl rfl rfl rfl rfl rfl rfl ?_) | (first | (refine PWops.call rfl rfl rfl (by assumption) ?_) | refine PWops.idxZ1 rfl rfl rfl rfl rfl rfl rfl rfl (by omega) ?_ | refine PWops.idxZ rfl rfl rfl rfl rfl rfl rfl rfl (by omega) ?_ | refine PWops.ld rfl rfl rfl rfl rfl rfl rfl rfl rfl ?_ | refine PWops.slcL rfl rfl rfl rfl rfl rfl rfl rfl (by omega) ?_ | refine PWops.slcH rfl rfl rfl rfl rfl rfl rfl rfl (by omega) ?_ | refine PWops.slcRL rfl rfl rfl rfl rfl rfl rfl rfl (by intro; rfl) (by omega) ?_ | refine PWops.slcRH rfl rfl rfl rfl rfl rfl rfl rfl (by intro; rfl) (by omega) ?_ | refine PWops.slcM rfl rfl rfl rfl rfl rfl rfl rfl rfl (by omega) ?_ | refine PWops.ldM rfl rfl rfl rfl rfl rfl rfl (by omega) rfl ?_ | refine PWops.ldR rfl rfl rfl rfl rfl rfl rfl (by intro; rfl) (by omega) rfl rfl ?_ | refine PWops.ldRA rfl rfl rfl rfl rfl rfl (by intro; rfl) (by omega) rfl ?_)) | (first | ((with_reducible refine PW.idd ?_) ; (first | refine PW.region typeTab_ok (by kernel_rfl) ?_ | refine PW.draw typeTab_ok (by kernel_rfl) (by kernel_rfl) (by kernel_rfl) ?_ | refine PW.condT rfl ?_ | refine PW.condF rfl ?_ | refine blockP_other (by decide) ?_)) | with_reducible refine blockP_other (by decide) ?_)))
      exact retP rfl (by (first | exact low_mapI | exact low_mapS | exact low_mapB | simp [low_val, low_nilsl, low_sl, low_ep, low_agg, low_tup, low_fn, low_pint, low_pstr, low_pbool, low_pints, low_pstrs, low_pbyte, low_pbytes, low_pattrs, low_pdefs, low_pschema, low_pentry])) rfl
    | false =>
      rw [hb] at h1
      simp only [Bool.false_eq_true, if_false]
      (repeat (first | (with_reducible first | refine PW.seq ?_ | refine PW.block ?_ | refine PW.skip ?_ | refine PW.exit ?_ | refine PW.ret ?_ | refine thenP ?_ | refine thenP_exit ?_ | refine thenP_ret ?_ | refine blockP ?_ | refine blockP_exit ?_ | refine blockP_ret ?_ | refine loopP_exit ?_ | refine loopP_ret ?_) | ((with_reducible refine PWops.idd ?_) ; first | (first | refine PWops.stepA rfl ?_ | refine PWops.doneI rfl ?_ | refine PWops.boolK true rfl rfl rfl rfl (by (first | rfl | assumption | (simp only [decide_eq_true_eq, decide_eq_false_iff_not, bne_iff_ne, beq_iff_eq, beq_eq_false_iff_ne, bne_eq_false_iff_eq, ne_eq] ; omega))) rfl ?_ | refine PWops.boolK false rfl rfl rfl rfl (by (first | rfl | assumption | (simp only [decide_eq_true_eq, decide_eq_false_iff_not, bne_iff_ne, beq_iff_eq, beq_eq_false_iff_ne, bne_eq_false_iff_eq, ne_eq] ; omega))) rfl ?_ | refine PWops.fitsK rfl rfl rfl rfl (by omega) (by omega) rfl ?_ | refine PWops.remK rfl rfl rfl rfl (by omega) rfl ?_ | refine PWops.quoK rfl rfl rfl rfl (by omega) rfl ?_ | refine PWops.app rfl rfl rfl rfl rfl rfl rfl (by omega) (by omega) (by first | rfl | exact one_pint _ | exact one_pstr _ | exact one_pbyte _ | exact one_pattrs _) ?_ | refine PWops.app0 rfl rfl rfl rfl rfl rfl rfl (by omega) (by omega) (by first | rfl | exact one_pint _ | exact one_pstr _ | exact one_pbyte _ | exact one_pattrs _) ?_ | refine PWops.idx1 rfl rfl rfl rfl rfl rfl rfl rfl (by omega) ?_ | refine PWops.idx rfl rfl rfl rfl rfl rfl rfl rfl (by omega) ?_ | refine PWops.ld rfl rfl rfl rfl rfl rfl rfl (by assumption) rfl ?_ | refine PWops.ldA rfl rfl rfl rfl rfl rfl (by omega) (by assumption) ?_ | refine PWops.str rfl rfl rfl rfl rfl rfl rfl rfl rfl rfl rfl ?_) | (first | (refine PWops.call rfl rfl rfl (by assumption) ?_) | refine PWops.idxZ1 rfl rfl rfl rfl rfl rfl rfl rfl (by omega) ?_ | refine PWops.idxZ rfl rfl rfl rfl rfl rfl rfl rfl (by omega) ?_ | refine PWops.ld rfl rfl rfl rfl rfl rfl rfl rfl rfl ?_ | refine PWops.slcL rfl rfl rfl rfl rfl rfl rfl rfl (by omega) ?_ | refine PWops.slcH rfl rfl rfl rfl rfl rfl rfl rfl (by omega) ?_ | refine PWops.slcRL rfl rfl rfl rfl rfl rfl rfl rfl (by intro; rfl) (by omega) ?_ | refine PWops.slcRH rfl rfl rfl rfl rfl rfl rfl rfl (by intro; rfl) (by omega) ?_ | refine PWops.slcM rfl rfl rfl rfl rfl rfl rfl rfl rfl (by omega) ?_ | refine PWops.ldM rfl rfl rfl rfl rfl rfl rfl (by omega) rfl ?_ | refine PWops.ldR rfl rfl rfl rfl rfl rfl rfl (by intro; rfl) (by omega) rfl rfl ?_ | refine PWops.ldRA rfl rfl rfl rfl rfl rfl (by intro; rfl) (by omega) rfl ?_)) | (first | ((with_reducible refine PW.idd ?_) ; (first | refine PW.region typeTab_ok (by kernel_rfl) ?_ | refine PW.draw typeTab_ok (by kernel_rfl) (by kernel_rfl) (by kernel_rfl) ?_ | refine PW.condT rfl ?_ | refine PW.condF rfl ?_ | refine blockP_other (by decide) ?_)) | with_reducible refine blockP_other (by decide) ?_)))
      exact retP rfl (by (first | exact low_mapI | exact low_mapS | exact low_mapB | simp [low_val, low_nilsl, low_sl, low_ep, low_agg, low_tup, low_fn, low_pint, low_pstr, low_pbool, low_pints, low_pstrs, low_pbyte, low_pbytes, low_pattrs, low_pdefs, low_pschema, low_pentry])) rfl
end Go.Proofs.Ytnjopfjmepbpoaa

/- Pure states: a region that draws its order, in which different variables are told apart by what the slots point to when it begins. -/
namespace Go.Proofs.Ytnjopfjmepbpoaa
set_option linter.unusedSimpArgs false
set_option linter.unusedVariables false
set_option linter.unnecessarySimpa false
open Go.RowKit

/-- The operation that writes a slot. -/
def defOf (a : Nat) : List Oper → Nat → Option (Nat × Op)
  | [], _ => none
  | o :: r, k => match o.dst with
    | some d => if Nat.beq d a then some (k, o.op) else defOf a r (k + 1)
    | none => defOf a r (k + 1)
/-- The variable to which a slot points. -/
def tgtGo (env : Nat → Option Nat) (base : Nat) (ops : List Oper) : Nat → Nat → Option Nat
  | 0, _ => none
  | n + 1, a => match defOf a ops 0 with
    | some (k, .alloc _) => some (base + k)
    | some (k, .box _ _) => some (base + k)
    | some (_, .fieldAddr _ (.tmp b) _) => tgtGo env base ops n b
    | some (_, .move (.tmp b)) => tgtGo env base ops n b
    | some _ => none
    | none => env a
def tgtOf (env : Nat → Option Nat) (base : Nat) (ops : List Oper) (o : Oper) : Option Nat := match o.op with
  | .store _ (.tmp a) _ => tgtGo env base ops 6 a
  | .load _ (.tmp a) => tgtGo env base ops 6 a
  | _ => none
/-- What the slots point to. -/
def envOf (σ : PS) (a : Nat) : Option Nat := match σ.t a with
  | .ptr id _ => some id
  | _ => none
def okE (env : Nat → Option Nat) (ops : List Oper) (base i id : Nat) : Bool := okD (clos ops) base ops.length i id && (match (ops[i]?).bind (tgtOf env base ops) with | some k => Nat.beq id k | none => true)
def sepE (env : Nat → Option Nat) (base : Nat) (ops : List Oper) (iy ix : Nat) (y x : Oper) : Bool :=
  (match tgtOf env base ops y with | some k => !okE env ops base ix k | none => false) || (match tgtOf env base ops x with | some k => !okE env ops base iy k | none => false)
theorem sepE_ok {env : Nat → Option Nat} {ops : List Oper} {base iy ix : Nat} {y x : Oper} (hy : ops[iy]? = some y) (hx : ops[ix]? = some x) (hs : sepE env base ops iy ix y x = true) (j : Nat) (h1 : okE env ops base iy j = true) (h2 : okE env ops base ix j = true) : False := by
  have res : ∀ (i : Nat) o k, ops[i]? = some o → okE env ops base i j = true → tgtOf env base ops o = some k → j = k := by
    intro i o k ho h hr
    simp only [okE, ho, Option.bind_some, hr, Bool.and_eq_true] at h
    exact Nat.eq_of_beq_eq_true h.2
  simp only [sepE, Bool.or_eq_true] at hs
  rcases hs with hs | hs
  · cases hr : tgtOf env base ops y with
    | none => rw [hr] at hs; cases hs
    | some k =>
      rw [hr] at hs
      have e := res iy y k hy h1 hr
      subst e
      simp [h2] at hs
  · cases hr : tgtOf env base ops x with
    | none => rw [hr] at hs; cases hs
    | some k =>
      rw [hr] at hs
      have e := res ix x k hx h2 hr
      subst e
      simp [h1] at hs

def indE (env : Nat → Option Nat) (base : Nat) (ops : Array Oper) (iy ix : Nat) (y x : Oper) : Bool :=
  (match y.dst, x.dst with | some a, some b => a != b | _, _ => true) &&
  (match y.dst with | some a => !(tmpsOf x.op.operands.toList).contains a && !(guardT ops x).contains a | none => true) &&
  (match x.dst with | some b => !(tmpsOf y.op.operands.toList).contains b && !(guardT ops y).contains b | none => true) &&
  (takesB (headB ops y.dst) y).all (fun s => !(takesB (headB ops x.dst) x).contains s) &&
  ((!(storeB y && usesBox x) && !(storeB x && usesBox y) && !(isStore (headB ops y.dst) y && isStore (headB ops x.dst) x)) || sepE env base ops.toList iy ix y x)

def drawE (env : Nat → Option Nat) (base : Nat) (ops : List Oper) : Bool :=
  let cl := clos ops
  (indexed 0 ops).all fun x => x.2.after.toList.all (fun e => !Region.binds .any e || decide (e.on < x.1)) &&
    (indexed 0 ops).all fun y => !decide (y.1 < x.1) || (cl.getD x.1 []).contains y.1 || indE env base ops.toArray y.1 x.1 y.2 x.2

section
variable {P : Program} {T : Tab} {σ : PS} {ops : Array Oper} {base : Nat} {ok : Nat → Nat → Bool}
theorem ind_partsE {env : Nat → Option Nat} {eb : Nat} {iy ix : Nat} {y x : Oper} (h : indE env eb ops iy ix y x = true) : (∀ a b, y.dst = some a → x.dst = some b → a ≠ b) ∧ (∀ a, y.dst = some a → a ∉ tmpsOf x.op.operands.toList ∧ a ∉ guardT ops x) ∧ (∀ b, x.dst = some b → b ∉ tmpsOf y.op.operands.toList ∧ b ∉ guardT ops y) ∧
    (∀ s ∈ takesB (headB ops y.dst) y, s ∉ takesB (headB ops x.dst) x) ∧ (storeB y = true → usesBox x = true → sepE env eb ops.toList iy ix y x = true) ∧ (storeB x = true → usesBox y = true → sepE env eb ops.toList iy ix y x = true) ∧ (isStore (headB ops y.dst) y = true → isStore (headB ops x.dst) x = true → sepE env eb ops.toList iy ix y x = true) := by
  simp only [indE, Bool.and_eq_true, Bool.not_eq_true', Bool.or_eq_true (_ && _) (sepE _ _ _ _ _ _ _)] at h
  obtain ⟨⟨⟨⟨h1, h2⟩, h3⟩, h4⟩, h5⟩ := h
  refine ⟨?_, ?_, ?_, ?_, ?_, ?_, ?_⟩
  · intro a b ea eb
    rw [ea, eb] at h1
    simpa using h1
  · intro a ea
    rw [ea] at h2
    simpa using h2
  · intro a ea
    rw [ea] at h3
    simpa using h3
  · intro s hs
    have := List.all_eq_true.1 h4 s hs
    simpa using this
  · intro e1 e2
    rcases h5 with h5 | h5
    · simp only [e1, e2, Bool.and_eq_true, Bool.not_eq_true', Bool.and_true, Bool.true_and] at h5
      simp at h5
    · exact h5
  · intro e1 e2
    rcases h5 with h5 | h5
    · simp only [e1, e2, Bool.and_eq_true, Bool.not_eq_true', Bool.and_true, Bool.true_and] at h5
      simp at h5
    · exact h5
  · intro e1 e2
    rcases h5 with h5 | h5
    · simp only [e1, e2, Bool.and_eq_true, Bool.not_eq_true', Bool.and_true, Bool.true_and] at h5
      simp at h5
    · exact h5

/-- Two operations in the other order. -/
theorem PWop.swapE {env : Nat → Option Nat} {eb : Nat} {iy ix : Nat} {y x : Oper} (hi : indE env eb ops iy ix y x = true) (hsep : sepE env eb ops.toList iy ix y x = true → ∀ j, ok iy j = true → ok ix j = true → False) (hne : iy ≠ ix) (hox : ok ix (base + iy) = false) (hoy : ok iy (base + ix) = false) {K : PS → Prop} (h : PWop P T ops base ok iy y (PWop P T ops base ok ix x K) σ) : PWop P T ops base ok ix x (PWop P T ops base ok iy y K) σ := by
  obtain ⟨Ey, hy, Ex, hx, hk⟩ := h
  obtain ⟨i1, i2, i3, i4, i5, i6, i7⟩ := ind_partsE hi
  obtain ⟨fy1, fy2⟩ := may_foot hy
  obtain ⟨fx1, fx2⟩ := may_foot hx
  have hx' : May P T ops base ok ix x σ Ex := by
    refine may_congr hx (fun t ht => ?_) (fun t ht => ?_) (fun s hs => ?_) (fun hu j bs hj => ?_) (fun hu j bs hj => ?_) (fun h0 => ?_)
    · exact ((app_t (σ := σ) (E := Ey) (fun a ea e => (i2 a ea).1 (e ▸ ht))).1).symm
    · exact ((app_t (σ := σ) (E := Ey) (fun a ea e => (i2 a ea).2 (e ▸ ht))).1).symm
    · exact ((app_t (σ := σ) (E := Ey) (fun a ea e => (i2 a ea).1 (e ▸ takes_sub hs))).2 (fun e => i4 s (fy1 s e) hs)).symm
    · simp only [PS.only] at hj ⊢
      split at hj
      · rename_i hokj
        rw [if_pos hokj, ← app_b (σ := σ) (d := y.dst) (E := Ey) j ?_]
        · exact hj
        · rintro i cs e rfl
          rcases fy2 i cs e with ⟨rfl, -⟩ | ⟨h1, h9⟩
          · rw [hox] at hokj; cases hokj
          · exact hsep (i7 h1 hu) _ h9 hokj
      · cases hj
    · simp only [PS.only] at hj ⊢
      split at hj
      · rename_i hokj
        rw [if_pos hokj]
        by_cases hbx : ∃ cs, Ey.bx = some (j, cs)
        · obtain ⟨cs, e⟩ := hbx
          rcases fy2 j cs e with ⟨rfl, -⟩ | ⟨h1, h9⟩
          · rw [hox] at hokj; cases hokj
          · have hns : storeB y = false := by
              cases hsb : storeB y with
              | false => rfl
              | true => exact (hsep (i5 hsb hu) _ h9 hokj).elim
            obtain ⟨bs0, k1, k2⟩ := may_marks hy h1 hns j cs e
            refine ⟨bs0, k1, ?_⟩
            obtain ⟨v, b, s⟩ := Ey
            simp only at e
            subst e
            simp only [PS.app, upd_same, Option.some.injEq] at hj
            rw [← hj]; exact k2.symm
        · refine ⟨bs, ?_, rfl⟩
          rw [← app_b (σ := σ) (d := y.dst) (E := Ey) j (fun i cs e hh => hbx ⟨cs, hh ▸ e⟩)]
          exact hj
      · cases hj
    · by_cases hb : ∃ cs, Ey.bx = some (base + ix, cs)
      · obtain ⟨cs, e⟩ := hb
        obtain ⟨v, b, s⟩ := Ey
        simp only at e
        subst e
        simp [PS.app, upd_if] at h0
      · rw [← app_b (σ := σ) (d := y.dst) (E := Ey) (base + ix) (fun i cs e hh => hb ⟨cs, hh ▸ e⟩)]
        exact h0
  obtain ⟨-, fx3⟩ := may_foot hx'
  have hy' : May P T ops base ok iy y (σ.app x.dst Ex) Ey := by
    refine may_congr hy (fun t ht => ?_) (fun t ht => ?_) (fun s hs => ?_) (fun hu j bs hj => ?_) (fun hu j bs hj => ?_) (fun h0 => ?_)
    · exact (app_t (σ := σ) (E := Ex) (fun a ea e => (i3 a ea).1 (e ▸ ht))).1
    · exact (app_t (σ := σ) (E := Ex) (fun a ea e => (i3 a ea).2 (e ▸ ht))).1
    · exact (app_t (σ := σ) (E := Ex) (fun a ea e => (i3 a ea).1 (e ▸ takes_sub hs))).2 (fun e => i4 s hs (fx1 s e))
    · simp only [PS.only] at hj ⊢
      split at hj
      · rename_i hokj
        rw [if_pos hokj, app_b (σ := σ) (d := x.dst) (E := Ex) j ?_]
        · exact hj
        · rintro i cs e rfl
          rcases fx3 i cs e with ⟨rfl, -⟩ | ⟨h1, h9⟩
          · rw [hoy] at hokj; cases hokj
          · exact hsep (i7 hu h1) _ hokj h9
      · cases hj
    · simp only [PS.only] at hj ⊢
      split at hj
      · rename_i hokj
        rw [if_pos hokj]
        by_cases hbx : ∃ cs, Ex.bx = some (j, cs)
        · obtain ⟨cs, e⟩ := hbx
          rcases fx3 j cs e with ⟨rfl, -⟩ | ⟨h1, h9⟩
          · rw [hoy] at hokj; cases hokj
          · have hns : storeB x = false := by
              cases hsb : storeB x with
              | false => rfl
              | true => exact (hsep (i6 hsb hu) _ hokj h9).elim
            obtain ⟨bs0, k1, k2⟩ := may_marks hx' h1 hns j cs e
            rw [k1] at hj
            simp only [Option.some.injEq] at hj
            subst hj
            refine ⟨cs, ?_, k2⟩
            obtain ⟨v, b, s⟩ := Ex
            simp only at e
            subst e
            simp only [PS.app, upd_same]
        · refine ⟨bs, ?_, rfl⟩
          rw [app_b (σ := σ) (d := x.dst) (E := Ex) j (fun i cs e hh => hbx ⟨cs, hh ▸ e⟩)]
          exact hj
      · cases hj
    · rw [app_b (σ := σ) (d := x.dst) (E := Ex) (base + iy) ?_]
      · exact h0
      · rintro i cs e rfl
        rcases fx3 _ cs e with ⟨h1, -⟩ | ⟨-, h2⟩
        · omega
        · rw [hox] at h2; cases h2
  refine ⟨Ex, hx', Ey, hy', ?_⟩
  rw [← app_comm σ y.dst x.dst Ey Ex i1 (fun a s ea es e => (i2 a ea).1 (takes_sub (e ▸ fx1 s es))) (fun a s ea es e => (i3 a ea).1 (takes_sub (e ▸ fy1 s es))) (fun s t es et e => i4 s (fy1 s es) (e ▸ fx1 t et)) ?_]
  · exact hk
  · rintro i c j e hi' hj' rfl
    rcases fy2 i c hi' with ⟨e1, -⟩ | ⟨e1, e2⟩
    · rcases fx3 i e hj' with ⟨e3, -⟩ | ⟨-, e4⟩
      · omega
      · rw [e1, hox] at e4; cases e4
    · rcases fx3 i e hj' with ⟨e3, -⟩ | ⟨e3, e4⟩
      · rw [e3, hoy] at e2; cases e2
      · exact hsep (i7 e1 e3) _ e2 e4
end
theorem PWops.bubbleE {P : Program} {T : Tab} {ops : Array Oper} {base : Nat} {ok : Nat → Nat → Bool} {env : Nat → Option Nat} {eb : Nat} {ix : Nat} {x : Oper} {post : List (Nat × Oper)} {Q : PS → Prop} : ∀ (pre : List (Nat × Oper)) (σ : PS), (∀ y ∈ pre, (indE env eb ops y.1 ix y.2 x = true ∧ (sepE env eb ops.toList y.1 ix y.2 x = true → ∀ j, ok y.1 j = true → ok ix j = true → False)) ∧ y.1 ≠ ix ∧ ok ix (base + y.1) = false ∧ ok y.1 (base + ix) = false) →
    PWops P T ops base ok (pre ++ (ix, x) :: post) Q σ → PWops P T ops base ok ((ix, x) :: (pre ++ post)) Q σ
  | [], σ, _, h => h
  | (iy, y) :: pre, σ, hall, h => by
    obtain ⟨h1, h2, h3, h4⟩ := hall (iy, y) (by simp)
    have ih := PWops.bubbleE (P := P) (T := T) (ops := ops) (base := base) (ok := ok) (env := env) (eb := eb) (ix := ix) (x := x) (post := post) (Q := Q) pre
    have : PWop P T ops base ok iy y (PWop P T ops base ok ix x (PWops P T ops base ok (pre ++ post) Q)) σ :=
      PWop.mono (fun σ' h' => ih σ' (fun z hz => hall z (by simp [hz])) h') h
    exact PWop.swapE h1.1 h1.2 h2 h3 h4 this

theorem draw_partsE {env : Nat → Option Nat} {eb : Nat} {ops : List Oper} (h : drawE env eb ops = true) : (∀ (i : Nat) o, ops[i]? = some o → ∀ e ∈ o.after.toList, Region.binds .any e = true → e.on < i) ∧
    (∀ (i j : Nat) x y, ops[i]? = some x → ops[j]? = some y → j < i → j ∈ (clos ops).getD i [] ∨ indE env eb ops.toArray j i y x = true) := by
  have hm : ∀ (i : Nat) o, ops[i]? = some o → (i, o) ∈ indexed 0 ops := by
    have : ∀ (l : List Oper) (k i : Nat) o, l[i]? = some o → (k + i, o) ∈ indexed k l := by
      intro l
      induction l with
      | nil => intro k i o h; simp at h
      | cons p l ih =>
        intro k i o h
        cases i with
        | zero => simp at h; subst h; simp [indexed]
        | succ i =>
          simp at h
          have := ih (k+1) i o h
          simp only [indexed, List.mem_cons]
          right
          rw [show k + (i + 1) = k + 1 + i by omega]; exact this
    intro i o h
    have := this ops 0 i o h
    rwa [Nat.zero_add] at this
  simp only [drawE] at h
  have h' := List.all_eq_true.1 h
  refine ⟨fun i o ho e he hb => ?_, fun i j x y hx hy hji => ?_⟩
  · have := h' _ (hm i o ho)
    simp only [Bool.and_eq_true] at this
    have := List.all_eq_true.1 this.1 e he
    simpa [hb] using this
  · have := h' _ (hm i x hx)
    simp only [Bool.and_eq_true] at this
    have := List.all_eq_true.1 this.2 _ (hm j y hy)
    simp only [hji, decide_true, Bool.not_true, Bool.false_or, Bool.or_eq_true, List.contains_iff_mem] at this
    exact this

section
variable {Φ0 : Imm} {W : World} {M : Nat} {P : Program} {T : Tab} {ops : List Oper} {base : Nat} {env : Nat → Option Nat}

theorem any_soundE (hT : T = tabOf P) (hall : ∀ (j : Nat) o, ops.toArray[j]? = some o → dstB M o = true) (hdraw : drawE env base ops = true) {Q : PS → Prop} {Q' : Exit → Act → World → Prop} (hQ : ∀ σ a w, Q σ → Rel Φ0 W M σ a w → Q' .normal a w) :
    ∀ (fuel : Nat) (listed : Array Bool) (σ : PS) (a : Act) (w : World), unlisted listed ≤ fuel → listed.size = ops.length → (∀ (i : Nat) o, ops[i]? = some o → listed.getD i false = true → ∀ j, depO o j = true → listed.getD j false = true) →
      PWops P T ops.toArray base (okE env ops base) ((indexed 0 ops).filter fun x => !listed.getD x.1 false) Q σ → Rel Φ0 W M σ a w → wpAny P .any ops.toArray Q' fuel listed a w := by
  obtain ⟨hE, hI⟩ := draw_partsE hdraw
  have hsz : ∀ listed : Array Bool, listed.size = ops.length → listed.size = ops.toArray.size := fun l h => by simpa using h
  have fin : ∀ (listed : Array Bool) (σ : PS) (a : Act) (w : World), listed.size = ops.length → (∀ i, i < ops.length → listed.getD i false = true) →
      PWops P T ops.toArray base (okE env ops base) ((indexed 0 ops).filter fun x => !listed.getD x.1 false) Q σ → Rel Φ0 W M σ a w → Q' .normal a w := by
    intro listed σ a w hs hl h hr
    have : ((indexed 0 ops).filter fun x => !listed.getD x.1 false) = [] := by
      rw [List.filter_eq_nil_iff]
      intro x hx
      obtain ⟨-, h2⟩ := indexed_mem 0 ops x hx
      have : x.1 < ops.length := by have := (List.getElem?_eq_some_iff.1 h2).1; omega
      simp [hl x.1 this]
    rw [this] at h
    exact hQ σ a w h hr
  have alls : ∀ listed : Array Bool, listed.size = ops.length → Region.ready .any ops.toArray listed = [] → ∀ i, i < ops.length → listed.getD i false = true := by
    intro listed hs hr i
    induction i using Nat.strongRecOn with
    | _ i ih =>
      intro hi
      have ho : ops.toArray[i]? = some ops[i] := by simp [hi]
      cases hl : listed.getD i false with
      | true => rfl
      | false =>
        have : i ∈ Region.ready .any ops.toArray listed := (mem_ready (hsz listed hs)).2 ⟨ops[i], ho, hl, fun j hj => by
          obtain ⟨e, he, hb, rfl⟩ := depO_iff.1 hj
          have := hE i ops[i] (by simp [hi]) e he hb
          exact ih e.on this (by omega)⟩
        rw [hr] at this; cases this
  intro fuel
  induction fuel with
  | zero =>
    intro listed σ a w hu hs hcl h hr
    have hl := unlisted_zero (Nat.le_zero.1 hu)
    rw [hs] at hl
    refine ⟨?_, fin listed σ a w hs hl h hr⟩
    apply List.eq_nil_iff_forall_not_mem.2
    intro i hi
    obtain ⟨o, ho, h1, _⟩ := (mem_ready (hsz listed hs)).1 hi
    rw [hl i (by have := (Array.getElem?_eq_some_iff.1 ho).1; simpa using this)] at h1
    cases h1
  | succ fuel ih =>
    intro listed σ a w hu hs hcl h hr
    refine ⟨fun hrd => fin listed σ a w hs (alls listed hs hrd) h hr, fun i hi => ?_⟩
    obtain ⟨o, ho, h1, h2⟩ := (mem_ready (hsz listed hs)).1 hi
    have ho' : ops[i]? = some o := by simpa using ho
    have hil : i < ops.length := (List.getElem?_eq_some_iff.1 ho').1
    have hmem : (i, o) ∈ (indexed 0 ops).filter fun x => !listed.getD x.1 false := by
      rw [List.mem_filter]
      refine ⟨?_, by simp [h1]⟩
      have : ∀ (l : List Oper) (k i : Nat) o, l[i]? = some o → (k + i, o) ∈ indexed k l := by
        intro l
        induction l with
        | nil => intro k i o h; simp at h
        | cons p l ih =>
          intro k i o h
          cases i with
          | zero => simp at h; subst h; simp [indexed]
          | succ i =>
            simp at h
            have := ih (k+1) i o h
            simp only [indexed, List.mem_cons]
            right
            rw [show k + (i + 1) = k + 1 + i by omega]; exact this
      have := this ops 0 i o ho'
      rwa [Nat.zero_add] at this
    obtain ⟨pre, post, hL⟩ := List.append_of_mem hmem
    have hsort : ((indexed 0 ops).filter fun x => !listed.getD x.1 false).Pairwise (fun a b => a.1 < b.1) := (indexed_sorted 0 ops).filter _
    rw [hL] at h hsort
    rw [List.pairwise_append] at hsort
    obtain ⟨-, hs2, hs3⟩ := hsort
    rw [List.pairwise_cons] at hs2
    have hpre : ∀ y ∈ pre, y.1 < i := fun y hy => hs3 y hy (i, o) (by simp)
    have hpost : ∀ y ∈ post, i < y.1 := fun y hy => hs2.1 y hy
    have hprem : ∀ y ∈ pre, ops[y.1]? = some y.2 ∧ listed.getD y.1 false = false := by
      intro y hy
      have : y ∈ (indexed 0 ops).filter fun x => !listed.getD x.1 false := by rw [hL]; simp [hy]
      rw [List.mem_filter] at this
      obtain ⟨-, q⟩ := indexed_mem 0 ops y this.1
      exact ⟨by simpa using q, by simpa using this.2⟩
    have hb := PWops.bubbleE (P := P) (T := T) (base := base) (ok := okE env ops base) (env := env) (eb := base) (ix := i) (x := o) (post := post) (Q := Q) pre σ (by
      intro y hy
      obtain ⟨q1, q2⟩ := hprem y hy
      have hlt := hpre y hy
      have hnc : y.1 ∉ (clos ops).getD i [] := fun hc => by
        rw [clos_listed hE hcl i o ho' h2 y.1 hc] at q2; cases q2
      have hyl : y.1 < ops.length := (List.getElem?_eq_some_iff.1 q1).1
      refine ⟨⟨by simpa using (hI i y.1 o y.2 ho' q1 hlt).resolve_left hnc, fun hs j hj1 hj2 => sepE_ok (ops := ops) q1 ho' (by simpa using hs) j hj1 hj2⟩, by omega, ?_, ?_⟩
      · rw [okE, Bool.and_eq_false_iff]; left
        simp only [okD, Bool.or_eq_false_iff, decide_eq_false_iff_not]
        refine ⟨⟨by omega, by omega⟩, ?_⟩
        rw [Nat.add_sub_cancel_left]
        simpa using hnc
      · rw [okE, Bool.and_eq_false_iff]; left
        simp only [okD, Bool.or_eq_false_iff, decide_eq_false_iff_not]
        refine ⟨⟨by omega, by omega⟩, ?_⟩
        rw [Nat.add_sub_cancel_left]
        have : i ∉ (clos ops).getD y.1 [] := fun hc => by have := clos_lt hE y.1 y.2 q1 i hc; omega
        simpa using this) h
    have hset : listed.getD i false = false := h1
    have hlt : i < listed.size := by rw [hs]; exact hil
    have hrem : pre ++ post = (indexed 0 ops).filter fun x => !(listed.setIfInBounds i true).getD x.1 false := by
      have e1 : ((indexed 0 ops).filter fun x => !(listed.setIfInBounds i true).getD x.1 false) = ((indexed 0 ops).filter fun x => !listed.getD x.1 false).filter (fun x => !decide (x.1 = i)) := by
        rw [List.filter_filter]
        congr 1
        funext x
        rw [getD_set _ _ _ hlt]
        cases listed.getD x.1 false <;> simp
      rw [e1, hL, List.filter_append, List.filter_cons]
      have e2 : pre.filter (fun x => !decide (x.1 = i)) = pre := List.filter_eq_self.2 (fun y hy => by have := hpre y hy; simp; omega)
      have e3 : post.filter (fun x => !decide (x.1 = i)) = post := List.filter_eq_self.2 (fun y hy => by have := hpost y hy; simp; omega)
      rw [e2, e3]
      simp
    have hcl' : ∀ (k : Nat) p, ops[k]? = some p → (listed.setIfInBounds i true).getD k false = true → ∀ j, depO p j = true → (listed.setIfInBounds i true).getD j false = true := by
      intro k p hp hk j hj
      rw [getD_set _ _ _ hlt] at hk ⊢
      simp only [Bool.or_eq_true, decide_eq_true_eq] at hk ⊢
      rcases hk with rfl | hk
      · rw [ho'] at hp; cases hp; exact .inr (h2 j hj)
      · exact .inr (hcl k p hp hk j hj)
    have hstep := op_sound (Φ0 := Φ0) (W := W) (M := M) hT hall ho (K' := wpAny P .any ops.toArray Q' fuel (listed.setIfInBounds i true)) (Q' := Q') (fun σ' a' w' hk hr' => ih (listed.setIfInBounds i true) σ' a' w' (by have := unlisted_set listed i hlt hset; omega) (by simpa using hs) hcl' (by rw [← hrem]; exact hk) hr') hb hr
    unfold wpOp
    rw [ho]
    simp only
    split
    · rename_i hw; rw [if_pos hw] at hstep; exact .inl hstep
    · rename_i hw; rw [if_neg hw] at hstep; exact hstep

/-- A region that draws its order. -/
theorem PW.drawE {Q : Exit → PS → Prop} {σ : PS} (hT : T = tabOf P) (hm : P.follows .mixedOrders = true) {id : Nat} (hall : ops.all (dstB M) = true) (hd : drawE (envOf σ) (1000 * id) ops = true)
    (h : PWops P T ops.toArray (1000 * id) (okE (envOf σ) ops (1000 * id)) (indexed 0 ops) (Q .normal) σ) : PW P M (.region id ops.toArray true) Q σ := by
  intro Φ0 W a w hr
  refine wp_region_any hm ?_
  obtain ⟨Φ, μ, ω, hg⟩ := hr
  refine any_soundE (Φ0 := Φ0) (W := W) (M := M) (base := 1000 * id) (env := envOf σ) (Q := Q .normal) hT (by
    intro j o hj
    exact List.all_eq_true.1 hall o (mem_of_get (by simpa using hj))) hd (fun σ a w hq hrel => ⟨_, hq, hrel⟩) _ _ σ a _ ?_ (by simp) ?_ ?_ ⟨Φ, μ, ω, hg.drew⟩
  · unfold unlisted
    exact Nat.le_trans List.countP_le_length (by simp)
  · intro i o ho hl
    simp [Array.getD_eq_getD_getElem?, Array.getElem?_replicate] at hl
    split at hl <;> simp_all
  · have : ((indexed 0 ops).filter fun x => !(Array.replicate ops.toArray.size false).getD x.1 false) = indexed 0 ops := by
      rw [List.filter_eq_self]
      intro x _
      simp [Array.getD_eq_getD_getElem?, Array.getElem?_replicate]
      split <;> rfl
    rw [this]
    exact h
end
end Go.Proofs.Ytnjopfjmepbpoaa

/- Law AttrPartsFit: the walk. -/
namespace Go.Proofs.Ytnjopfjmepbpoaa
set_option linter.unusedSimpArgs false
set_option linter.unusedVariables false
set_option linter.unnecessarySimpa false
open Go.RowKit

theorem entryE_ok {s : PSchema} {e : PEntry} (h : entryE s e = 0) : (1 ≤ e.id ∧ e.id ≤ 1073741824 ∧ 1 ≤ e.owner ∧ e.owner ≤ 1073741824 ∧ 1 ≤ e.ver ∧ e.ver ≤ 1073741824) ∧ fitsE s e.attrs = 0 ∧
    ∀ v o, 1 ≤ v → v ≤ 1073741824 → 1 ≤ o → o ≤ 1073741824 → entryE s { e with ver := v, owner := o } = 0 := by
  unfold entryE at h
  split at h
  · simp at h
  · rename_i h1
    split at h
    · simp at h
    · rename_i h2
      split at h
      · simp at h
      · rename_i h3
        refine ⟨by omega, h, fun v o v1 v2 o1 o2 => ?_⟩
        unfold entryE
        simp only
        rw [if_neg (by omega), if_neg h2, if_neg h3]
        exact h

theorem fits_less {ds : List PDef} {l : List PAttr} (h : fitsGo ds ByteArray.empty false l = 0) (j : Nat) : fitsGo ds ByteArray.empty false (l.take j ++ l.drop (j + 1)) = 0 := by
  rw [fits_iff] at h ⊢
  have hs : (l.take j ++ l.drop (j + 1)).Sublist l := by
    have := List.Sublist.append (List.Sublist.refl (l.take j)) (show (l.drop (j + 1)).Sublist (l.drop j) by
      rw [← List.drop_drop]; exact List.drop_sublist _ _)
    rwa [List.take_append_drop] at this
  exact ⟨fun a ha => h.1 a (hs.subset ha), h.2.sublist hs⟩
theorem get_less {ds : List PDef} {l : List PAttr} (h : fitsGo ds ByteArray.empty false l = 0) {j : Nat} {a : PAttr} (hj : l[j]? = some a) : getA (l.take j ++ l.drop (j + 1)) a.name = (zeroA, false) := by
  rw [fits_iff] at h
  obtain ⟨hlt, rfl⟩ := List.getElem?_eq_some_iff.1 hj
  refine getA_none fun x hx => ?_
  rcases List.mem_append.1 hx with hx | hx
  · obtain ⟨i, hi, rfl⟩ := List.mem_take_iff_getElem.1 hx
    exact ltB_ne (List.pairwise_iff_getElem.1 h.2 i j (by omega) hlt (by omega))
  · obtain ⟨i, hi, rfl⟩ := List.mem_drop_iff_getElem.1 hx
    rw [eqB_comm]
    exact ltB_ne (List.pairwise_iff_getElem.1 h.2 j (j + 1 + i) hlt (by omega) (by omega))
theorem fits_twice {ds : List PDef} {l : List PAttr} (h : fitsGo ds ByteArray.empty false l = 0) {j : Nat} {a : PAttr} (hj : l[j]? = some a) : fitsGo ds ByteArray.empty false (l.take (j + 1) ++ l.drop j) = 6 := by
  have h1 : fitsGo ds ByteArray.empty false (l.take (j + 1)) = 0 := by
    rw [fits_iff] at h ⊢
    exact ⟨fun a ha => h.1 a (List.mem_of_mem_take ha), h.2.sublist (List.take_sublist _ _)⟩
  rw [fits_append _ _ _ h1]
  have h2 : lastN ByteArray.empty (l.take (j + 1)) = a.name := by
    rw [List.take_add_one, hj]
    simp [lastN]
  obtain ⟨hlt, rfl⟩ := List.getElem?_eq_some_iff.1 hj
  rw [h2, List.drop_eq_getElem_cons hlt, fitsGo]
  have h3 : fitE ds l[j].name false l[j] = 6 := by
    have := ((fits_iff l _).1 h).1 l[j] (List.getElem_mem hlt)
    unfold fitE
    have h4 := this.2.1
    rw [if_neg (by omega), leqB_self]; rfl
  rw [h3]; rfl
theorem low_entCells' (e : PEntry) : ∀ c ∈ entCellsP e, Low c := low_entCells e

set_option maxRecDepth 10000 in
set_option maxHeartbeats 8000000 in
theorem pw_parts (s : PSchema) (x : PEntry) (place : Int) (hs1 : s.defs.length ≤ 20000000000000) (hs2 : ∀ d ∈ s.defs, d.words.length ≤ 20000000000000) (x1 : x.vec.length ≤ 20000000000000) (x2 : x.attrs.length ≤ 20000000000000) (hp : 0 ≤ place ∧ place < 256) : PCalls Try.prog 5 [pschema s, pentry x, pbyte place] (· = pbool true) := by
  refine pcalls_of_pw typeTab_ok Try.func5 rfl (by kernel_rfl) (by (first | exact low_mapI | exact low_mapS | exact low_mapB | simp [low_val, low_nilsl, low_sl, low_ep, low_agg, low_tup, low_fn, low_pint, low_pstr, low_pbool, low_pints, low_pstrs, low_pbyte, low_pbytes, low_pattrs, low_pdefs, low_pschema, low_pentry])) (by simp [pschema, pentry, pbyte, pint, PV.ownB]) (by rw [Try.ntmps5]; simp) ?_
  rw [Try.ntmps5, Try.results5]
  have c0 := pw_sanity
  have cs := pw_fewDefs s hs1 hs2
  have cx := pw_few x x2 x1
  cases fs : fewDefsB s with
  | false =>
    rw [fs] at cs
    (repeat (first | (with_reducible first | refine PW.seq ?_ | refine PW.block ?_ | refine PW.skip ?_ | refine PW.exit ?_ | refine PW.ret ?_ | refine thenP ?_ | refine thenP_exit ?_ | refine thenP_ret ?_ | refine blockP ?_ | refine blockP_exit ?_ | refine blockP_ret ?_ | refine loopP_exit ?_ | refine loopP_ret ?_) | ((with_reducible refine PWops.idd ?_) ; first | (first | refine PWops.stepA rfl ?_ | refine PWops.doneI rfl ?_ | refine PWops.boolK true rfl rfl rfl rfl (by (first | rfl | assumption | (simp only [decide_eq_true_eq, decide_eq_false_iff_not, bne_iff_ne, beq_iff_eq, beq_eq_false_iff_ne, bne_eq_false_iff_eq, ne_eq] ; omega))) rfl ?_ | refine PWops.boolK false rfl rfl rfl rfl (by (first | rfl | assumption | (simp only [decide_eq_true_eq, decide_eq_false_iff_not, bne_iff_ne, beq_iff_eq, beq_eq_false_iff_ne, bne_eq_false_iff_eq, ne_eq] ; omega))) rfl ?_ | refine PWops.fitsK rfl rfl rfl rfl (by omega) (by omega) rfl ?_ | refine PWops.remK rfl rfl rfl rfl (by omega) rfl ?_ | refine PWops.quoK rfl rfl rfl rfl (by omega) rfl ?_ | refine PWops.app rfl rfl rfl rfl rfl rfl rfl (by omega) (by omega) (by first | rfl | exact one_pint _ | exact one_pstr _ | exact one_pbyte _ | exact one_pattrs _) ?_ | refine PWops.app0 rfl rfl rfl rfl rfl rfl rfl (by omega) (by omega) (by first | rfl | exact one_pint _ | exact one_pstr _ | exact one_pbyte _ | exact one_pattrs _) ?_ | refine PWops.idx1 rfl rfl rfl rfl rfl rfl rfl rfl (by omega) ?_ | refine PWops.idx rfl rfl rfl rfl rfl rfl rfl rfl (by omega) ?_ | refine PWops.ld rfl rfl rfl rfl rfl rfl rfl (by assumption) rfl ?_ | refine PWops.ldA rfl rfl rfl rfl rfl rfl (by omega) (by assumption) ?_ | refine PWops.str rfl rfl rfl rfl rfl rfl rfl rfl rfl rfl rfl ?_) | (first | (refine PWops.call rfl rfl rfl (by assumption) ?_) | refine PWops.idxZ1 rfl rfl rfl rfl rfl rfl rfl rfl (by omega) ?_ | refine PWops.idxZ rfl rfl rfl rfl rfl rfl rfl rfl (by omega) ?_ | refine PWops.ld rfl rfl rfl rfl rfl rfl rfl rfl rfl ?_ | refine PWops.slcL rfl rfl rfl rfl rfl rfl rfl rfl (by omega) ?_ | refine PWops.slcH rfl rfl rfl rfl rfl rfl rfl rfl (by omega) ?_ | refine PWops.slcRL rfl rfl rfl rfl rfl rfl rfl rfl (by intro; rfl) (by omega) ?_ | refine PWops.slcRH rfl rfl rfl rfl rfl rfl rfl rfl (by intro; rfl) (by omega) ?_ | refine PWops.slcM rfl rfl rfl rfl rfl rfl rfl rfl rfl (by omega) ?_ | refine PWops.ldM rfl rfl rfl rfl rfl rfl rfl (by omega) rfl ?_ | refine PWops.ldR rfl rfl rfl rfl rfl rfl rfl (by intro; rfl) (by omega) rfl rfl ?_ | refine PWops.ldRA rfl rfl rfl rfl rfl rfl (by intro; rfl) (by omega) rfl ?_)) | (first | ((with_reducible refine PW.idd ?_) ; (first | refine PW.region typeTab_ok (by kernel_rfl) ?_ | refine PW.draw typeTab_ok (by kernel_rfl) (by kernel_rfl) (by kernel_rfl) ?_ | refine PW.condT rfl ?_ | refine PW.condF rfl ?_ | refine blockP_other (by decide) ?_)) | with_reducible refine blockP_other (by decide) ?_)))
    exact retP rfl (by (first | exact low_mapI | exact low_mapS | exact low_mapB | simp [low_val, low_nilsl, low_sl, low_ep, low_agg, low_tup, low_fn, low_pint, low_pstr, low_pbool, low_pints, low_pstrs, low_pbyte, low_pbytes, low_pattrs, low_pdefs, low_pschema, low_pentry])) rfl
  | true =>
  rw [fs] at cs
  have hF := fewDefsB_few fs
  have hS := hF.small
  have k1 := pcRefCheck s hS
  by_cases hk : checkE s = 0
  case neg =>
    (repeat (first | (with_reducible first | refine PW.seq ?_ | refine PW.block ?_ | refine PW.skip ?_ | refine PW.exit ?_ | refine PW.ret ?_ | refine thenP ?_ | refine thenP_exit ?_ | refine thenP_ret ?_ | refine blockP ?_ | refine blockP_exit ?_ | refine blockP_ret ?_ | refine loopP_exit ?_ | refine loopP_ret ?_) | ((with_reducible refine PWops.idd ?_) ; first | (first | refine PWops.stepA rfl ?_ | refine PWops.doneI rfl ?_ | refine PWops.boolK true rfl rfl rfl rfl (by (first | rfl | assumption | (simp only [decide_eq_true_eq, decide_eq_false_iff_not, bne_iff_ne, beq_iff_eq, beq_eq_false_iff_ne, bne_eq_false_iff_eq, ne_eq] ; omega))) rfl ?_ | refine PWops.boolK false rfl rfl rfl rfl (by (first | rfl | assumption | (simp only [decide_eq_true_eq, decide_eq_false_iff_not, bne_iff_ne, beq_iff_eq, beq_eq_false_iff_ne, bne_eq_false_iff_eq, ne_eq] ; omega))) rfl ?_ | refine PWops.fitsK rfl rfl rfl rfl (by omega) (by omega) rfl ?_ | refine PWops.remK rfl rfl rfl rfl (by omega) rfl ?_ | refine PWops.quoK rfl rfl rfl rfl (by omega) rfl ?_ | refine PWops.app rfl rfl rfl rfl rfl rfl rfl (by omega) (by omega) (by first | rfl | exact one_pint _ | exact one_pstr _ | exact one_pbyte _ | exact one_pattrs _) ?_ | refine PWops.app0 rfl rfl rfl rfl rfl rfl rfl (by omega) (by omega) (by first | rfl | exact one_pint _ | exact one_pstr _ | exact one_pbyte _ | exact one_pattrs _) ?_ | refine PWops.idx1 rfl rfl rfl rfl rfl rfl rfl rfl (by omega) ?_ | refine PWops.idx rfl rfl rfl rfl rfl rfl rfl rfl (by omega) ?_ | refine PWops.ld rfl rfl rfl rfl rfl rfl rfl (by assumption) rfl ?_ | refine PWops.ldA rfl rfl rfl rfl rfl rfl (by omega) (by assumption) ?_ | refine PWops.str rfl rfl rfl rfl rfl rfl rfl rfl rfl rfl rfl ?_) | (first | (refine PWops.call rfl rfl rfl (by assumption) ?_) | refine PWops.idxZ1 rfl rfl rfl rfl rfl rfl rfl rfl (by omega) ?_ | refine PWops.idxZ rfl rfl rfl rfl rfl rfl rfl rfl (by omega) ?_ | refine PWops.ld rfl rfl rfl rfl rfl rfl rfl rfl rfl ?_ | refine PWops.slcL rfl rfl rfl rfl rfl rfl rfl rfl (by omega) ?_ | refine PWops.slcH rfl rfl rfl rfl rfl rfl rfl rfl (by omega) ?_ | refine PWops.slcRL rfl rfl rfl rfl rfl rfl rfl rfl (by intro; rfl) (by omega) ?_ | refine PWops.slcRH rfl rfl rfl rfl rfl rfl rfl rfl (by intro; rfl) (by omega) ?_ | refine PWops.slcM rfl rfl rfl rfl rfl rfl rfl rfl rfl (by omega) ?_ | refine PWops.ldM rfl rfl rfl rfl rfl rfl rfl (by omega) rfl ?_ | refine PWops.ldR rfl rfl rfl rfl rfl rfl rfl (by intro; rfl) (by omega) rfl rfl ?_ | refine PWops.ldRA rfl rfl rfl rfl rfl rfl (by intro; rfl) (by omega) rfl ?_)) | (first | ((with_reducible refine PW.idd ?_) ; (first | refine PW.region typeTab_ok (by kernel_rfl) ?_ | refine PW.draw typeTab_ok (by kernel_rfl) (by kernel_rfl) (by kernel_rfl) ?_ | refine PW.condT rfl ?_ | refine PW.condF rfl ?_ | refine blockP_other (by decide) ?_)) | with_reducible refine blockP_other (by decide) ?_)))
    exact retP rfl (by (first | exact low_mapI | exact low_mapS | exact low_mapB | simp [low_val, low_nilsl, low_sl, low_ep, low_agg, low_tup, low_fn, low_pint, low_pstr, low_pbool, low_pints, low_pstrs, low_pbyte, low_pbytes, low_pattrs, low_pdefs, low_pschema, low_pentry])) rfl
  rw [hk] at k1
  cases fx : fewB x with
  | false =>
    rw [fx] at cx
    (repeat (first | (with_reducible first | refine PW.seq ?_ | refine PW.block ?_ | refine PW.skip ?_ | refine PW.exit ?_ | refine PW.ret ?_ | refine thenP ?_ | refine thenP_exit ?_ | refine thenP_ret ?_ | refine blockP ?_ | refine blockP_exit ?_ | refine blockP_ret ?_ | refine loopP_exit ?_ | refine loopP_ret ?_) | ((with_reducible refine PWops.idd ?_) ; first | (first | refine PWops.stepA rfl ?_ | refine PWops.doneI rfl ?_ | refine PWops.boolK true rfl rfl rfl rfl (by (first | rfl | assumption | (simp only [decide_eq_true_eq, decide_eq_false_iff_not, bne_iff_ne, beq_iff_eq, beq_eq_false_iff_ne, bne_eq_false_iff_eq, ne_eq] ; omega))) rfl ?_ | refine PWops.boolK false rfl rfl rfl rfl (by (first | rfl | assumption | (simp only [decide_eq_true_eq, decide_eq_false_iff_not, bne_iff_ne, beq_iff_eq, beq_eq_false_iff_ne, bne_eq_false_iff_eq, ne_eq] ; omega))) rfl ?_ | refine PWops.fitsK rfl rfl rfl rfl (by omega) (by omega) rfl ?_ | refine PWops.remK rfl rfl rfl rfl (by omega) rfl ?_ | refine PWops.quoK rfl rfl rfl rfl (by omega) rfl ?_ | refine PWops.app rfl rfl rfl rfl rfl rfl rfl (by omega) (by omega) (by first | rfl | exact one_pint _ | exact one_pstr _ | exact one_pbyte _ | exact one_pattrs _) ?_ | refine PWops.app0 rfl rfl rfl rfl rfl rfl rfl (by omega) (by omega) (by first | rfl | exact one_pint _ | exact one_pstr _ | exact one_pbyte _ | exact one_pattrs _) ?_ | refine PWops.idx1 rfl rfl rfl rfl rfl rfl rfl rfl (by omega) ?_ | refine PWops.idx rfl rfl rfl rfl rfl rfl rfl rfl (by omega) ?_ | refine PWops.ld rfl rfl rfl rfl rfl rfl rfl (by assumption) rfl ?_ | refine PWops.ldA rfl rfl rfl rfl rfl rfl (by omega) (by assumption) ?_ | refine PWops.str rfl rfl rfl rfl rfl rfl rfl rfl rfl rfl rfl ?_) | (first | (refine PWops.call rfl rfl rfl (by assumption) ?_) | refine PWops.idxZ1 rfl rfl rfl rfl rfl rfl rfl rfl (by omega) ?_ | refine PWops.idxZ rfl rfl rfl rfl rfl rfl rfl rfl (by omega) ?_ | refine PWops.ld rfl rfl rfl rfl rfl rfl rfl rfl rfl ?_ | refine PWops.slcL rfl rfl rfl rfl rfl rfl rfl rfl (by omega) ?_ | refine PWops.slcH rfl rfl rfl rfl rfl rfl rfl rfl (by omega) ?_ | refine PWops.slcRL rfl rfl rfl rfl rfl rfl rfl rfl (by intro; rfl) (by omega) ?_ | refine PWops.slcRH rfl rfl rfl rfl rfl rfl rfl rfl (by intro; rfl) (by omega) ?_ | refine PWops.slcM rfl rfl rfl rfl rfl rfl rfl rfl rfl (by omega) ?_ | refine PWops.ldM rfl rfl rfl rfl rfl rfl rfl (by omega) rfl ?_ | refine PWops.ldR rfl rfl rfl rfl rfl rfl rfl (by intro; rfl) (by omega) rfl rfl ?_ | refine PWops.ldRA rfl rfl rfl rfl rfl rfl (by intro; rfl) (by omega) rfl ?_)) | (first | ((with_reducible refine PW.idd ?_) ; (first | refine PW.region typeTab_ok (by kernel_rfl) ?_ | refine PW.draw typeTab_ok (by kernel_rfl) (by kernel_rfl) (by kernel_rfl) ?_ | refine PW.condT rfl ?_ | refine PW.condF rfl ?_ | refine blockP_other (by decide) ?_)) | with_reducible refine blockP_other (by decide) ?_)))
    exact retP rfl (by (first | exact low_mapI | exact low_mapS | exact low_mapB | simp [low_val, low_nilsl, low_sl, low_ep, low_agg, low_tup, low_fn, low_pint, low_pstr, low_pbool, low_pints, low_pstrs, low_pbyte, low_pbytes, low_pattrs, low_pdefs, low_pschema, low_pentry])) rfl
  | true =>
  rw [fx] at cx
  have sx := fewB_few fx
  have sx1 := sx.1
  have sx2 := sx.2.1
  have k2 := pcRefEntry s x hS (by omega) (by omega)
  (repeat (first | (with_reducible first | refine PW.seq ?_ | refine PW.block ?_ | refine PW.skip ?_ | refine PW.exit ?_ | refine PW.ret ?_ | refine thenP ?_ | refine thenP_exit ?_ | refine thenP_ret ?_ | refine blockP ?_ | refine blockP_exit ?_ | refine blockP_ret ?_ | refine loopP_exit ?_ | refine loopP_ret ?_) | ((with_reducible refine PWops.idd ?_) ; first | (first | refine PWops.stepA rfl ?_ | refine PWops.doneI rfl ?_ | refine PWops.boolK true rfl rfl rfl rfl (by (first | rfl | assumption | (simp only [decide_eq_true_eq, decide_eq_false_iff_not, bne_iff_ne, beq_iff_eq, beq_eq_false_iff_ne, bne_eq_false_iff_eq, ne_eq] ; omega))) rfl ?_ | refine PWops.boolK false rfl rfl rfl rfl (by (first | rfl | assumption | (simp only [decide_eq_true_eq, decide_eq_false_iff_not, bne_iff_ne, beq_iff_eq, beq_eq_false_iff_ne, bne_eq_false_iff_eq, ne_eq] ; omega))) rfl ?_ | refine PWops.fitsK rfl rfl rfl rfl (by omega) (by omega) rfl ?_ | refine PWops.remK rfl rfl rfl rfl (by omega) rfl ?_ | refine PWops.quoK rfl rfl rfl rfl (by omega) rfl ?_ | refine PWops.app rfl rfl rfl rfl rfl rfl rfl (by omega) (by omega) (by first | rfl | exact one_pint _ | exact one_pstr _ | exact one_pbyte _ | exact one_pattrs _) ?_ | refine PWops.app0 rfl rfl rfl rfl rfl rfl rfl (by omega) (by omega) (by first | rfl | exact one_pint _ | exact one_pstr _ | exact one_pbyte _ | exact one_pattrs _) ?_ | refine PWops.idx1 rfl rfl rfl rfl rfl rfl rfl rfl (by omega) ?_ | refine PWops.idx rfl rfl rfl rfl rfl rfl rfl rfl (by omega) ?_ | refine PWops.ld rfl rfl rfl rfl rfl rfl rfl (by assumption) rfl ?_ | refine PWops.ldA rfl rfl rfl rfl rfl rfl (by omega) (by assumption) ?_ | refine PWops.str rfl rfl rfl rfl rfl rfl rfl rfl rfl rfl rfl ?_) | (first | (refine PWops.call rfl rfl rfl (by assumption) ?_) | refine PWops.idxZ1 rfl rfl rfl rfl rfl rfl rfl rfl (by omega) ?_ | refine PWops.idxZ rfl rfl rfl rfl rfl rfl rfl rfl (by omega) ?_ | refine PWops.ld rfl rfl rfl rfl rfl rfl rfl rfl rfl ?_ | refine PWops.slcL rfl rfl rfl rfl rfl rfl rfl rfl (by omega) ?_ | refine PWops.slcH rfl rfl rfl rfl rfl rfl rfl rfl (by omega) ?_ | refine PWops.slcRL rfl rfl rfl rfl rfl rfl rfl rfl (by intro; rfl) (by omega) ?_ | refine PWops.slcRH rfl rfl rfl rfl rfl rfl rfl rfl (by intro; rfl) (by omega) ?_ | refine PWops.slcM rfl rfl rfl rfl rfl rfl rfl rfl rfl (by omega) ?_ | refine PWops.ldM rfl rfl rfl rfl rfl rfl rfl (by omega) rfl ?_ | refine PWops.ldR rfl rfl rfl rfl rfl rfl rfl (by intro; rfl) (by omega) rfl rfl ?_ | refine PWops.ldRA rfl rfl rfl rfl rfl rfl (by intro; rfl) (by omega) rfl ?_)) | (first | ((with_reducible refine PW.idd ?_) ; (first | refine PW.region typeTab_ok (by kernel_rfl) ?_ | refine PW.draw typeTab_ok (by kernel_rfl) (by kernel_rfl) (by kernel_rfl) ?_ | refine PW.condT rfl ?_ | refine PW.condF rfl ?_ | refine blockP_other (by decide) ?_)) | with_reducible refine blockP_other (by decide) ?_)))
  by_cases he : entryE s x = 0
  case neg =>
    (repeat (first | (with_reducible first | refine PW.seq ?_ | refine PW.block ?_ | refine PW.skip ?_ | refine PW.exit ?_ | refine PW.ret ?_ | refine thenP ?_ | refine thenP_exit ?_ | refine thenP_ret ?_ | refine blockP ?_ | refine blockP_exit ?_ | refine blockP_ret ?_ | refine loopP_exit ?_ | refine loopP_ret ?_) | ((with_reducible refine PWops.idd ?_) ; first | (first | refine PWops.stepA rfl ?_ | refine PWops.doneI rfl ?_ | refine PWops.boolK true rfl rfl rfl rfl (by (first | rfl | assumption | (simp only [decide_eq_true_eq, decide_eq_false_iff_not, bne_iff_ne, beq_iff_eq, beq_eq_false_iff_ne, bne_eq_false_iff_eq, ne_eq] ; omega))) rfl ?_ | refine PWops.boolK false rfl rfl rfl rfl (by (first | rfl | assumption | (simp only [decide_eq_true_eq, decide_eq_false_iff_not, bne_iff_ne, beq_iff_eq, beq_eq_false_iff_ne, bne_eq_false_iff_eq, ne_eq] ; omega))) rfl ?_ | refine PWops.fitsK rfl rfl rfl rfl (by omega) (by omega) rfl ?_ | refine PWops.remK rfl rfl rfl rfl (by omega) rfl ?_ | refine PWops.quoK rfl rfl rfl rfl (by omega) rfl ?_ | refine PWops.app rfl rfl rfl rfl rfl rfl rfl (by omega) (by omega) (by first | rfl | exact one_pint _ | exact one_pstr _ | exact one_pbyte _ | exact one_pattrs _) ?_ | refine PWops.app0 rfl rfl rfl rfl rfl rfl rfl (by omega) (by omega) (by first | rfl | exact one_pint _ | exact one_pstr _ | exact one_pbyte _ | exact one_pattrs _) ?_ | refine PWops.idx1 rfl rfl rfl rfl rfl rfl rfl rfl (by omega) ?_ | refine PWops.idx rfl rfl rfl rfl rfl rfl rfl rfl (by omega) ?_ | refine PWops.ld rfl rfl rfl rfl rfl rfl rfl (by assumption) rfl ?_ | refine PWops.ldA rfl rfl rfl rfl rfl rfl (by omega) (by assumption) ?_ | refine PWops.str rfl rfl rfl rfl rfl rfl rfl rfl rfl rfl rfl ?_) | (first | (refine PWops.call rfl rfl rfl (by assumption) ?_) | refine PWops.idxZ1 rfl rfl rfl rfl rfl rfl rfl rfl (by omega) ?_ | refine PWops.idxZ rfl rfl rfl rfl rfl rfl rfl rfl (by omega) ?_ | refine PWops.ld rfl rfl rfl rfl rfl rfl rfl rfl rfl ?_ | refine PWops.slcL rfl rfl rfl rfl rfl rfl rfl rfl (by omega) ?_ | refine PWops.slcH rfl rfl rfl rfl rfl rfl rfl rfl (by omega) ?_ | refine PWops.slcRL rfl rfl rfl rfl rfl rfl rfl rfl (by intro; rfl) (by omega) ?_ | refine PWops.slcRH rfl rfl rfl rfl rfl rfl rfl rfl (by intro; rfl) (by omega) ?_ | refine PWops.slcM rfl rfl rfl rfl rfl rfl rfl rfl rfl (by omega) ?_ | refine PWops.ldM rfl rfl rfl rfl rfl rfl rfl (by omega) rfl ?_ | refine PWops.ldR rfl rfl rfl rfl rfl rfl rfl (by intro; rfl) (by omega) rfl rfl ?_ | refine PWops.ldRA rfl rfl rfl rfl rfl rfl (by intro; rfl) (by omega) rfl ?_)) | (first | ((with_reducible refine PW.idd ?_) ; (first | refine PW.region typeTab_ok (by kernel_rfl) ?_ | refine PW.draw typeTab_ok (by kernel_rfl) (by kernel_rfl) (by kernel_rfl) ?_ | refine PW.condT rfl ?_ | refine PW.condF rfl ?_ | refine blockP_other (by decide) ?_)) | with_reducible refine blockP_other (by decide) ?_)))
    exact retP rfl (by (first | exact low_mapI | exact low_mapS | exact low_mapB | simp [low_val, low_nilsl, low_sl, low_ep, low_agg, low_tup, low_fn, low_pint, low_pstr, low_pbool, low_pints, low_pstrs, low_pbyte, low_pbytes, low_pattrs, low_pdefs, low_pschema, low_pentry])) rfl
  obtain ⟨v1, v2, v3⟩ := entryE_ok he
  have hfit : fitsGo s.defs ByteArray.empty false x.attrs = 0 := (fits_first (checkE_ok hk) rfl _).trans v2
  have hpw := ((fits_iff _ _).1 hfit).2
  have hz := low_schCells s
  have hz2 := low_entCells x
  (repeat (first | (with_reducible first | refine PW.seq ?_ | refine PW.block ?_ | refine PW.skip ?_ | refine PW.exit ?_ | refine PW.ret ?_ | refine thenP ?_ | refine thenP_exit ?_ | refine thenP_ret ?_ | refine blockP ?_ | refine blockP_exit ?_ | refine blockP_ret ?_ | refine loopP_exit ?_ | refine loopP_ret ?_) | ((with_reducible refine PWops.idd ?_) ; first | (first | refine PWops.stepA rfl ?_ | refine PWops.doneI rfl ?_ | refine PWops.boolK true rfl rfl rfl rfl (by (first | rfl | assumption | (simp only [decide_eq_true_eq, decide_eq_false_iff_not, bne_iff_ne, beq_iff_eq, beq_eq_false_iff_ne, bne_eq_false_iff_eq, ne_eq] ; omega))) rfl ?_ | refine PWops.boolK false rfl rfl rfl rfl (by (first | rfl | assumption | (simp only [decide_eq_true_eq, decide_eq_false_iff_not, bne_iff_ne, beq_iff_eq, beq_eq_false_iff_ne, bne_eq_false_iff_eq, ne_eq] ; omega))) rfl ?_ | refine PWops.fitsK rfl rfl rfl rfl (by omega) (by omega) rfl ?_ | refine PWops.remK rfl rfl rfl rfl (by omega) rfl ?_ | refine PWops.quoK rfl rfl rfl rfl (by omega) rfl ?_ | refine PWops.app rfl rfl rfl rfl rfl rfl rfl (by omega) (by omega) (by first | rfl | exact one_pint _ | exact one_pstr _ | exact one_pbyte _ | exact one_pattrs _) ?_ | refine PWops.app0 rfl rfl rfl rfl rfl rfl rfl (by omega) (by omega) (by first | rfl | exact one_pint _ | exact one_pstr _ | exact one_pbyte _ | exact one_pattrs _) ?_ | refine PWops.idx1 rfl rfl rfl rfl rfl rfl rfl rfl (by omega) ?_ | refine PWops.idx rfl rfl rfl rfl rfl rfl rfl rfl (by omega) ?_ | refine PWops.ld rfl rfl rfl rfl rfl rfl rfl (by assumption) rfl ?_ | refine PWops.ldA rfl rfl rfl rfl rfl rfl (by omega) (by assumption) ?_ | refine PWops.str rfl rfl rfl rfl rfl rfl rfl rfl rfl rfl rfl ?_) | (first | (refine PWops.call rfl rfl rfl (by assumption) ?_) | refine PWops.idxZ1 rfl rfl rfl rfl rfl rfl rfl rfl (by omega) ?_ | refine PWops.idxZ rfl rfl rfl rfl rfl rfl rfl rfl (by omega) ?_ | refine PWops.ld rfl rfl rfl rfl rfl rfl rfl rfl rfl ?_ | refine PWops.slcL rfl rfl rfl rfl rfl rfl rfl rfl (by omega) ?_ | refine PWops.slcH rfl rfl rfl rfl rfl rfl rfl rfl (by omega) ?_ | refine PWops.slcRL rfl rfl rfl rfl rfl rfl rfl rfl (by intro; rfl) (by omega) ?_ | refine PWops.slcRH rfl rfl rfl rfl rfl rfl rfl rfl (by intro; rfl) (by omega) ?_ | refine PWops.slcM rfl rfl rfl rfl rfl rfl rfl rfl rfl (by omega) ?_ | refine PWops.ldM rfl rfl rfl rfl rfl rfl rfl (by omega) rfl ?_ | refine PWops.ldR rfl rfl rfl rfl rfl rfl rfl (by intro; rfl) (by omega) rfl rfl ?_ | refine PWops.ldRA rfl rfl rfl rfl rfl rfl (by intro; rfl) (by omega) rfl ?_)) | (first | ((with_reducible refine PW.idd ?_) ; (first | refine PW.region typeTab_ok (by kernel_rfl) ?_ | refine PW.draw typeTab_ok (by kernel_rfl) (by kernel_rfl) (by kernel_rfl) ?_ | refine PW.condT rfl ?_ | refine PW.condF rfl ?_ | refine blockP_other (by decide) ?_)) | with_reducible refine blockP_other (by decide) ?_)))
  refine PW.loop (fun k : Nat => ((((((((((bot.setb 0 (schCellsP s)).setb 1 (entCellsP x)).put 2 (pbyte place)).put 3 (.ptr 0 0)).put 4 (.ptr 1 0)).put 6 (pbool false)).put 38 (pattrs x.attrs)).put 39 (pint x.attrs.length)).put 40 (pint k)))) (fun k => k ≤ x.attrs.length) (fun k => x.attrs.length - k) 0 (by omega) ?_ ?_
  · (exact Sub.drop (by (repeat (first | exact bot_b | with_reducible refine put_b ?_ | refine setb_b ?_ rfl))) (by (repeat (first | exact bot_c | with_reducible refine put_c ?_ | with_reducible refine setb_c ?_ (by first | assumption | exact hlow _ | (first | exact low_mapI | exact low_mapS | exact low_mapB | simp [low_val, low_nilsl, low_sl, low_ep, low_agg, low_tup, low_fn, low_pint, low_pstr, low_pbool, low_pints, low_pstrs, low_pbyte, low_pbytes, low_pattrs, low_pdefs, low_pschema, low_pentry]) | exact low_entCells _ | exact low_schCells _ | exact low_pdefL _ | exact low_pattrL _)))) (by (repeat (first | exact bot_l | with_reducible refine setb_l ?_ | with_reducible refine put_l ?_ (by first | (left; (first | exact low_mapI | exact low_mapS | exact low_mapB | simp [low_val, low_nilsl, low_sl, low_ep, low_agg, low_tup, low_fn, low_pint, low_pstr, low_pbool, low_pints, low_pstrs, low_pbyte, low_pbytes, low_pattrs, low_pdefs, low_pschema, low_pentry])) | exact .inr ⟨_, _, rfl, (by simp [PS.setb, PS.put, upd_if])⟩)))) (by (repeat (first | exact sub_bot | with_reducible refine setb_t ?_ | refine sub_put ?_ (.inl rfl) | refine sub_put ?_ (.inr (.inl rfl)) | refine sub_put ?_ (.inr (.inr ⟨_, _, rfl, rfl⟩))))))
  · intro k hkl
    by_cases hlt : k < x.attrs.length
    · obtain ⟨a, ha⟩ := ints_get x.attrs k hlt
      have ha' := attr_row ha
      have fx := flatMap_len (f := pattrL) (k := 4) (fun _ => rfl) x.attrs
      have g1 := pcGet x.attrs a.name (by omega)
      rw [getA_mem hpw (mem_of_get ha)] at g1
      have heq : (!(a.name == a.name && (a.kind == a.kind && (a.n == a.n && (a.s == a.s && true))))) = false := by
        have := (eqAttrB_iff a a).2 rfl; simp only [eqAttrB] at this; rw [this]; rfl
      (repeat (first | (with_reducible first | refine PW.seq ?_ | refine PW.block ?_ | refine PW.skip ?_ | refine PW.exit ?_ | refine PW.ret ?_ | refine thenP ?_ | refine thenP_exit ?_ | refine thenP_ret ?_ | refine blockP ?_ | refine blockP_exit ?_ | refine blockP_ret ?_ | refine loopP_exit ?_ | refine loopP_ret ?_) | ((with_reducible refine PWops.idd ?_) ; first | (first | refine PWops.stepA rfl ?_ | refine PWops.doneI rfl ?_ | refine PWops.boolK true rfl rfl rfl rfl (by (first | rfl | assumption | (simp only [decide_eq_true_eq, decide_eq_false_iff_not, bne_iff_ne, beq_iff_eq, beq_eq_false_iff_ne, bne_eq_false_iff_eq, ne_eq] ; omega))) rfl ?_ | refine PWops.boolK false rfl rfl rfl rfl (by (first | rfl | assumption | (simp only [decide_eq_true_eq, decide_eq_false_iff_not, bne_iff_ne, beq_iff_eq, beq_eq_false_iff_ne, bne_eq_false_iff_eq, ne_eq] ; omega))) rfl ?_ | refine PWops.fitsK rfl rfl rfl rfl (by omega) (by omega) rfl ?_ | refine PWops.remK rfl rfl rfl rfl (by omega) rfl ?_ | refine PWops.quoK rfl rfl rfl rfl (by omega) rfl ?_ | refine PWops.app rfl rfl rfl rfl rfl rfl rfl (by omega) (by omega) (by first | rfl | exact one_pint _ | exact one_pstr _ | exact one_pbyte _ | exact one_pattrs _) ?_ | refine PWops.app0 rfl rfl rfl rfl rfl rfl rfl (by omega) (by omega) (by first | rfl | exact one_pint _ | exact one_pstr _ | exact one_pbyte _ | exact one_pattrs _) ?_ | refine PWops.idx1 rfl rfl rfl rfl rfl rfl rfl rfl (by omega) ?_ | refine PWops.idx rfl rfl rfl rfl rfl rfl rfl rfl (by omega) ?_ | refine PWops.ld rfl rfl rfl rfl rfl rfl rfl (by assumption) rfl ?_ | refine PWops.ldA rfl rfl rfl rfl rfl rfl (by omega) (by assumption) ?_ | refine PWops.str rfl rfl rfl rfl rfl rfl rfl rfl rfl rfl rfl ?_) | (first | (refine PWops.call rfl rfl rfl (by assumption) ?_) | refine PWops.idxZ1 rfl rfl rfl rfl rfl rfl rfl rfl (by omega) ?_ | refine PWops.idxZ rfl rfl rfl rfl rfl rfl rfl rfl (by omega) ?_ | refine PWops.ld rfl rfl rfl rfl rfl rfl rfl rfl rfl ?_ | refine PWops.slcL rfl rfl rfl rfl rfl rfl rfl rfl (by omega) ?_ | refine PWops.slcH rfl rfl rfl rfl rfl rfl rfl rfl (by omega) ?_ | refine PWops.slcRL rfl rfl rfl rfl rfl rfl rfl rfl (by intro; rfl) (by omega) ?_ | refine PWops.slcRH rfl rfl rfl rfl rfl rfl rfl rfl (by intro; rfl) (by omega) ?_ | refine PWops.slcM rfl rfl rfl rfl rfl rfl rfl rfl rfl (by omega) ?_ | refine PWops.ldM rfl rfl rfl rfl rfl rfl rfl (by omega) rfl ?_ | refine PWops.ldR rfl rfl rfl rfl rfl rfl rfl (by intro; rfl) (by omega) rfl rfl ?_ | refine PWops.ldRA rfl rfl rfl rfl rfl rfl (by intro; rfl) (by omega) rfl ?_)) | (first | ((with_reducible refine PW.idd ?_) ; (first | refine PW.region typeTab_ok (by kernel_rfl) ?_ | refine PW.draw typeTab_ok (by kernel_rfl) (by kernel_rfl) (by kernel_rfl) ?_ | refine PW.condT rfl ?_ | refine PW.condF rfl ?_ | refine blockP_other (by decide) ?_)) | with_reducible refine blockP_other (by decide) ?_)))
      refine loopP (k + 1) (by omega) (by omega) ?_
      (exact Sub.drop (by (repeat (first | exact bot_b | with_reducible refine put_b ?_ | refine setb_b ?_ rfl))) (by (repeat (first | exact bot_c | with_reducible refine put_c ?_ | with_reducible refine setb_c ?_ (by first | assumption | exact hlow _ | (first | exact low_mapI | exact low_mapS | exact low_mapB | simp [low_val, low_nilsl, low_sl, low_ep, low_agg, low_tup, low_fn, low_pint, low_pstr, low_pbool, low_pints, low_pstrs, low_pbyte, low_pbytes, low_pattrs, low_pdefs, low_pschema, low_pentry]) | exact low_entCells _ | exact low_schCells _ | exact low_pdefL _ | exact low_pattrL _)))) (by (repeat (first | exact bot_l | with_reducible refine setb_l ?_ | with_reducible refine put_l ?_ (by first | (left; (first | exact low_mapI | exact low_mapS | exact low_mapB | simp [low_val, low_nilsl, low_sl, low_ep, low_agg, low_tup, low_fn, low_pint, low_pstr, low_pbool, low_pints, low_pstrs, low_pbyte, low_pbytes, low_pattrs, low_pdefs, low_pschema, low_pentry])) | exact .inr ⟨_, _, rfl, (by simp [PS.setb, PS.put, upd_if])⟩)))) (by (repeat (first | exact sub_bot | with_reducible refine setb_t ?_ | refine sub_put ?_ (.inl rfl) | refine sub_put ?_ (.inr (.inl rfl)) | refine sub_put ?_ (.inr (.inr ⟨_, _, rfl, rfl⟩))))))
    · have hver : entryE s { x with ver := 1 + (x.ver + 1) % 1073741824, owner := 1 + (x.owner + 1) % 1073741824 } = 0 := v3 _ _ (by omega) (by omega) (by omega) (by omega)
      have k3 := pcEntry s { x with ver := 1 + (x.ver + 1) % 1073741824, owner := 1 + (x.owner + 1) % 1073741824 } hS (by simp only; omega) (by simp only; omega)
      rw [entryA_E hk, hver] at k3
      (repeat ((with_reducible refine PWops.idd ?_) ; first | (first | refine PWops.stepA rfl ?_ | refine PWops.doneI rfl ?_ | refine PWops.boolK true rfl rfl rfl rfl (by (first | rfl | assumption | (simp only [decide_eq_true_eq, decide_eq_false_iff_not, bne_iff_ne, beq_iff_eq, beq_eq_false_iff_ne, bne_eq_false_iff_eq, ne_eq] ; omega))) rfl ?_ | refine PWops.boolK false rfl rfl rfl rfl (by (first | rfl | assumption | (simp only [decide_eq_true_eq, decide_eq_false_iff_not, bne_iff_ne, beq_iff_eq, beq_eq_false_iff_ne, bne_eq_false_iff_eq, ne_eq] ; omega))) rfl ?_ | refine PWops.fitsK rfl rfl rfl rfl (by omega) (by omega) rfl ?_ | refine PWops.remK rfl rfl rfl rfl (by omega) rfl ?_ | refine PWops.quoK rfl rfl rfl rfl (by omega) rfl ?_ | refine PWops.app rfl rfl rfl rfl rfl rfl rfl (by omega) (by omega) (by first | rfl | exact one_pint _ | exact one_pstr _ | exact one_pbyte _ | exact one_pattrs _) ?_ | refine PWops.app0 rfl rfl rfl rfl rfl rfl rfl (by omega) (by omega) (by first | rfl | exact one_pint _ | exact one_pstr _ | exact one_pbyte _ | exact one_pattrs _) ?_ | refine PWops.idx1 rfl rfl rfl rfl rfl rfl rfl rfl (by omega) ?_ | refine PWops.idx rfl rfl rfl rfl rfl rfl rfl rfl (by omega) ?_ | refine PWops.ld rfl rfl rfl rfl rfl rfl rfl (by assumption) rfl ?_ | refine PWops.ldA rfl rfl rfl rfl rfl rfl (by omega) (by assumption) ?_ | refine PWops.str rfl rfl rfl rfl rfl rfl rfl rfl rfl rfl rfl ?_) | (first | (refine PWops.call rfl rfl rfl (by assumption) ?_) | refine PWops.idxZ1 rfl rfl rfl rfl rfl rfl rfl rfl (by omega) ?_ | refine PWops.idxZ rfl rfl rfl rfl rfl rfl rfl rfl (by omega) ?_ | refine PWops.ld rfl rfl rfl rfl rfl rfl rfl rfl rfl ?_ | refine PWops.slcL rfl rfl rfl rfl rfl rfl rfl rfl (by omega) ?_ | refine PWops.slcH rfl rfl rfl rfl rfl rfl rfl rfl (by omega) ?_ | refine PWops.slcRL rfl rfl rfl rfl rfl rfl rfl rfl (by intro; rfl) (by omega) ?_ | refine PWops.slcRH rfl rfl rfl rfl rfl rfl rfl rfl (by intro; rfl) (by omega) ?_ | refine PWops.slcM rfl rfl rfl rfl rfl rfl rfl rfl rfl (by omega) ?_ | refine PWops.ldM rfl rfl rfl rfl rfl rfl rfl (by omega) rfl ?_ | refine PWops.ldR rfl rfl rfl rfl rfl rfl rfl (by intro; rfl) (by omega) rfl rfl ?_ | refine PWops.ldRA rfl rfl rfl rfl rfl rfl (by intro; rfl) (by omega) rfl ?_))) ; (repeat (first | (with_reducible first | refine PW.seq ?_ | refine PW.block ?_ | refine PW.skip ?_ | refine PW.exit ?_ | refine PW.ret ?_ | refine thenP ?_ | refine thenP_exit ?_ | refine thenP_ret ?_ | refine blockP ?_ | refine blockP_exit ?_ | refine blockP_ret ?_ | refine loopP_exit ?_ | refine loopP_ret ?_) | (first | ((with_reducible refine PW.idd ?_) ; (first | refine PW.condT rfl ?_ | refine PW.condF rfl ?_ | refine blockP_other (by decide) ?_)) | with_reducible refine blockP_other (by decide) ?_)))
      refine PW.region typeTab_ok (by kernel_rfl) ?_
      (repeat ((with_reducible refine PWops.idd ?_) ; first | (first | refine PWops.stepA rfl ?_ | refine PWops.doneI rfl ?_ | refine PWops.boolK true rfl rfl rfl rfl (by (first | rfl | assumption | (simp only [decide_eq_true_eq, decide_eq_false_iff_not, bne_iff_ne, beq_iff_eq, beq_eq_false_iff_ne, bne_eq_false_iff_eq, ne_eq] ; omega))) rfl ?_ | refine PWops.boolK false rfl rfl rfl rfl (by (first | rfl | assumption | (simp only [decide_eq_true_eq, decide_eq_false_iff_not, bne_iff_ne, beq_iff_eq, beq_eq_false_iff_ne, bne_eq_false_iff_eq, ne_eq] ; omega))) rfl ?_ | refine PWops.fitsK rfl rfl rfl rfl (by omega) (by omega) rfl ?_ | refine PWops.remK rfl rfl rfl rfl (by omega) rfl ?_ | refine PWops.quoK rfl rfl rfl rfl (by omega) rfl ?_ | refine PWops.app rfl rfl rfl rfl rfl rfl rfl (by omega) (by omega) (by first | rfl | exact one_pint _ | exact one_pstr _ | exact one_pbyte _ | exact one_pattrs _) ?_ | refine PWops.app0 rfl rfl rfl rfl rfl rfl rfl (by omega) (by omega) (by first | rfl | exact one_pint _ | exact one_pstr _ | exact one_pbyte _ | exact one_pattrs _) ?_ | refine PWops.idx1 rfl rfl rfl rfl rfl rfl rfl rfl (by omega) ?_ | refine PWops.idx rfl rfl rfl rfl rfl rfl rfl rfl (by omega) ?_ | refine PWops.ld rfl rfl rfl rfl rfl rfl rfl (by assumption) rfl ?_ | refine PWops.ldA rfl rfl rfl rfl rfl rfl (by omega) (by assumption) ?_ | refine PWops.str rfl rfl rfl rfl rfl rfl rfl rfl rfl rfl rfl ?_) | (first | (refine PWops.call rfl rfl rfl (by assumption) ?_) | refine PWops.idxZ1 rfl rfl rfl rfl rfl rfl rfl rfl (by omega) ?_ | refine PWops.idxZ rfl rfl rfl rfl rfl rfl rfl rfl (by omega) ?_ | refine PWops.ld rfl rfl rfl rfl rfl rfl rfl rfl rfl ?_ | refine PWops.slcL rfl rfl rfl rfl rfl rfl rfl rfl (by omega) ?_ | refine PWops.slcH rfl rfl rfl rfl rfl rfl rfl rfl (by omega) ?_ | refine PWops.slcRL rfl rfl rfl rfl rfl rfl rfl rfl (by intro; rfl) (by omega) ?_ | refine PWops.slcRH rfl rfl rfl rfl rfl rfl rfl rfl (by intro; rfl) (by omega) ?_ | refine PWops.slcM rfl rfl rfl rfl rfl rfl rfl rfl rfl (by omega) ?_ | refine PWops.ldM rfl rfl rfl rfl rfl rfl rfl (by omega) rfl ?_ | refine PWops.ldR rfl rfl rfl rfl rfl rfl rfl (by intro; rfl) (by omega) rfl rfl ?_ | refine PWops.ldRA rfl rfl rfl rfl rfl rfl (by intro; rfl) (by omega) rfl ?_))) ; (repeat (first | (with_reducible first | refine PW.seq ?_ | refine PW.block ?_ | refine PW.skip ?_ | refine PW.exit ?_ | refine PW.ret ?_ | refine thenP ?_ | refine thenP_exit ?_ | refine thenP_ret ?_ | refine blockP ?_ | refine blockP_exit ?_ | refine blockP_ret ?_ | refine loopP_exit ?_ | refine loopP_ret ?_) | (first | ((with_reducible refine PW.idd ?_) ; (first | refine PW.condT rfl ?_ | refine PW.condF rfl ?_ | refine blockP_other (by decide) ?_)) | with_reducible refine blockP_other (by decide) ?_)))
      refine PW.region typeTab_ok (by kernel_rfl) ?_
      (repeat ((with_reducible refine PWops.idd ?_) ; first | (first | refine PWops.stepA rfl ?_ | refine PWops.doneI rfl ?_ | refine PWops.boolK true rfl rfl rfl rfl (by (first | rfl | assumption | (simp only [decide_eq_true_eq, decide_eq_false_iff_not, bne_iff_ne, beq_iff_eq, beq_eq_false_iff_ne, bne_eq_false_iff_eq, ne_eq] ; omega))) rfl ?_ | refine PWops.boolK false rfl rfl rfl rfl (by (first | rfl | assumption | (simp only [decide_eq_true_eq, decide_eq_false_iff_not, bne_iff_ne, beq_iff_eq, beq_eq_false_iff_ne, bne_eq_false_iff_eq, ne_eq] ; omega))) rfl ?_ | refine PWops.fitsK rfl rfl rfl rfl (by omega) (by omega) rfl ?_ | refine PWops.remK rfl rfl rfl rfl (by omega) rfl ?_ | refine PWops.quoK rfl rfl rfl rfl (by omega) rfl ?_ | refine PWops.app rfl rfl rfl rfl rfl rfl rfl (by omega) (by omega) (by first | rfl | exact one_pint _ | exact one_pstr _ | exact one_pbyte _ | exact one_pattrs _) ?_ | refine PWops.app0 rfl rfl rfl rfl rfl rfl rfl (by omega) (by omega) (by first | rfl | exact one_pint _ | exact one_pstr _ | exact one_pbyte _ | exact one_pattrs _) ?_ | refine PWops.idx1 rfl rfl rfl rfl rfl rfl rfl rfl (by omega) ?_ | refine PWops.idx rfl rfl rfl rfl rfl rfl rfl rfl (by omega) ?_ | refine PWops.ld rfl rfl rfl rfl rfl rfl rfl (by assumption) rfl ?_ | refine PWops.ldA rfl rfl rfl rfl rfl rfl (by omega) (by assumption) ?_ | refine PWops.str rfl rfl rfl rfl rfl rfl rfl rfl rfl rfl rfl ?_) | (first | (refine PWops.call rfl rfl rfl (by assumption) ?_) | refine PWops.idxZ1 rfl rfl rfl rfl rfl rfl rfl rfl (by omega) ?_ | refine PWops.idxZ rfl rfl rfl rfl rfl rfl rfl rfl (by omega) ?_ | refine PWops.ld rfl rfl rfl rfl rfl rfl rfl rfl rfl ?_ | refine PWops.slcL rfl rfl rfl rfl rfl rfl rfl rfl (by omega) ?_ | refine PWops.slcH rfl rfl rfl rfl rfl rfl rfl rfl (by omega) ?_ | refine PWops.slcRL rfl rfl rfl rfl rfl rfl rfl rfl (by intro; rfl) (by omega) ?_ | refine PWops.slcRH rfl rfl rfl rfl rfl rfl rfl rfl (by intro; rfl) (by omega) ?_ | refine PWops.slcM rfl rfl rfl rfl rfl rfl rfl rfl rfl (by omega) ?_ | refine PWops.ldM rfl rfl rfl rfl rfl rfl rfl (by omega) rfl ?_ | refine PWops.ldR rfl rfl rfl rfl rfl rfl rfl (by intro; rfl) (by omega) rfl rfl ?_ | refine PWops.ldRA rfl rfl rfl rfl rfl rfl (by intro; rfl) (by omega) rfl ?_))) ; (repeat (first | (with_reducible first | refine PW.seq ?_ | refine PW.block ?_ | refine PW.skip ?_ | refine PW.exit ?_ | refine PW.ret ?_ | refine thenP ?_ | refine thenP_exit ?_ | refine thenP_ret ?_ | refine blockP ?_ | refine blockP_exit ?_ | refine blockP_ret ?_ | refine loopP_exit ?_ | refine loopP_ret ?_) | (first | ((with_reducible refine PW.idd ?_) ; (first | refine PW.condT rfl ?_ | refine PW.condF rfl ?_ | refine blockP_other (by decide) ?_)) | with_reducible refine blockP_other (by decide) ?_)))
      refine PW.drawE typeTab_ok (by kernel_rfl) (by kernel_rfl) (by kernel_rfl) ?_
      (repeat (first | (with_reducible first | refine PW.seq ?_ | refine PW.block ?_ | refine PW.skip ?_ | refine PW.exit ?_ | refine PW.ret ?_ | refine thenP ?_ | refine thenP_exit ?_ | refine thenP_ret ?_ | refine blockP ?_ | refine blockP_exit ?_ | refine blockP_ret ?_ | refine loopP_exit ?_ | refine loopP_ret ?_) | ((with_reducible refine PWops.idd ?_) ; first | (first | refine PWops.stepA rfl ?_ | refine PWops.doneI rfl ?_ | refine PWops.boolK true rfl rfl rfl rfl (by (first | rfl | assumption | (simp only [decide_eq_true_eq, decide_eq_false_iff_not, bne_iff_ne, beq_iff_eq, beq_eq_false_iff_ne, bne_eq_false_iff_eq, ne_eq] ; omega))) rfl ?_ | refine PWops.boolK false rfl rfl rfl rfl (by (first | rfl | assumption | (simp only [decide_eq_true_eq, decide_eq_false_iff_not, bne_iff_ne, beq_iff_eq, beq_eq_false_iff_ne, bne_eq_false_iff_eq, ne_eq] ; omega))) rfl ?_ | refine PWops.fitsK rfl rfl rfl rfl (by omega) (by omega) rfl ?_ | refine PWops.remK rfl rfl rfl rfl (by omega) rfl ?_ | refine PWops.quoK rfl rfl rfl rfl (by omega) rfl ?_ | refine PWops.app rfl rfl rfl rfl rfl rfl rfl (by omega) (by omega) (by first | rfl | exact one_pint _ | exact one_pstr _ | exact one_pbyte _ | exact one_pattrs _) ?_ | refine PWops.app0 rfl rfl rfl rfl rfl rfl rfl (by omega) (by omega) (by first | rfl | exact one_pint _ | exact one_pstr _ | exact one_pbyte _ | exact one_pattrs _) ?_ | refine PWops.idx1 rfl rfl rfl rfl rfl rfl rfl rfl (by omega) ?_ | refine PWops.idx rfl rfl rfl rfl rfl rfl rfl rfl (by omega) ?_ | refine PWops.ld rfl rfl rfl rfl rfl rfl rfl (by assumption) rfl ?_ | refine PWops.ldA rfl rfl rfl rfl rfl rfl (by omega) (by assumption) ?_ | refine PWops.str rfl rfl rfl rfl rfl rfl rfl rfl rfl rfl rfl ?_) | (first | (refine PWops.call rfl rfl rfl (by assumption) ?_) | refine PWops.idxZ1 rfl rfl rfl rfl rfl rfl rfl rfl (by omega) ?_ | refine PWops.idxZ rfl rfl rfl rfl rfl rfl rfl rfl (by omega) ?_ | refine PWops.ld rfl rfl rfl rfl rfl rfl rfl rfl rfl ?_ | refine PWops.slcL rfl rfl rfl rfl rfl rfl rfl rfl (by omega) ?_ | refine PWops.slcH rfl rfl rfl rfl rfl rfl rfl rfl (by omega) ?_ | refine PWops.slcRL rfl rfl rfl rfl rfl rfl rfl rfl (by intro; rfl) (by omega) ?_ | refine PWops.slcRH rfl rfl rfl rfl rfl rfl rfl rfl (by intro; rfl) (by omega) ?_ | refine PWops.slcM rfl rfl rfl rfl rfl rfl rfl rfl rfl (by omega) ?_ | refine PWops.ldM rfl rfl rfl rfl rfl rfl rfl (by omega) rfl ?_ | refine PWops.ldR rfl rfl rfl rfl rfl rfl rfl (by intro; rfl) (by omega) rfl rfl ?_ | refine PWops.ldRA rfl rfl rfl rfl rfl rfl (by intro; rfl) (by omega) rfl ?_)) | (first | ((with_reducible refine PW.idd ?_) ; (first | refine PW.region typeTab_ok (by kernel_rfl) ?_ | refine PW.draw typeTab_ok (by kernel_rfl) (by kernel_rfl) (by kernel_rfl) ?_ | refine PW.condT rfl ?_ | refine PW.condF rfl ?_ | refine blockP_other (by decide) ?_)) | with_reducible refine blockP_other (by decide) ?_)))
      by_cases h0 : x.attrs.length = 0
      · (repeat (first | (with_reducible first | refine PW.seq ?_ | refine PW.block ?_ | refine PW.skip ?_ | refine PW.exit ?_ | refine PW.ret ?_ | refine thenP ?_ | refine thenP_exit ?_ | refine thenP_ret ?_ | refine blockP ?_ | refine blockP_exit ?_ | refine blockP_ret ?_ | refine loopP_exit ?_ | refine loopP_ret ?_) | ((with_reducible refine PWops.idd ?_) ; first | (first | refine PWops.stepA rfl ?_ | refine PWops.doneI rfl ?_ | refine PWops.boolK true rfl rfl rfl rfl (by (first | rfl | assumption | (simp only [decide_eq_true_eq, decide_eq_false_iff_not, bne_iff_ne, beq_iff_eq, beq_eq_false_iff_ne, bne_eq_false_iff_eq, ne_eq] ; omega))) rfl ?_ | refine PWops.boolK false rfl rfl rfl rfl (by (first | rfl | assumption | (simp only [decide_eq_true_eq, decide_eq_false_iff_not, bne_iff_ne, beq_iff_eq, beq_eq_false_iff_ne, bne_eq_false_iff_eq, ne_eq] ; omega))) rfl ?_ | refine PWops.fitsK rfl rfl rfl rfl (by omega) (by omega) rfl ?_ | refine PWops.remK rfl rfl rfl rfl (by omega) rfl ?_ | refine PWops.quoK rfl rfl rfl rfl (by omega) rfl ?_ | refine PWops.app rfl rfl rfl rfl rfl rfl rfl (by omega) (by omega) (by first | rfl | exact one_pint _ | exact one_pstr _ | exact one_pbyte _ | exact one_pattrs _) ?_ | refine PWops.app0 rfl rfl rfl rfl rfl rfl rfl (by omega) (by omega) (by first | rfl | exact one_pint _ | exact one_pstr _ | exact one_pbyte _ | exact one_pattrs _) ?_ | refine PWops.idx1 rfl rfl rfl rfl rfl rfl rfl rfl (by omega) ?_ | refine PWops.idx rfl rfl rfl rfl rfl rfl rfl rfl (by omega) ?_ | refine PWops.ld rfl rfl rfl rfl rfl rfl rfl (by assumption) rfl ?_ | refine PWops.ldA rfl rfl rfl rfl rfl rfl (by omega) (by assumption) ?_ | refine PWops.str rfl rfl rfl rfl rfl rfl rfl rfl rfl rfl rfl ?_) | (first | (refine PWops.call rfl rfl rfl (by assumption) ?_) | refine PWops.idxZ1 rfl rfl rfl rfl rfl rfl rfl rfl (by omega) ?_ | refine PWops.idxZ rfl rfl rfl rfl rfl rfl rfl rfl (by omega) ?_ | refine PWops.ld rfl rfl rfl rfl rfl rfl rfl rfl rfl ?_ | refine PWops.slcL rfl rfl rfl rfl rfl rfl rfl rfl (by omega) ?_ | refine PWops.slcH rfl rfl rfl rfl rfl rfl rfl rfl (by omega) ?_ | refine PWops.slcRL rfl rfl rfl rfl rfl rfl rfl rfl (by intro; rfl) (by omega) ?_ | refine PWops.slcRH rfl rfl rfl rfl rfl rfl rfl rfl (by intro; rfl) (by omega) ?_ | refine PWops.slcM rfl rfl rfl rfl rfl rfl rfl rfl rfl (by omega) ?_ | refine PWops.ldM rfl rfl rfl rfl rfl rfl rfl (by omega) rfl ?_ | refine PWops.ldR rfl rfl rfl rfl rfl rfl rfl (by intro; rfl) (by omega) rfl rfl ?_ | refine PWops.ldRA rfl rfl rfl rfl rfl rfl (by intro; rfl) (by omega) rfl ?_)) | (first | ((with_reducible refine PW.idd ?_) ; (first | refine PW.region typeTab_ok (by kernel_rfl) ?_ | refine PW.draw typeTab_ok (by kernel_rfl) (by kernel_rfl) (by kernel_rfl) ?_ | refine PW.condT rfl ?_ | refine PW.condF rfl ?_ | refine blockP_other (by decide) ?_)) | with_reducible refine blockP_other (by decide) ?_)))
        exact retP rfl (by (first | exact low_mapI | exact low_mapS | exact low_mapB | simp [low_val, low_nilsl, low_sl, low_ep, low_agg, low_tup, low_fn, low_pint, low_pstr, low_pbool, low_pints, low_pstrs, low_pbyte, low_pbytes, low_pattrs, low_pdefs, low_pschema, low_pentry])) rfl
      (repeat (first | (with_reducible first | refine PW.seq ?_ | refine PW.block ?_ | refine PW.skip ?_ | refine PW.exit ?_ | refine PW.ret ?_ | refine thenP ?_ | refine thenP_exit ?_ | refine thenP_ret ?_ | refine blockP ?_ | refine blockP_exit ?_ | refine blockP_ret ?_ | refine loopP_exit ?_ | refine loopP_ret ?_) | ((with_reducible refine PWops.idd ?_) ; first | (first | refine PWops.stepA rfl ?_ | refine PWops.doneI rfl ?_ | refine PWops.boolK true rfl rfl rfl rfl (by (first | rfl | assumption | (simp only [decide_eq_true_eq, decide_eq_false_iff_not, bne_iff_ne, beq_iff_eq, beq_eq_false_iff_ne, bne_eq_false_iff_eq, ne_eq] ; omega))) rfl ?_ | refine PWops.boolK false rfl rfl rfl rfl (by (first | rfl | assumption | (simp only [decide_eq_true_eq, decide_eq_false_iff_not, bne_iff_ne, beq_iff_eq, beq_eq_false_iff_ne, bne_eq_false_iff_eq, ne_eq] ; omega))) rfl ?_ | refine PWops.fitsK rfl rfl rfl rfl (by omega) (by omega) rfl ?_ | refine PWops.remK rfl rfl rfl rfl (by omega) rfl ?_ | refine PWops.quoK rfl rfl rfl rfl (by omega) rfl ?_ | refine PWops.app rfl rfl rfl rfl rfl rfl rfl (by omega) (by omega) (by first | rfl | exact one_pint _ | exact one_pstr _ | exact one_pbyte _ | exact one_pattrs _) ?_ | refine PWops.app0 rfl rfl rfl rfl rfl rfl rfl (by omega) (by omega) (by first | rfl | exact one_pint _ | exact one_pstr _ | exact one_pbyte _ | exact one_pattrs _) ?_ | refine PWops.idx1 rfl rfl rfl rfl rfl rfl rfl rfl (by omega) ?_ | refine PWops.idx rfl rfl rfl rfl rfl rfl rfl rfl (by omega) ?_ | refine PWops.ld rfl rfl rfl rfl rfl rfl rfl (by assumption) rfl ?_ | refine PWops.ldA rfl rfl rfl rfl rfl rfl (by omega) (by assumption) ?_ | refine PWops.str rfl rfl rfl rfl rfl rfl rfl rfl rfl rfl rfl ?_) | (first | (refine PWops.call rfl rfl rfl (by assumption) ?_) | refine PWops.idxZ1 rfl rfl rfl rfl rfl rfl rfl rfl (by omega) ?_ | refine PWops.idxZ rfl rfl rfl rfl rfl rfl rfl rfl (by omega) ?_ | refine PWops.ld rfl rfl rfl rfl rfl rfl rfl rfl rfl ?_ | refine PWops.slcL rfl rfl rfl rfl rfl rfl rfl rfl (by omega) ?_ | refine PWops.slcH rfl rfl rfl rfl rfl rfl rfl rfl (by omega) ?_ | refine PWops.slcRL rfl rfl rfl rfl rfl rfl rfl rfl (by intro; rfl) (by omega) ?_ | refine PWops.slcRH rfl rfl rfl rfl rfl rfl rfl rfl (by intro; rfl) (by omega) ?_ | refine PWops.slcM rfl rfl rfl rfl rfl rfl rfl rfl rfl (by omega) ?_ | refine PWops.ldM rfl rfl rfl rfl rfl rfl rfl (by omega) rfl ?_ | refine PWops.ldR rfl rfl rfl rfl rfl rfl rfl (by intro; rfl) (by omega) rfl rfl ?_ | refine PWops.ldRA rfl rfl rfl rfl rfl rfl (by intro; rfl) (by omega) rfl ?_)) | (first | ((with_reducible refine PW.idd ?_) ; (first | refine PW.region typeTab_ok (by kernel_rfl) ?_ | refine PW.draw typeTab_ok (by kernel_rfl) (by kernel_rfl) (by kernel_rfl) ?_ | refine PW.condT rfl ?_ | refine PW.condF rfl ?_ | refine blockP_other (by decide) ?_)) | with_reducible refine blockP_other (by decide) ?_)))
      rw [show IntKind.i64.wrap place = place from wrap64_id (by omega) (by omega)]
      (repeat (first | (with_reducible first | refine PW.seq ?_ | refine PW.block ?_ | refine PW.skip ?_ | refine PW.exit ?_ | refine PW.ret ?_ | refine thenP ?_ | refine thenP_exit ?_ | refine thenP_ret ?_ | refine blockP ?_ | refine blockP_exit ?_ | refine blockP_ret ?_ | refine loopP_exit ?_ | refine loopP_ret ?_) | ((with_reducible refine PWops.idd ?_) ; first | (first | refine PWops.stepA rfl ?_ | refine PWops.doneI rfl ?_ | refine PWops.boolK true rfl rfl rfl rfl (by (first | rfl | assumption | (simp only [decide_eq_true_eq, decide_eq_false_iff_not, bne_iff_ne, beq_iff_eq, beq_eq_false_iff_ne, bne_eq_false_iff_eq, ne_eq] ; omega))) rfl ?_ | refine PWops.boolK false rfl rfl rfl rfl (by (first | rfl | assumption | (simp only [decide_eq_true_eq, decide_eq_false_iff_not, bne_iff_ne, beq_iff_eq, beq_eq_false_iff_ne, bne_eq_false_iff_eq, ne_eq] ; omega))) rfl ?_ | refine PWops.fitsK rfl rfl rfl rfl (by omega) (by omega) rfl ?_ | refine PWops.remK rfl rfl rfl rfl (by omega) rfl ?_ | refine PWops.quoK rfl rfl rfl rfl (by omega) rfl ?_ | refine PWops.app rfl rfl rfl rfl rfl rfl rfl (by omega) (by omega) (by first | rfl | exact one_pint _ | exact one_pstr _ | exact one_pbyte _ | exact one_pattrs _) ?_ | refine PWops.app0 rfl rfl rfl rfl rfl rfl rfl (by omega) (by omega) (by first | rfl | exact one_pint _ | exact one_pstr _ | exact one_pbyte _ | exact one_pattrs _) ?_ | refine PWops.idx1 rfl rfl rfl rfl rfl rfl rfl rfl (by omega) ?_ | refine PWops.idx rfl rfl rfl rfl rfl rfl rfl rfl (by omega) ?_ | refine PWops.ld rfl rfl rfl rfl rfl rfl rfl (by assumption) rfl ?_ | refine PWops.ldA rfl rfl rfl rfl rfl rfl (by omega) (by assumption) ?_ | refine PWops.str rfl rfl rfl rfl rfl rfl rfl rfl rfl rfl rfl ?_) | (first | (refine PWops.call rfl rfl rfl (by assumption) ?_) | refine PWops.idxZ1 rfl rfl rfl rfl rfl rfl rfl rfl (by omega) ?_ | refine PWops.idxZ rfl rfl rfl rfl rfl rfl rfl rfl (by omega) ?_ | refine PWops.ld rfl rfl rfl rfl rfl rfl rfl rfl rfl ?_ | refine PWops.slcL rfl rfl rfl rfl rfl rfl rfl rfl (by omega) ?_ | refine PWops.slcH rfl rfl rfl rfl rfl rfl rfl rfl (by omega) ?_ | refine PWops.slcRL rfl rfl rfl rfl rfl rfl rfl rfl (by intro; rfl) (by omega) ?_ | refine PWops.slcRH rfl rfl rfl rfl rfl rfl rfl rfl (by intro; rfl) (by omega) ?_ | refine PWops.slcM rfl rfl rfl rfl rfl rfl rfl rfl rfl (by omega) ?_ | refine PWops.ldM rfl rfl rfl rfl rfl rfl rfl (by omega) rfl ?_ | refine PWops.ldR rfl rfl rfl rfl rfl rfl rfl (by intro; rfl) (by omega) rfl rfl ?_ | refine PWops.ldRA rfl rfl rfl rfl rfl rfl (by intro; rfl) (by omega) rfl ?_)) | (first | ((with_reducible refine PW.idd ?_) ; (first | refine PW.region typeTab_ok (by kernel_rfl) ?_ | refine PW.draw typeTab_ok (by kernel_rfl) (by kernel_rfl) (by kernel_rfl) ?_ | refine PW.condT rfl ?_ | refine PW.condF rfl ?_ | refine blockP_other (by decide) ?_)) | with_reducible refine blockP_other (by decide) ?_)))
      refine PWops.remG rfl rfl rfl rfl rfl (by omega) rfl ?_
      have hm1 : 0 ≤ place % (x.attrs.length : Int) := Int.emod_nonneg _ (by omega)
      have hm2 : place % (x.attrs.length : Int) < x.attrs.length := Int.emod_lt_of_pos _ (by omega)
      generalize place % (x.attrs.length : Int) = z at hm1 hm2 ⊢
      obtain ⟨j, rfl⟩ : ∃ j : Nat, z = j := ⟨z.toNat, by omega⟩
      obtain ⟨a, ha⟩ := ints_get x.attrs j (by omega)
      have hn1 : ((j : Int) + 1).toNat = j + 1 := by omega
      have l1 : (x.attrs.take (j : Int).toNat).length = j := by rw [List.length_take]; omega
      have l2 : (x.attrs.drop ((j : Int) + 1).toNat).length = x.attrs.length - (j + 1) := by rw [List.length_drop]; omega
      have l3 : (x.attrs.take ((j : Int) + 1).toNat).length = j + 1 := by rw [List.length_take]; omega
      have l4 : (x.attrs.drop (j : Int).toNat).length = x.attrs.length - j := by rw [List.length_drop]; omega
      have fr := flatMap_len (f := pattrL) (k := 4) (fun _ => rfl) x.attrs
      obtain ⟨q0, q1, q2, q3⟩ := attr_cell ha
      have e1 : PV.sl (0 + (x.attrs.take (j : Int).toNat).length + (x.attrs.drop ((j : Int) + 1).toNat).length) 4 ([] ++ (x.attrs.take (j : Int).toNat).flatMap pattrL ++ (x.attrs.drop ((j : Int) + 1).toNat).flatMap pattrL) none = pattrs (x.attrs.take j ++ x.attrs.drop (j + 1)) := by
        rw [hn1]
        exact sl_eq (by simp) (by simp)
      have e2 : PV.sl (0 + (x.attrs.take ((j : Int) + 1).toNat).length + (x.attrs.drop (j : Int).toNat).length) 4 ([] ++ (x.attrs.take ((j : Int) + 1).toNat).flatMap pattrL ++ (x.attrs.drop (j : Int).toNat).flatMap pattrL) none = pattrs (x.attrs.take (j + 1) ++ x.attrs.drop j) := by
        rw [hn1]
        exact sl_eq (by simp) (by simp)
      have f1 := pcFits s (x.attrs.take j ++ x.attrs.drop (j + 1)) hS (by simp; omega)
      have f2 := pcFits s (x.attrs.take (j + 1) ++ x.attrs.drop j) hS (by simp; omega)
      have f3 := pcGet (x.attrs.take j ++ x.attrs.drop (j + 1)) a.name (by simp; omega)
      rw [fits_less hfit j, ← e1] at f1
      rw [fits_twice hfit ha, ← e2] at f2
      rw [get_less hfit ha, ← e1] at f3
      (repeat (first | (with_reducible first | refine PW.seq ?_ | refine PW.block ?_ | refine PW.skip ?_ | refine PW.exit ?_ | refine PW.ret ?_ | refine thenP ?_ | refine thenP_exit ?_ | refine thenP_ret ?_ | refine blockP ?_ | refine blockP_exit ?_ | refine blockP_ret ?_ | refine loopP_exit ?_ | refine loopP_ret ?_) | ((with_reducible refine PWops.idd ?_) ; first | (first | refine PWops.stepA rfl ?_ | refine PWops.doneI rfl ?_ | refine PWops.boolK true rfl rfl rfl rfl (by (first | rfl | assumption | (simp only [decide_eq_true_eq, decide_eq_false_iff_not, bne_iff_ne, beq_iff_eq, beq_eq_false_iff_ne, bne_eq_false_iff_eq, ne_eq] ; omega))) rfl ?_ | refine PWops.boolK false rfl rfl rfl rfl (by (first | rfl | assumption | (simp only [decide_eq_true_eq, decide_eq_false_iff_not, bne_iff_ne, beq_iff_eq, beq_eq_false_iff_ne, bne_eq_false_iff_eq, ne_eq] ; omega))) rfl ?_ | refine PWops.fitsK rfl rfl rfl rfl (by omega) (by omega) rfl ?_ | refine PWops.remK rfl rfl rfl rfl (by omega) rfl ?_ | refine PWops.quoK rfl rfl rfl rfl (by omega) rfl ?_ | refine PWops.app rfl rfl rfl rfl rfl rfl rfl (by omega) (by omega) (by first | rfl | exact one_pint _ | exact one_pstr _ | exact one_pbyte _ | exact one_pattrs _) ?_ | refine PWops.app0 rfl rfl rfl rfl rfl rfl rfl (by omega) (by omega) (by first | rfl | exact one_pint _ | exact one_pstr _ | exact one_pbyte _ | exact one_pattrs _) ?_ | refine PWops.idx1 rfl rfl rfl rfl rfl rfl rfl rfl (by omega) ?_ | refine PWops.idx rfl rfl rfl rfl rfl rfl rfl rfl (by omega) ?_ | refine PWops.ld rfl rfl rfl rfl rfl rfl rfl (by assumption) rfl ?_ | refine PWops.ldA rfl rfl rfl rfl rfl rfl (by omega) (by assumption) ?_ | refine PWops.str rfl rfl rfl rfl rfl rfl rfl rfl rfl rfl rfl ?_) | (first | (refine PWops.call rfl rfl rfl (by assumption) ?_) | refine PWops.idxZ1 rfl rfl rfl rfl rfl rfl rfl rfl (by omega) ?_ | refine PWops.idxZ rfl rfl rfl rfl rfl rfl rfl rfl (by omega) ?_ | refine PWops.ld rfl rfl rfl rfl rfl rfl rfl rfl rfl ?_ | refine PWops.slcL rfl rfl rfl rfl rfl rfl rfl rfl (by omega) ?_ | refine PWops.slcH rfl rfl rfl rfl rfl rfl rfl rfl (by omega) ?_ | refine PWops.slcRL rfl rfl rfl rfl rfl rfl rfl rfl (by intro; rfl) (by omega) ?_ | refine PWops.slcRH rfl rfl rfl rfl rfl rfl rfl rfl (by intro; rfl) (by omega) ?_ | refine PWops.slcM rfl rfl rfl rfl rfl rfl rfl rfl rfl (by omega) ?_ | refine PWops.ldM rfl rfl rfl rfl rfl rfl rfl (by omega) rfl ?_ | refine PWops.ldR rfl rfl rfl rfl rfl rfl rfl (by intro; rfl) (by omega) rfl rfl ?_ | refine PWops.ldRA rfl rfl rfl rfl rfl rfl (by intro; rfl) (by omega) rfl ?_)) | (first | ((with_reducible refine PW.idd ?_) ; (first | refine PW.region typeTab_ok (by kernel_rfl) ?_ | refine PW.draw typeTab_ok (by kernel_rfl) (by kernel_rfl) (by kernel_rfl) ?_ | refine PW.condT rfl ?_ | refine PW.condF rfl ?_ | refine blockP_other (by decide) ?_)) | with_reducible refine blockP_other (by decide) ?_)))
      exact retP rfl (by (first | exact low_mapI | exact low_mapS | exact low_mapB | simp [low_val, low_nilsl, low_sl, low_ep, low_agg, low_tup, low_fn, low_pint, low_pstr, low_pbool, low_pints, low_pstrs, low_pbyte, low_pbytes, low_pattrs, low_pdefs, low_pschema, low_pentry])) rfl
end Go.Proofs.Ytnjopfjmepbpoaa

/- Proved here: antiquarylaw13.AttrPartsFit returns true for every input, and leaves its arguments as they were. No conditions. -/
namespace Go.Proofs.Ytnjopfjmepbpoaa
set_option linter.unusedSimpArgs false
set_option linter.unusedVariables false
set_option linter.unnecessarySimpa false
open Go.ChangeShapes Go.WideShapes Go.ChangeAt Go.RowKit

set_option maxRecDepth 100000 in
theorem parts_lifted (os : Os) (started : os.Started) (H : Type) (enc : TypeId × Value → H) :
    ReturnsInHanded {} Try.checked os 5 .any (Rows.attrPartsFitSpec.pre6 enc Try.prog Try.f5 Rows.attrPartsFitRow.domain false) (Rows.attrPartsFitSpec.post enc Try.prog Try.f5 false true false false) := by
  refine law_lifted os started H enc Try.func5 (by kernel_rfl)
    (ChangeSpec.witness6 (enc := enc) (C := Try.checked) false ⟨#[], #[.agg #[.int .i64 0, .int .i64 0, .slice none 0 0], .agg #[.int .i64 0, .int .i64 0, .int .i64 0, .int .i64 0, .int .i64 0, .int .i64 0, .int .i64 0, .slice none 0 0, .slice none 0 0], .int .u8 0], []⟩ 8 (by kernel_rfl) (by kernel_rfl) (by kernel_rfl) (by kernel_rfl))
    Try.underlying4 rfl rfl (by kernel_rfl) (fun ds hd => ?_)
    (argsOpen_cons argSchema (argsOpen_cons argEntry (argsOpen_cons argByte argsOpen_nil))) (fun y hy => ?_)
  · match ds, hd with
    | [d1, d2, d3], _ => exact ⟨rfl, rfl, rfl⟩
  · obtain ⟨s, x, p, u⟩ := y
    obtain ⟨hs, hx, hp, -⟩ := hy
    have e := reach_eq
    simp only at hs hx hp
    have s1 := hs.len
    have x1 := hx.vec
    have x2 := hx.attrs
    exact pw_parts s x p (by omega) (fun d hd => by have := (hs.defs d hd).2.2.2; omega) (by omega) (by omega) hp

theorem parts_holds : Rows.AttrPartsFitSaid :=
  OpenClaim.holds_of_wide 5 Try.f5 rfl rfl rfl rfl rfl rfl rfl ⟨rfl, rfl, rfl, rfl, rfl⟩ rfl rfl rfl rfl rfl (by kernel_rfl) Try.func5 (by kernel_rfl)
    (of_decide_eq_true (by kernel_rfl)) (by unfold Func.isWrapper; first | (rw [if_pos (by decide +kernel)]; kernel_rfl) | (rw [if_neg (by decide +kernel)]; exact ⟨rfl, rfl⟩))
    (fun os started H enc _ => parts_lifted os started H enc)

#print axioms parts_holds
end Go.Proofs.Ytnjopfjmepbpoaa
