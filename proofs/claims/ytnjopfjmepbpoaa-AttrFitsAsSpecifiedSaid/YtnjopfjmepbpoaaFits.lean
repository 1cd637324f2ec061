/- Proved here: antiquarylaw13.AttrFitsAsSpecified returns true for every input, and leaves its arguments as they were. No conditions. -/
import Derived.Laws.Strings
import Derived.Test.YtnjopfjmepbpoaaC5
/- Plain laws of attributes and schemas. -/
namespace Go.Proofs.Ytnjopfjmepbpoaa
set_option linter.unusedSimpArgs false
set_option linter.unusedVariables false
set_option linter.unnecessarySimpa false
open Go Go.RowKit

theorem bl_irrefl : ∀ a : List UInt8, Op.bytesLess a a = false
  | [] => rfl
  | a :: x => by simp [Op.bytesLess, bl_irrefl x]
theorem bl_trans : ∀ a b c : List UInt8, Op.bytesLess a b = true → Op.bytesLess b c = true → Op.bytesLess a c = true
  | _, [], c, h, _ => by cases ‹List UInt8› <;> simp [Op.bytesLess] at h
  | _, b :: y, [], _, h => by simp [Op.bytesLess] at h
  | [], b :: y, c :: z, _, _ => by simp [Op.bytesLess]
  | a :: x, b :: y, c :: z, h, k => by
    simp only [Op.bytesLess, Bool.or_eq_true, Bool.and_eq_true, decide_eq_true_eq, beq_iff_eq] at h k ⊢
    rcases h with h | ⟨rfl, h⟩
    · rcases k with k | ⟨rfl, k⟩
      · exact .inl (UInt8.lt_trans h k)
      · exact .inl h
    · rcases k with k | ⟨rfl, k⟩
      · exact .inl k
      · exact .inr ⟨rfl, bl_trans x y z h k⟩
theorem bl_total : ∀ a b : List UInt8, Op.bytesLess a b = false → a ≠ b → Op.bytesLess b a = true
  | [], [], _, h => absurd rfl h
  | [], b :: y, h, _ => by simp [Op.bytesLess] at h
  | a :: x, [], _, _ => by simp [Op.bytesLess]
  | a :: x, b :: y, h, hne => by
    simp only [Op.bytesLess, Bool.or_eq_false_iff, decide_eq_false_iff_not, Bool.and_eq_false_iff, Bool.or_eq_true, Bool.and_eq_true, decide_eq_true_eq, beq_iff_eq] at h ⊢
    by_cases e : a = b
    · subst e
      refine .inr ⟨rfl, bl_total x y ?_ (fun e => hne (e ▸ rfl))⟩
      rcases h.2 with h2 | h2
      · simp at h2
      · exact h2
    · left
      have := h.1
      have h3 : ¬ a.toNat = b.toNat := fun h => e (UInt8.toNat_inj.1 h)
      rw [UInt8.lt_iff_toNat_lt] at this ⊢
      omega

def ltB (a b : ByteArray) : Prop := Op.bytesLess a.toList b.toList = true
theorem ltB_trans {a b c : ByteArray} (h : ltB a b) (k : ltB b c) : ltB a c := bl_trans _ _ _ h k
theorem ltB_ne {a b : ByteArray} (h : ltB a b) : eqB a b = false := by
  cases e : eqB a b with
  | false => rfl
  | true =>
    simp only [eqB, beq_iff_eq] at e
    unfold ltB at h
    rw [e, bl_irrefl] at h; cases h
theorem eqB_self (a : ByteArray) : eqB a a = true := by simp [eqB]
theorem leqB_self (a : ByteArray) : leqB a a = true := by simp [leqB]
theorem leqB_false {x p : ByteArray} : leqB x p = false ↔ ltB p x := by
  unfold leqB ltB
  rw [Bool.or_eq_false_iff]
  constructor
  · rintro ⟨h1, h2⟩
    exact bl_total _ _ h1 (by simpa using h2)
  · intro h
    refine ⟨?_, ?_⟩
    · cases e : Op.bytesLess x.toList p.toList with
      | false => rfl
      | true => have := bl_trans _ _ _ h e; rw [bl_irrefl] at this; cases this
    · have := ltB_ne h
      rw [eqB_comm] at this; exact this
theorem name_pos {s : ByteArray} (h : nameB s = true) : ltB ByteArray.empty s := by
  unfold nameB at h
  simp only [Bool.and_eq_true, decide_eq_true_eq] at h
  unfold ltB
  rw [ByteArray.toList_eq, ByteArray.toList_eq]
  have h1 := h.2.1.1
  have : s.data.toList ≠ [] := by
    intro e
    have := congrArg List.length e
    simp at this
    have h3 : s.size = 0 := by rw [← ByteArray.size_data, this]; rfl
    omega
  cases hs : s.data.toList with
  | nil => exact absurd hs this
  | cons a x => rfl

/-- Definitions without error behind a name. -/
structure DefsOk (b : ByteArray) (ds : List PDef) : Prop where
  one : ∀ d ∈ ds, nameB d.name = true ∧ (d.kind = 1 ∨ d.kind = 2) ∧ ltB b d.name
  rise : ds.Pairwise fun d e => ltB d.name e.name
theorem defE_ok {d : PDef} {b : ByteArray} (h : defE d b = 0) : nameB d.name = true ∧ (d.kind = 1 ∨ d.kind = 2) ∧ ltB b d.name := by
  unfold defE at h
  split at h
  · simp at h
  · rename_i h1
    split at h
    · simp at h
    · rename_i h2
      refine ⟨by simpa using h1, ?_, leqB_false.1 (by simpa using h2)⟩
      split at h
      · left; assumption
      · split at h
        · right; assumption
        · simp at h
theorem defsE_ok : ∀ (ds : List PDef) (b : ByteArray), defsE b ds = 0 → DefsOk b ds
  | [], b, _ => ⟨by simp, .nil⟩
  | d :: r, b, h => by
    rw [defsE] at h
    split at h
    · rename_i h1; exact absurd h h1
    · rename_i h1
      obtain ⟨k1, k2, k3⟩ := defE_ok (by simpa using h1)
      have ih := defsE_ok r d.name h
      refine ⟨fun e he => ?_, ?_⟩
      · rcases List.mem_cons.1 he with rfl | he
        · exact ⟨k1, k2, k3⟩
        · obtain ⟨i1, i2, i3⟩ := ih.one e he
          exact ⟨i1, i2, ltB_trans k3 i3⟩
      · rw [List.pairwise_cons]
        exact ⟨fun e he => (ih.one e he).2.2, ih.rise⟩
theorem checkE_ok {s : PSchema} (h : checkE s = 0) : DefsOk ByteArray.empty s.defs := by
  unfold checkE at h
  split at h
  · simp at h
  · split at h
    · simp at h
    · exact defsE_ok _ _ h

/- The place of a name. -/
theorem idxGo_first : ∀ (l : List Bool) (j : Nat) (k : Int), (∀ i, i < j → l[i]? = some false) → l[j]? = some true → idxGo l k = k + j
  | [], j, k, _, h => by simp at h
  | b :: r, 0, k, _, h => by simp at h; subst h; simp [idxGo]
  | b :: r, j + 1, k, h1, h2 => by
    have h0 := h1 0 (by omega)
    simp at h0; subst h0
    rw [idxGo, if_neg (by simp), idxGo_first r j (k + 1) (fun i hi => by simpa using h1 (i + 1) (by omega)) (by simpa using h2)]
    omega
theorem findI_at {b : ByteArray} {ds : List PDef} (h : DefsOk b ds) {j : Nat} {d : PDef} (hj : ds[j]? = some d) : findI ds d.name = j := by
  unfold findI idxB
  rw [idxGo_first _ j 0 (fun i hi => ?_) (by rw [List.getElem?_map, hj]; simp [eqB_self])]
  · omega
  · obtain ⟨hj1, hj2⟩ := List.getElem?_eq_some_iff.1 hj
    have := List.pairwise_iff_getElem.1 h.rise i j (by omega) hj1 hi
    rw [List.getElem?_map, List.getElem?_eq_getElem (by omega : i < ds.length), Option.map_some, ← hj2, ltB_ne this]
/-- Whose name is found is one of them. -/
theorem findI_get {ds : List PDef} {nm : ByteArray} (h : 0 ≤ findI ds nm) : ∃ d, ds[(findI ds nm).toNat]? = some d := by
  have := idxB_lt (ds.map fun (d : PDef) => eqB d.name nm) (by unfold findI at h; exact h)
  rw [List.length_map] at this
  have hlt : (findI ds nm).toNat < ds.length := by unfold findI at h ⊢; omega
  exact ⟨_, List.getElem?_eq_getElem hlt⟩
theorem idxGo_true : ∀ (l : List Bool) (k : Int), idxGo l k ≠ -1 → 0 ≤ k → l[(idxGo l k - k).toNat]? = some true
  | [], k, h, _ => by simp [idxGo] at h
  | b :: r, k, h, hk => by
    rw [idxGo] at h ⊢
    cases b with
    | true => simp
    | false =>
      simp only [Bool.false_eq_true, if_false] at h ⊢
      have ih := idxGo_true r (k + 1) h (by omega)
      have hb := idxGo_bd r (k + 1) (by omega)
      rcases hb with ⟨e, -⟩ | ⟨e, -, -⟩
      · exact absurd e h
      · rw [show (idxGo r (k + 1) - k).toNat = (idxGo r (k + 1) - (k + 1)).toNat + 1 by omega, List.getElem?_cons_succ]
        exact ih
theorem findI_name {ds : List PDef} {nm : ByteArray} (h : 0 ≤ findI ds nm) {d : PDef} (hd : ds[(findI ds nm).toNat]? = some d) : eqB d.name nm = true := by
  have := idxGo_true (ds.map fun d => eqB d.name nm) 0 (by unfold findI idxB at h; omega) (by omega)
  rw [Int.sub_zero] at this
  unfold findI idxB at hd
  rw [List.getElem?_map, hd] at this
  simpa using this

/- Attributes that fit. -/
def one (ds : List PDef) (a : PAttr) : Prop := 0 ≤ findI ds a.name ∧ (match ds[(findI ds a.name).toNat]? with | some d => valueE d a | none => 0) = 0
theorem fitE_iff {ds : List PDef} {b : ByteArray} {a : PAttr} : fitE ds b false a = 0 ↔ ltB b a.name ∧ one ds a := by
  unfold fitE one
  by_cases h1 : findI ds a.name < 0
  · rw [if_pos h1]
    constructor
    · intro h; simp at h
    · rintro ⟨-, h, -⟩; omega
  · rw [if_neg h1]
    cases h2 : leqB a.name b with
    | true =>
      simp only [Bool.not_false, Bool.true_and, if_true]
      constructor
      · intro h; simp at h
      · rintro ⟨h, -⟩
        rw [leqB_false.2 h] at h2; cases h2
    | false =>
      simp only [Bool.not_false, Bool.true_and, Bool.false_eq_true, if_false]
      exact ⟨fun h => ⟨leqB_false.1 h2, by omega, h⟩, fun h => h.2.2⟩
theorem fits_iff {ds : List PDef} : ∀ (l : List PAttr) (b : ByteArray), fitsGo ds b false l = 0 ↔ (∀ a ∈ l, ltB b a.name ∧ one ds a) ∧ l.Pairwise fun x y => ltB x.name y.name
  | [], b => by simp [fitsGo]
  | a :: r, b => by
    rw [fitsGo]
    by_cases h : fitE ds b false a = 0
    · rw [if_neg (by simpa using h), fits_iff r a.name]
      obtain ⟨h1, h2⟩ := fitE_iff.1 h
      rw [List.pairwise_cons]
      constructor
      · rintro ⟨k1, k2⟩
        refine ⟨fun x hx => ?_, fun x hx => (k1 x hx).1, k2⟩
        rcases List.mem_cons.1 hx with rfl | hx
        · exact ⟨h1, h2⟩
        · exact ⟨ltB_trans h1 (k1 x hx).1, (k1 x hx).2⟩
      · rintro ⟨k1, k2, k3⟩
        exact ⟨fun x hx => ⟨k2 x hx, (k1 x (by simp [hx])).2⟩, k3⟩
    · rw [if_pos (by simpa using h)]
      constructor
      · intro e; exact absurd e h
      · rintro ⟨k1, -⟩; exact absurd (fitE_iff.2 (k1 a (by simp))) h
def lastN (b : ByteArray) (l : List PAttr) : ByteArray := match l.getLast? with | some a => a.name | none => b
theorem fits_append {ds : List PDef} : ∀ (l r : List PAttr) (b : ByteArray), fitsGo ds b false l = 0 → fitsGo ds b false (l ++ r) = fitsGo ds (lastN b l) false r
  | [], r, b, _ => rfl
  | a :: l, r, b, h => by
    rw [fitsGo] at h
    split at h
    · rename_i h1; exact absurd h h1
    · rename_i h1
      rw [List.cons_append, fitsGo, if_neg h1, fits_append l r a.name h]
      congr 1
      cases l with
      | nil => rfl
      | cons x l =>
        simp only [lastN, List.getLast?_cons_cons]
        cases hh : (x :: l).getLast? with
        | none => simp at hh
        | some y => rfl
/-- The first attribute is behind no name. -/
theorem fits_first {b : ByteArray} {ds : List PDef} (hd : DefsOk b ds) (hb : b = ByteArray.empty) (l : List PAttr) : fitsGo ds b false l = fitsGo ds b true l := by
  cases l with
  | nil => rfl
  | cons a r =>
    have : fitE ds b false a = fitE ds b true a := by
      unfold fitE
      by_cases h1 : findI ds a.name < 0
      · rw [if_pos h1, if_pos h1]
      · rw [if_neg h1, if_neg h1]
        obtain ⟨d, hd'⟩ := findI_get (show 0 ≤ findI ds a.name by omega)
        have hn := findI_name (by omega) hd'
        have hm := (hd.one d (mem_of_get' hd')).2.2
        have e : d.name.toList = a.name.toList := by simpa [eqB] using hn
        have : leqB a.name b = false := leqB_false.2 (by unfold ltB at hm ⊢; rw [← e]; exact hm)
        simp [this]
    rw [fitsGo, fitsGo, this]
where
  mem_of_get' {α : Type} {l : List α} {j : Nat} {c : α} (h : l[j]? = some c) : c ∈ l := List.mem_of_getElem? h

/- An attribute found by its name. -/
theorem getA_none {l : List PAttr} {nm : ByteArray} (h : ∀ a ∈ l, eqB a.name nm = false) : getA l nm = (zeroA, false) := by
  induction l with
  | nil => rfl
  | cons a r ih => rw [getA, h a (by simp)]; simp only [Bool.false_eq_true, if_false]; exact ih (fun x hx => h x (by simp [hx]))
theorem getA_mem {l : List PAttr} (hp : l.Pairwise fun x y => ltB x.name y.name) {a : PAttr} (ha : a ∈ l) : getA l a.name = (a, true) := by
  induction l with
  | nil => cases ha
  | cons b r ih =>
    rw [List.pairwise_cons] at hp
    rw [getA]
    rcases List.mem_cons.1 ha with rfl | ha
    · rw [eqB_self]; rfl
    · rw [ltB_ne (hp.1 a ha)]; simp only [Bool.false_eq_true, if_false]; exact ih hp.2 ha

/- Entries. -/
theorem entryA_E {s : PSchema} (h : checkE s = 0) (e : PEntry) : entryA s e = entryE s e := by
  have hf : fitsGo s.defs ByteArray.empty false e.attrs = fitsE s e.attrs := fits_first (checkE_ok h) rfl _
  have h1 : idBad e = decide (e.id < 1 ∨ 1073741824 < e.id ∨ e.owner < 1 ∨ 1073741824 < e.owner ∨ e.ver < 1 ∨ 1073741824 < e.ver) := by
    simp only [idBad, Bool.decide_or]
  have h2 : (fromBad e || (toBad e || bornBad e)) = decide (e.filed < 0 ∨ e.frm < e.filed ∨ e.to ≤ e.frm ∨ 1048577 < e.to ∨ 1048576 < e.frm ∨ e.born < 1 ∨ 1073741824 < e.born) := by
    rw [Bool.eq_iff_iff]
    simp only [fromBad, toBad, bornBad, Bool.or_eq_true, decide_eq_true_eq]
    constructor <;> intro h <;> omega
  have h3 : vecBad s e = decide (validV e.vec = false ∨ (e.vec.length : Int) ≠ s.dims) := by
    rw [Bool.eq_iff_iff]
    simp only [vecBad, Bool.or_eq_true, bne_iff_ne, Bool.not_eq_true', decide_eq_true_eq]
    exact ⟨fun h => h.symm, fun h => h.symm⟩
  unfold entryA entR entryE
  rw [hf]
  simp only [firstE, h1, h3]
  by_cases g1 : e.id < 1 ∨ 1073741824 < e.id ∨ e.owner < 1 ∨ 1073741824 < e.owner ∨ e.ver < 1 ∨ 1073741824 < e.ver
  · simp [g1]
  · rw [if_neg g1]
    simp only [g1, decide_false, Bool.false_eq_true, if_false]
    by_cases g2 : e.filed < 0 ∨ e.frm < e.filed ∨ e.to ≤ e.frm ∨ 1048577 < e.to ∨ 1048576 < e.frm ∨ e.born < 1 ∨ 1073741824 < e.born
    · rw [if_pos g2]
      rw [decide_eq_true g2] at h2
      simp only [Bool.or_eq_true] at h2
      cases ha : fromBad e <;> cases hb : toBad e <;> cases hc : bornBad e <;> simp_all
    · rw [if_neg g2]
      rw [decide_eq_false g2] at h2
      simp only [Bool.or_eq_false_iff] at h2
      simp only [h2.1, h2.2.1, h2.2.2, Bool.false_eq_true, if_false]
      by_cases g3 : validV e.vec = false ∨ (e.vec.length : Int) ≠ s.dims
      · simp [g3]
      · simp [g3]
end Go.Proofs.Ytnjopfjmepbpoaa

/- Law AttrFitsAsSpecified: the walk. -/
namespace Go.Proofs.Ytnjopfjmepbpoaa
set_option linter.unusedSimpArgs false
set_option linter.unusedVariables false
set_option linter.unnecessarySimpa false
open Go.RowKit

set_option maxRecDepth 10000 in
set_option maxHeartbeats 4000000 in
theorem pw_fitsAs (s : PSchema) (x : PEntry) (nm : ByteArray) (hs1 : s.defs.length ≤ 20000000000000) (hs2 : ∀ d ∈ s.defs, d.words.length ≤ 20000000000000) (x1 : x.vec.length ≤ 20000000000000) (x2 : x.attrs.length ≤ 20000000000000) : PCalls Try.prog 3 [pschema s, pentry x, pstr nm] (· = pbool true) := by
  refine pcalls_of_pw typeTab_ok Try.func3 rfl (by kernel_rfl) (by (first | exact low_mapI | exact low_mapS | exact low_mapB | simp [low_val, low_nilsl, low_sl, low_ep, low_agg, low_tup, low_fn, low_pint, low_pstr, low_pbool, low_pints, low_pstrs, low_pbyte, low_pbytes, low_pattrs, low_pdefs, low_pschema, low_pentry])) (by simp [pentry, pschema, pstr, PV.ownB]) (by rw [Try.ntmps3]; simp) ?_
  rw [Try.ntmps3, Try.results3]
  have c0 := pw_sanity
  have cs := pw_fewDefs s hs1 hs2
  have cx := pw_few x x2 x1
  cases fs : fewDefsB s with
  | false =>
    rw [fs] at cs
    (repeat (first | (with_reducible first | refine PW.seq ?_ | refine PW.block ?_ | refine PW.skip ?_ | refine PW.exit ?_ | refine PW.ret ?_ | refine thenP ?_ | refine thenP_exit ?_ | refine thenP_ret ?_ | refine blockP ?_ | refine blockP_exit ?_ | refine blockP_ret ?_ | refine loopP_exit ?_ | refine loopP_ret ?_) | ((with_reducible refine PWops.idd ?_) ; first | (first | refine PWops.stepA rfl ?_ | refine PWops.doneI rfl ?_ | refine PWops.boolK true rfl rfl rfl rfl (by (first | rfl | assumption | (simp only [decide_eq_true_eq, decide_eq_false_iff_not, bne_iff_ne, beq_iff_eq, beq_eq_false_iff_ne, bne_eq_false_iff_eq, ne_eq] ; omega))) rfl ?_ | refine PWops.boolK false rfl rfl rfl rfl (by (first | rfl | assumption | (simp only [decide_eq_true_eq, decide_eq_false_iff_not, bne_iff_ne, beq_iff_eq, beq_eq_false_iff_ne, bne_eq_false_iff_eq, ne_eq] ; omega))) rfl ?_ | refine PWops.fitsK rfl rfl rfl rfl (by omega) (by omega) rfl ?_ | refine PWops.remK rfl rfl rfl rfl (by omega) rfl ?_ | refine PWops.quoK rfl rfl rfl rfl (by omega) rfl ?_ | refine PWops.app rfl rfl rfl rfl rfl rfl rfl (by omega) (by omega) (by first | rfl | exact one_pint _ | exact one_pstr _ | exact one_pbyte _ | exact one_pattrs _) ?_ | refine PWops.app0 rfl rfl rfl rfl rfl rfl rfl (by omega) (by omega) (by first | rfl | exact one_pint _ | exact one_pstr _ | exact one_pbyte _ | exact one_pattrs _) ?_ | refine PWops.idx1 rfl rfl rfl rfl rfl rfl rfl rfl (by omega) ?_ | refine PWops.idx rfl rfl rfl rfl rfl rfl rfl rfl (by omega) ?_ | refine PWops.ld rfl rfl rfl rfl rfl rfl rfl (by assumption) rfl ?_ | refine PWops.ldA rfl rfl rfl rfl rfl rfl (by omega) (by assumption) ?_ | refine PWops.str rfl rfl rfl rfl rfl rfl rfl rfl rfl rfl rfl ?_) | (first | (refine PWops.call rfl rfl rfl (by assumption) ?_) | refine PWops.idxZ1 rfl rfl rfl rfl rfl rfl rfl rfl (by omega) ?_ | refine PWops.idxZ rfl rfl rfl rfl rfl rfl rfl rfl (by omega) ?_ | refine PWops.ld rfl rfl rfl rfl rfl rfl rfl rfl rfl ?_ | refine PWops.slcL rfl rfl rfl rfl rfl rfl rfl rfl (by omega) ?_ | refine PWops.slcH rfl rfl rfl rfl rfl rfl rfl rfl (by omega) ?_ | refine PWops.slcRL rfl rfl rfl rfl rfl rfl rfl rfl (by intro; rfl) (by omega) ?_ | refine PWops.slcRH rfl rfl rfl rfl rfl rfl rfl rfl (by intro; rfl) (by omega) ?_ | refine PWops.slcM rfl rfl rfl rfl rfl rfl rfl rfl rfl (by omega) ?_ | refine PWops.ldM rfl rfl rfl rfl rfl rfl rfl (by omega) rfl ?_ | refine PWops.ldR rfl rfl rfl rfl rfl rfl rfl (by intro; rfl) (by omega) rfl rfl ?_ | refine PWops.ldRA rfl rfl rfl rfl rfl rfl (by intro; rfl) (by omega) rfl ?_)) | (first | ((with_reducible refine PW.idd ?_) ; (first | refine PW.region typeTab_ok (by kernel_rfl) ?_ | refine PW.draw typeTab_ok (by kernel_rfl) (by kernel_rfl) (by kernel_rfl) ?_ | refine PW.condT rfl ?_ | refine PW.condF rfl ?_ | refine blockP_other (by decide) ?_)) | with_reducible refine blockP_other (by decide) ?_)))
    exact retP rfl (by (first | exact low_mapI | exact low_mapS | exact low_mapB | simp [low_val, low_nilsl, low_sl, low_ep, low_agg, low_tup, low_fn, low_pint, low_pstr, low_pbool, low_pints, low_pstrs, low_pbyte, low_pbytes, low_pattrs, low_pdefs, low_pschema, low_pentry])) rfl
  | true =>
  rw [fs] at cs
  have hS := (fewDefsB_few fs).small
  have k1 := pcRefCheck s hS
  by_cases hk : checkE s = 0
  case neg =>
    (repeat (first | (with_reducible first | refine PW.seq ?_ | refine PW.block ?_ | refine PW.skip ?_ | refine PW.exit ?_ | refine PW.ret ?_ | refine thenP ?_ | refine thenP_exit ?_ | refine thenP_ret ?_ | refine blockP ?_ | refine blockP_exit ?_ | refine blockP_ret ?_ | refine loopP_exit ?_ | refine loopP_ret ?_) | ((with_reducible refine PWops.idd ?_) ; first | (first | refine PWops.stepA rfl ?_ | refine PWops.doneI rfl ?_ | refine PWops.boolK true rfl rfl rfl rfl (by (first | rfl | assumption | (simp only [decide_eq_true_eq, decide_eq_false_iff_not, bne_iff_ne, beq_iff_eq, beq_eq_false_iff_ne, bne_eq_false_iff_eq, ne_eq] ; omega))) rfl ?_ | refine PWops.boolK false rfl rfl rfl rfl (by (first | rfl | assumption | (simp only [decide_eq_true_eq, decide_eq_false_iff_not, bne_iff_ne, beq_iff_eq, beq_eq_false_iff_ne, bne_eq_false_iff_eq, ne_eq] ; omega))) rfl ?_ | refine PWops.fitsK rfl rfl rfl rfl (by omega) (by omega) rfl ?_ | refine PWops.remK rfl rfl rfl rfl (by omega) rfl ?_ | refine PWops.quoK rfl rfl rfl rfl (by omega) rfl ?_ | refine PWops.app rfl rfl rfl rfl rfl rfl rfl (by omega) (by omega) (by first | rfl | exact one_pint _ | exact one_pstr _ | exact one_pbyte _ | exact one_pattrs _) ?_ | refine PWops.app0 rfl rfl rfl rfl rfl rfl rfl (by omega) (by omega) (by first | rfl | exact one_pint _ | exact one_pstr _ | exact one_pbyte _ | exact one_pattrs _) ?_ | refine PWops.idx1 rfl rfl rfl rfl rfl rfl rfl rfl (by omega) ?_ | refine PWops.idx rfl rfl rfl rfl rfl rfl rfl rfl (by omega) ?_ | refine PWops.ld rfl rfl rfl rfl rfl rfl rfl (by assumption) rfl ?_ | refine PWops.ldA rfl rfl rfl rfl rfl rfl (by omega) (by assumption) ?_ | refine PWops.str rfl rfl rfl rfl rfl rfl rfl rfl rfl rfl rfl ?_) | (first | (refine PWops.call rfl rfl rfl (by assumption) ?_) | refine PWops.idxZ1 rfl rfl rfl rfl rfl rfl rfl rfl (by omega) ?_ | refine PWops.idxZ rfl rfl rfl rfl rfl rfl rfl rfl (by omega) ?_ | refine PWops.ld rfl rfl rfl rfl rfl rfl rfl rfl rfl ?_ | refine PWops.slcL rfl rfl rfl rfl rfl rfl rfl rfl (by omega) ?_ | refine PWops.slcH rfl rfl rfl rfl rfl rfl rfl rfl (by omega) ?_ | refine PWops.slcRL rfl rfl rfl rfl rfl rfl rfl rfl (by intro; rfl) (by omega) ?_ | refine PWops.slcRH rfl rfl rfl rfl rfl rfl rfl rfl (by intro; rfl) (by omega) ?_ | refine PWops.slcM rfl rfl rfl rfl rfl rfl rfl rfl rfl (by omega) ?_ | refine PWops.ldM rfl rfl rfl rfl rfl rfl rfl (by omega) rfl ?_ | refine PWops.ldR rfl rfl rfl rfl rfl rfl rfl (by intro; rfl) (by omega) rfl rfl ?_ | refine PWops.ldRA rfl rfl rfl rfl rfl rfl (by intro; rfl) (by omega) rfl ?_)) | (first | ((with_reducible refine PW.idd ?_) ; (first | refine PW.region typeTab_ok (by kernel_rfl) ?_ | refine PW.draw typeTab_ok (by kernel_rfl) (by kernel_rfl) (by kernel_rfl) ?_ | refine PW.condT rfl ?_ | refine PW.condF rfl ?_ | refine blockP_other (by decide) ?_)) | with_reducible refine blockP_other (by decide) ?_)))
    exact retP rfl (by (first | exact low_mapI | exact low_mapS | exact low_mapB | simp [low_val, low_nilsl, low_sl, low_ep, low_agg, low_tup, low_fn, low_pint, low_pstr, low_pbool, low_pints, low_pstrs, low_pbyte, low_pbytes, low_pattrs, low_pdefs, low_pschema, low_pentry])) rfl
  rw [hk] at k1
  cases fx : fewB x with
  | false =>
    rw [fx] at cx
    (repeat (first | (with_reducible first | refine PW.seq ?_ | refine PW.block ?_ | refine PW.skip ?_ | refine PW.exit ?_ | refine PW.ret ?_ | refine thenP ?_ | refine thenP_exit ?_ | refine thenP_ret ?_ | refine blockP ?_ | refine blockP_exit ?_ | refine blockP_ret ?_ | refine loopP_exit ?_ | refine loopP_ret ?_) | ((with_reducible refine PWops.idd ?_) ; first | (first | refine PWops.stepA rfl ?_ | refine PWops.doneI rfl ?_ | refine PWops.boolK true rfl rfl rfl rfl (by (first | rfl | assumption | (simp only [decide_eq_true_eq, decide_eq_false_iff_not, bne_iff_ne, beq_iff_eq, beq_eq_false_iff_ne, bne_eq_false_iff_eq, ne_eq] ; omega))) rfl ?_ | refine PWops.boolK false rfl rfl rfl rfl (by (first | rfl | assumption | (simp only [decide_eq_true_eq, decide_eq_false_iff_not, bne_iff_ne, beq_iff_eq, beq_eq_false_iff_ne, bne_eq_false_iff_eq, ne_eq] ; omega))) rfl ?_ | refine PWops.fitsK rfl rfl rfl rfl (by omega) (by omega) rfl ?_ | refine PWops.remK rfl rfl rfl rfl (by omega) rfl ?_ | refine PWops.quoK rfl rfl rfl rfl (by omega) rfl ?_ | refine PWops.app rfl rfl rfl rfl rfl rfl rfl (by omega) (by omega) (by first | rfl | exact one_pint _ | exact one_pstr _ | exact one_pbyte _ | exact one_pattrs _) ?_ | refine PWops.app0 rfl rfl rfl rfl rfl rfl rfl (by omega) (by omega) (by first | rfl | exact one_pint _ | exact one_pstr _ | exact one_pbyte _ | exact one_pattrs _) ?_ | refine PWops.idx1 rfl rfl rfl rfl rfl rfl rfl rfl (by omega) ?_ | refine PWops.idx rfl rfl rfl rfl rfl rfl rfl rfl (by omega) ?_ | refine PWops.ld rfl rfl rfl rfl rfl rfl rfl (by assumption) rfl ?_ | refine PWops.ldA rfl rfl rfl rfl rfl rfl (by omega) (by assumption) ?_ | refine PWops.str rfl rfl rfl rfl rfl rfl rfl rfl rfl rfl rfl ?_) | (first | (refine PWops.call rfl rfl rfl (by assumption) ?_) | refine PWops.idxZ1 rfl rfl rfl rfl rfl rfl rfl rfl (by omega) ?_ | refine PWops.idxZ rfl rfl rfl rfl rfl rfl rfl rfl (by omega) ?_ | refine PWops.ld rfl rfl rfl rfl rfl rfl rfl rfl rfl ?_ | refine PWops.slcL rfl rfl rfl rfl rfl rfl rfl rfl (by omega) ?_ | refine PWops.slcH rfl rfl rfl rfl rfl rfl rfl rfl (by omega) ?_ | refine PWops.slcRL rfl rfl rfl rfl rfl rfl rfl rfl (by intro; rfl) (by omega) ?_ | refine PWops.slcRH rfl rfl rfl rfl rfl rfl rfl rfl (by intro; rfl) (by omega) ?_ | refine PWops.slcM rfl rfl rfl rfl rfl rfl rfl rfl rfl (by omega) ?_ | refine PWops.ldM rfl rfl rfl rfl rfl rfl rfl (by omega) rfl ?_ | refine PWops.ldR rfl rfl rfl rfl rfl rfl rfl (by intro; rfl) (by omega) rfl rfl ?_ | refine PWops.ldRA rfl rfl rfl rfl rfl rfl (by intro; rfl) (by omega) rfl ?_)) | (first | ((with_reducible refine PW.idd ?_) ; (first | refine PW.region typeTab_ok (by kernel_rfl) ?_ | refine PW.draw typeTab_ok (by kernel_rfl) (by kernel_rfl) (by kernel_rfl) ?_ | refine PW.condT rfl ?_ | refine PW.condF rfl ?_ | refine blockP_other (by decide) ?_)) | with_reducible refine blockP_other (by decide) ?_)))
    exact retP rfl (by (first | exact low_mapI | exact low_mapS | exact low_mapB | simp [low_val, low_nilsl, low_sl, low_ep, low_agg, low_tup, low_fn, low_pint, low_pstr, low_pbool, low_pints, low_pstrs, low_pbyte, low_pbytes, low_pattrs, low_pdefs, low_pschema, low_pentry])) rfl
  | true =>
  rw [fx] at cx
  (repeat (first | (with_reducible first | refine PW.seq ?_ | refine PW.block ?_ | refine PW.skip ?_ | refine PW.exit ?_ | refine PW.ret ?_ | refine thenP ?_ | refine thenP_exit ?_ | refine thenP_ret ?_ | refine blockP ?_ | refine blockP_exit ?_ | refine blockP_ret ?_ | refine loopP_exit ?_ | refine loopP_ret ?_) | ((with_reducible refine PWops.idd ?_) ; first | (first | refine PWops.stepA rfl ?_ | refine PWops.doneI rfl ?_ | refine PWops.boolK true rfl rfl rfl rfl (by (first | rfl | assumption | (simp only [decide_eq_true_eq, decide_eq_false_iff_not, bne_iff_ne, beq_iff_eq, beq_eq_false_iff_ne, bne_eq_false_iff_eq, ne_eq] ; omega))) rfl ?_ | refine PWops.boolK false rfl rfl rfl rfl (by (first | rfl | assumption | (simp only [decide_eq_true_eq, decide_eq_false_iff_not, bne_iff_ne, beq_iff_eq, beq_eq_false_iff_ne, bne_eq_false_iff_eq, ne_eq] ; omega))) rfl ?_ | refine PWops.fitsK rfl rfl rfl rfl (by omega) (by omega) rfl ?_ | refine PWops.remK rfl rfl rfl rfl (by omega) rfl ?_ | refine PWops.quoK rfl rfl rfl rfl (by omega) rfl ?_ | refine PWops.app rfl rfl rfl rfl rfl rfl rfl (by omega) (by omega) (by first | rfl | exact one_pint _ | exact one_pstr _ | exact one_pbyte _ | exact one_pattrs _) ?_ | refine PWops.app0 rfl rfl rfl rfl rfl rfl rfl (by omega) (by omega) (by first | rfl | exact one_pint _ | exact one_pstr _ | exact one_pbyte _ | exact one_pattrs _) ?_ | refine PWops.idx1 rfl rfl rfl rfl rfl rfl rfl rfl (by omega) ?_ | refine PWops.idx rfl rfl rfl rfl rfl rfl rfl rfl (by omega) ?_ | refine PWops.ld rfl rfl rfl rfl rfl rfl rfl (by assumption) rfl ?_ | refine PWops.ldA rfl rfl rfl rfl rfl rfl (by omega) (by assumption) ?_ | refine PWops.str rfl rfl rfl rfl rfl rfl rfl rfl rfl rfl rfl ?_) | (first | (refine PWops.call rfl rfl rfl (by assumption) ?_) | refine PWops.idxZ1 rfl rfl rfl rfl rfl rfl rfl rfl (by omega) ?_ | refine PWops.idxZ rfl rfl rfl rfl rfl rfl rfl rfl (by omega) ?_ | refine PWops.ld rfl rfl rfl rfl rfl rfl rfl rfl rfl ?_ | refine PWops.slcL rfl rfl rfl rfl rfl rfl rfl rfl (by omega) ?_ | refine PWops.slcH rfl rfl rfl rfl rfl rfl rfl rfl (by omega) ?_ | refine PWops.slcRL rfl rfl rfl rfl rfl rfl rfl rfl (by intro; rfl) (by omega) ?_ | refine PWops.slcRH rfl rfl rfl rfl rfl rfl rfl rfl (by intro; rfl) (by omega) ?_ | refine PWops.slcM rfl rfl rfl rfl rfl rfl rfl rfl rfl (by omega) ?_ | refine PWops.ldM rfl rfl rfl rfl rfl rfl rfl (by omega) rfl ?_ | refine PWops.ldR rfl rfl rfl rfl rfl rfl rfl (by intro; rfl) (by omega) rfl rfl ?_ | refine PWops.ldRA rfl rfl rfl rfl rfl rfl (by intro; rfl) (by omega) rfl ?_)) | (first | ((with_reducible refine PW.idd ?_) ; (first | refine PW.region typeTab_ok (by kernel_rfl) ?_ | refine PW.draw typeTab_ok (by kernel_rfl) (by kernel_rfl) (by kernel_rfl) ?_ | refine PW.condT rfl ?_ | refine PW.condF rfl ?_ | refine blockP_other (by decide) ?_)) | with_reducible refine blockP_other (by decide) ?_)))
  by_cases hn : nm.size ≤ 100
  case neg =>
    (repeat (first | (with_reducible first | refine PW.seq ?_ | refine PW.block ?_ | refine PW.skip ?_ | refine PW.exit ?_ | refine PW.ret ?_ | refine thenP ?_ | refine thenP_exit ?_ | refine thenP_ret ?_ | refine blockP ?_ | refine blockP_exit ?_ | refine blockP_ret ?_ | refine loopP_exit ?_ | refine loopP_ret ?_) | ((with_reducible refine PWops.idd ?_) ; first | (first | refine PWops.stepA rfl ?_ | refine PWops.doneI rfl ?_ | refine PWops.boolK true rfl rfl rfl rfl (by (first | rfl | assumption | (simp only [decide_eq_true_eq, decide_eq_false_iff_not, bne_iff_ne, beq_iff_eq, beq_eq_false_iff_ne, bne_eq_false_iff_eq, ne_eq] ; omega))) rfl ?_ | refine PWops.boolK false rfl rfl rfl rfl (by (first | rfl | assumption | (simp only [decide_eq_true_eq, decide_eq_false_iff_not, bne_iff_ne, beq_iff_eq, beq_eq_false_iff_ne, bne_eq_false_iff_eq, ne_eq] ; omega))) rfl ?_ | refine PWops.fitsK rfl rfl rfl rfl (by omega) (by omega) rfl ?_ | refine PWops.remK rfl rfl rfl rfl (by omega) rfl ?_ | refine PWops.quoK rfl rfl rfl rfl (by omega) rfl ?_ | refine PWops.app rfl rfl rfl rfl rfl rfl rfl (by omega) (by omega) (by first | rfl | exact one_pint _ | exact one_pstr _ | exact one_pbyte _ | exact one_pattrs _) ?_ | refine PWops.app0 rfl rfl rfl rfl rfl rfl rfl (by omega) (by omega) (by first | rfl | exact one_pint _ | exact one_pstr _ | exact one_pbyte _ | exact one_pattrs _) ?_ | refine PWops.idx1 rfl rfl rfl rfl rfl rfl rfl rfl (by omega) ?_ | refine PWops.idx rfl rfl rfl rfl rfl rfl rfl rfl (by omega) ?_ | refine PWops.ld rfl rfl rfl rfl rfl rfl rfl (by assumption) rfl ?_ | refine PWops.ldA rfl rfl rfl rfl rfl rfl (by omega) (by assumption) ?_ | refine PWops.str rfl rfl rfl rfl rfl rfl rfl rfl rfl rfl rfl ?_) | (first | (refine PWops.call rfl rfl rfl (by assumption) ?_) | refine PWops.idxZ1 rfl rfl rfl rfl rfl rfl rfl rfl (by omega) ?_ | refine PWops.idxZ rfl rfl rfl rfl rfl rfl rfl rfl (by omega) ?_ | refine PWops.ld rfl rfl rfl rfl rfl rfl rfl rfl rfl ?_ | refine PWops.slcL rfl rfl rfl rfl rfl rfl rfl rfl (by omega) ?_ | refine PWops.slcH rfl rfl rfl rfl rfl rfl rfl rfl (by omega) ?_ | refine PWops.slcRL rfl rfl rfl rfl rfl rfl rfl rfl (by intro; rfl) (by omega) ?_ | refine PWops.slcRH rfl rfl rfl rfl rfl rfl rfl rfl (by intro; rfl) (by omega) ?_ | refine PWops.slcM rfl rfl rfl rfl rfl rfl rfl rfl rfl (by omega) ?_ | refine PWops.ldM rfl rfl rfl rfl rfl rfl rfl (by omega) rfl ?_ | refine PWops.ldR rfl rfl rfl rfl rfl rfl rfl (by intro; rfl) (by omega) rfl rfl ?_ | refine PWops.ldRA rfl rfl rfl rfl rfl rfl (by intro; rfl) (by omega) rfl ?_)) | (first | ((with_reducible refine PW.idd ?_) ; (first | refine PW.region typeTab_ok (by kernel_rfl) ?_ | refine PW.draw typeTab_ok (by kernel_rfl) (by kernel_rfl) (by kernel_rfl) ?_ | refine PW.condT rfl ?_ | refine PW.condF rfl ?_ | refine blockP_other (by decide) ?_)) | with_reducible refine blockP_other (by decide) ?_)))
    exact retP rfl (by (first | exact low_mapI | exact low_mapS | exact low_mapB | simp [low_val, low_nilsl, low_sl, low_ep, low_agg, low_tup, low_fn, low_pint, low_pstr, low_pbool, low_pints, low_pstrs, low_pbyte, low_pbytes, low_pattrs, low_pdefs, low_pschema, low_pentry])) rfl
  have sx := fewB_few fx
  have sx1 := sx.1
  have sx2 := sx.2.1
  have g1 := pcGet x.attrs nm (by omega)
  have g2 := pcRefGet x.attrs nm (by omega)
  have f1 := pcFits s x.attrs hS (by omega)
  have f2 := pcRefFits s x.attrs hS (by omega)
  have e1 := pcEntry s x hS (by omega) (by omega)
  have e2 := pcRefEntry s x hS (by omega) (by omega)
  rw [show fitsGo s.defs ByteArray.empty false x.attrs = fitsE s x.attrs from fits_first (checkE_ok hk) rfl _] at f1
  rw [entryA_E hk x] at e1
  obtain ⟨a, is, ha⟩ : ∃ a is, getA x.attrs nm = (a, is) := ⟨_, _, rfl⟩
  rw [ha] at g1 g2
  have heq : (a.name == a.name && (a.kind == a.kind && (a.n == a.n && (a.s == a.s && true)))) = true := by
    have := (eqAttrB_iff a a).2 rfl; simpa only [eqAttrB] using this
  have q1 : (fitsE s x.attrs == fitsE s x.attrs) = true := by simp
  have q2 : (entryE s x == entryE s x) = true := by simp
  have q3 : (is == is) = true := by simp
  (repeat (first | (with_reducible first | refine PW.seq ?_ | refine PW.block ?_ | refine PW.skip ?_ | refine PW.exit ?_ | refine PW.ret ?_ | refine thenP ?_ | refine thenP_exit ?_ | refine thenP_ret ?_ | refine blockP ?_ | refine blockP_exit ?_ | refine blockP_ret ?_ | refine loopP_exit ?_ | refine loopP_ret ?_) | ((with_reducible refine PWops.idd ?_) ; first | (first | refine PWops.stepA rfl ?_ | refine PWops.doneI rfl ?_ | refine PWops.boolK true rfl rfl rfl rfl (by (first | rfl | assumption | (simp only [decide_eq_true_eq, decide_eq_false_iff_not, bne_iff_ne, beq_iff_eq, beq_eq_false_iff_ne, bne_eq_false_iff_eq, ne_eq] ; omega))) rfl ?_ | refine PWops.boolK false rfl rfl rfl rfl (by (first | rfl | assumption | (simp only [decide_eq_true_eq, decide_eq_false_iff_not, bne_iff_ne, beq_iff_eq, beq_eq_false_iff_ne, bne_eq_false_iff_eq, ne_eq] ; omega))) rfl ?_ | refine PWops.fitsK rfl rfl rfl rfl (by omega) (by omega) rfl ?_ | refine PWops.remK rfl rfl rfl rfl (by omega) rfl ?_ | refine PWops.quoK rfl rfl rfl rfl (by omega) rfl ?_ | refine PWops.app rfl rfl rfl rfl rfl rfl rfl (by omega) (by omega) (by first | rfl | exact one_pint _ | exact one_pstr _ | exact one_pbyte _ | exact one_pattrs _) ?_ | refine PWops.app0 rfl rfl rfl rfl rfl rfl rfl (by omega) (by omega) (by first | rfl | exact one_pint _ | exact one_pstr _ | exact one_pbyte _ | exact one_pattrs _) ?_ | refine PWops.idx1 rfl rfl rfl rfl rfl rfl rfl rfl (by omega) ?_ | refine PWops.idx rfl rfl rfl rfl rfl rfl rfl rfl (by omega) ?_ | refine PWops.ld rfl rfl rfl rfl rfl rfl rfl (by assumption) rfl ?_ | refine PWops.ldA rfl rfl rfl rfl rfl rfl (by omega) (by assumption) ?_ | refine PWops.str rfl rfl rfl rfl rfl rfl rfl rfl rfl rfl rfl ?_) | (first | (refine PWops.call rfl rfl rfl (by assumption) ?_) | refine PWops.idxZ1 rfl rfl rfl rfl rfl rfl rfl rfl (by omega) ?_ | refine PWops.idxZ rfl rfl rfl rfl rfl rfl rfl rfl (by omega) ?_ | refine PWops.ld rfl rfl rfl rfl rfl rfl rfl rfl rfl ?_ | refine PWops.slcL rfl rfl rfl rfl rfl rfl rfl rfl (by omega) ?_ | refine PWops.slcH rfl rfl rfl rfl rfl rfl rfl rfl (by omega) ?_ | refine PWops.slcRL rfl rfl rfl rfl rfl rfl rfl rfl (by intro; rfl) (by omega) ?_ | refine PWops.slcRH rfl rfl rfl rfl rfl rfl rfl rfl (by intro; rfl) (by omega) ?_ | refine PWops.slcM rfl rfl rfl rfl rfl rfl rfl rfl rfl (by omega) ?_ | refine PWops.ldM rfl rfl rfl rfl rfl rfl rfl (by omega) rfl ?_ | refine PWops.ldR rfl rfl rfl rfl rfl rfl rfl (by intro; rfl) (by omega) rfl rfl ?_ | refine PWops.ldRA rfl rfl rfl rfl rfl rfl (by intro; rfl) (by omega) rfl ?_)) | (first | ((with_reducible refine PW.idd ?_) ; (first | refine PW.region typeTab_ok (by kernel_rfl) ?_ | refine PW.draw typeTab_ok (by kernel_rfl) (by kernel_rfl) (by kernel_rfl) ?_ | refine PW.condT rfl ?_ | refine PW.condF rfl ?_ | refine blockP_other (by decide) ?_)) | with_reducible refine blockP_other (by decide) ?_)))
  exact retP rfl (by (first | exact low_mapI | exact low_mapS | exact low_mapB | simp [low_val, low_nilsl, low_sl, low_ep, low_agg, low_tup, low_fn, low_pint, low_pstr, low_pbool, low_pints, low_pstrs, low_pbyte, low_pbytes, low_pattrs, low_pdefs, low_pschema, low_pentry])) rfl
end Go.Proofs.Ytnjopfjmepbpoaa

/- Proved here: antiquarylaw13.AttrFitsAsSpecified returns true for every input, and leaves its arguments as they were. No conditions. -/
namespace Go.Proofs.Ytnjopfjmepbpoaa
set_option linter.unusedSimpArgs false
set_option linter.unusedVariables false
set_option linter.unnecessarySimpa false
open Go.ChangeShapes Go.WideShapes Go.ChangeAt Go.RowKit

set_option maxRecDepth 100000 in
theorem fitsAs_lifted (os : Os) (started : os.Started) (H : Type) (enc : TypeId × Value → H) :
    ReturnsInHanded {} Try.checked os 3 .any (Rows.attrFitsAsSpecifiedSpec.pre6 enc Try.prog Try.f3 Rows.attrFitsAsSpecifiedRow.domain false) (Rows.attrFitsAsSpecifiedSpec.post enc Try.prog Try.f3 false true false false) := by
  refine law_lifted os started H enc Try.func3 (by kernel_rfl)
    (ChangeSpec.witness6 (enc := enc) (C := Try.checked) false ⟨#[], #[.agg #[.int .i64 0, .int .i64 0, .slice none 0 0], .agg #[.int .i64 0, .int .i64 0, .int .i64 0, .int .i64 0, .int .i64 0, .int .i64 0, .int .i64 0, .slice none 0 0, .slice none 0 0], .string ByteArray.empty], []⟩ 8 (by kernel_rfl) (by kernel_rfl) (by kernel_rfl) (by kernel_rfl))
    Try.underlying4 rfl rfl (by kernel_rfl) (fun ds hd => ?_)
    (argsOpen_cons argSchema (argsOpen_cons argEntry (argsOpen_cons argStr argsOpen_nil))) (fun y hy => ?_)
  · match ds, hd with
    | [d1, d2, d3], _ => exact ⟨rfl, rfl, rfl⟩
  · obtain ⟨s, x, nm, u⟩ := y
    obtain ⟨hs, hx, hn, -⟩ := hy
    have e := reach_eq
    simp only at hs hx hn
    have s1 := hs.len
    have x1 := hx.vec
    have x2 := hx.attrs
    exact pw_fitsAs s x nm (by omega) (fun d hd => by have := (hs.defs d hd).2.2.2; omega) (by omega) (by omega)

theorem fitsAs_holds : Rows.AttrFitsAsSpecifiedSaid :=
  OpenClaim.holds_of_wide 3 Try.f3 rfl rfl rfl rfl rfl rfl rfl ⟨rfl, rfl, rfl, rfl, rfl⟩ rfl rfl rfl rfl rfl (by kernel_rfl) Try.func3 (by kernel_rfl)
    (of_decide_eq_true (by kernel_rfl)) (by unfold Func.isWrapper; first | (rw [if_pos (by decide +kernel)]; kernel_rfl) | (rw [if_neg (by decide +kernel)]; exact ⟨rfl, rfl⟩))
    (fun os started H enc _ => fitsAs_lifted os started H enc)

#print axioms fitsAs_holds
end Go.Proofs.Ytnjopfjmepbpoaa
