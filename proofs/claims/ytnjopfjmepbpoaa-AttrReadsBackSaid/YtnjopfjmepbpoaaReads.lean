/- Proved here: antiquarylaw13.AttrReadsBack returns true for every input, and leaves its arguments as they were. No conditions. -/
import Derived.Test.YtnjopfjmepbpoaaC5
/- Law AttrReadsBack: what is decoded is small; the walk. -/
namespace Go.Proofs.Ytnjopfjmepbpoaa
set_option linter.unusedSimpArgs false
set_option linter.unusedVariables false
set_option linter.unnecessarySimpa false
open Go.RowKit

theorem getN_fit : ∀ (n : Nat) (bs : List Int), Byte bs → ∀ z ∈ (getN n bs).1, Fit64 z
  | 0, bs, _, z, h => by simp [getN] at h
  | n + 1, bs, hby, z, h => by
    rw [getN] at h
    split at h
    · simp at h
    · rename_i h1
      split at h
      · simp at h
      · rcases List.mem_cons.1 h with rfl | h
        · obtain ⟨-, -, h3, h4⟩ := getI_ok bs hby.all (by simpa using h1)
          exact ⟨h3, h4⟩
        · exact getN_fit n _ (hby.drop _) z h
theorem getInts_fit (bs : List Int) (hby : Byte bs) : ∀ z ∈ (getInts bs).1, Fit64 z := by
  intro z h
  rw [getInts] at h
  split at h
  · simp at h
  · rw [andThen] at h
    split at h
    · simp at h
    · exact getN_fit _ _ (hby.drop _) z (by simpa using h)

theorem ints_ge (ds : List Int) : ds.length ≤ (intsB ds).length := by
  rw [intsB, List.length_append]
  have : ∀ l : List Int, l.length ≤ ((l.map intB).flatten).length := by
    intro l
    induction l with
    | nil => simp
    | cons x l ih =>
      have : 1 ≤ (intB x).length := leb_pos _
      simp only [List.map_cons, List.flatten_cons, List.length_append, List.length_cons]; omega
  have := this ds
  omega
theorem dec_good (bs : List Int) (hby : Byte bs) (hl : bs.length ≤ 2000) (x : PEntry) (h : decE bs = (x, 0)) : FitE x ∧ SmallE x := by
  have h0 := enc_decE bs x hby.all h
  obtain ⟨n, u, e, h1⟩ : ∃ n u e, getInts bs = (n, u, e) := ⟨_, _, _, rfl⟩
  have hfit := getInts_fit bs hby
  rw [decE, h1] at h
  rw [h1] at hfit
  simp only at h hfit
  split at h
  · rename_i he; simp only [Prod.mk.injEq] at h; exact absurd h.2 he
  · obtain ⟨s, u2, e2, h2⟩ : ∃ s u2 e2, getStrs (bs.drop u.toNat) = (s, u2, e2) := ⟨_, _, _, rfl⟩
    rename_i he0
    obtain rfl : e = 0 := by simpa using he0
    rw [h2] at h
    simp only at h
    split at h
    · rename_i he; simp only [Prod.mk.injEq] at h; exact absurd h.2 he
    · rename_i he1
      obtain rfl : e2 = 0 := by simpa using he1
      split at h
      · simp at h
      · rename_i hlen
        split at h
        · rename_i y hy
          simp only [Prod.mk.injEq, and_true] at h
          subst h
          obtain ⟨k1, k2⟩ := entOf_back n s y hy
          have hsz := getStrs_len (bs.drop u.toNat) s u2 (hby.drop _).all h2
          have hn1 := getInts_short bs n u hby.all h1
          have l1 := encN_len y
          have l2 := attrS_len y.attrs
          obtain ⟨t1, t2, t3⟩ := getInts_take bs n u hby.all h1
          have t4 : (bs.take u.toNat).length = (intsB n).length := by rw [t1]
          have t5 := ints_ge n
          rw [List.length_take] at t4
          rw [List.length_drop] at hsz
          have hle : n.length + s.length ≤ 2000 := by have := hsz.1; omega
          rw [k1] at l1
          rw [k2] at l2
          refine ⟨?_, ⟨by omega, by omega, fun a ha => ?_⟩⟩
          · have hm : ∀ z ∈ encN y, Fit64 z := by rw [k1]; exact hfit
            simp only [encN, headN, List.mem_append, List.mem_cons, List.not_mem_nil, or_false] at hm
            refine ⟨hm _ (by simp), hm _ (by simp), hm _ (by simp), hm _ (by simp), hm _ (by simp), hm _ (by simp), hm _ (by simp), fun z hz => hm z (by simp [hz]), fun a ha => ?_⟩
            have : a.kind ∈ attrN y.attrs ∧ a.n ∈ attrN y.attrs := by
              simp only [attrN, List.mem_flatten, List.mem_map]
              exact ⟨⟨_, ⟨a, ha, rfl⟩, by simp⟩, ⟨_, ⟨a, ha, rfl⟩, by simp⟩⟩
            exact ⟨hm _ (by simp [this.1]), hm _ (by simp [this.2])⟩
          · have : a.name ∈ attrS y.attrs ∧ a.s ∈ attrS y.attrs := by
              simp only [attrS, List.mem_flatten, List.mem_map]
              exact ⟨⟨_, ⟨a, ha, rfl⟩, by simp⟩, ⟨_, ⟨a, ha, rfl⟩, by simp⟩⟩
            rw [k2] at this
            have q1 := hsz.2 _ this.1
            have q2 := hsz.2 _ this.2
            omega
        · simp at h

theorem enc_inj (x y : PEntry) (h1 : FitE x) (h2 : SmallE x) (h3 : FitE y) (h4 : SmallE y) (h : encE x = encE y) : x = y := by
  have a := decE_enc x h1 h2
  have b := decE_enc y h3 h4
  rw [h, b] at a
  exact ((Prod.mk.inj a).1).symm
theorem strI_inj {a b : List Int} (ha : ∀ c ∈ a, 0 ≤ c ∧ c < 256) (hb : ∀ c ∈ b, 0 ≤ c ∧ c < 256) (h : strI a = strI b) : a = b := strOf_inj ha hb h
theorem eqB_iff {a b : ByteArray} : (a.toList == b.toList) = true ↔ a = b := by
  rw [ByteArray.toList_eq, ByteArray.toList_eq, beq_iff_eq]
  exact ⟨fun h => ba_ext h, fun h => h ▸ rfl⟩
theorem few_small {e : PEntry} (h : FewE e) : SmallE e := ⟨by have := h.1; omega, by have := h.2.1; omega, fun a ha => by have := h.2.2 a ha; unfold FewA at this; omega⟩
theorem toList_ne {a b : ByteArray} (h : a ≠ b) : (a.toList == b.toList) = false := by
  cases hh : (a.toList == b.toList) with
  | false => rfl
  | true => exact absurd (eqB_iff.1 hh) h

set_option maxRecDepth 10000 in
set_option maxHeartbeats 4000000 in
theorem pw_readsBack (x y : PEntry) (bs : List Int) (hx : FitE x) (hy : FitE y) (hby : Byte bs) (x1 : x.vec.length ≤ 20000000000000) (x2 : x.attrs.length ≤ 20000000000000) (y1 : y.vec.length ≤ 20000000000000) (y2 : y.attrs.length ≤ 20000000000000) : PCalls Try.prog 4 [pentry x, pentry y, pbytes bs] (· = pbool true) := by
  refine pcalls_of_pw typeTab_ok Try.func4 rfl (by kernel_rfl) (by (first | exact low_mapI | exact low_mapS | exact low_mapB | simp [low_val, low_nilsl, low_sl, low_ep, low_agg, low_tup, low_fn, low_pint, low_pstr, low_pbool, low_pints, low_pstrs, low_pbyte, low_pbytes, low_pattrs, low_pdefs, low_pschema, low_pentry])) (by simp [pentry, pbytes, PV.ownB]) (by rw [Try.ntmps4]; simp) ?_
  rw [Try.ntmps4, Try.results4]
  have c0 := pw_sanity
  have cx := pw_few x x2 x1
  have cy := pw_few y y2 y1
  cases fx : fewB x with
  | false =>
    rw [fx] at cx
    (repeat (first | (with_reducible first | refine PW.seq ?_ | refine PW.block ?_ | refine PW.skip ?_ | refine PW.exit ?_ | refine PW.ret ?_ | refine thenP ?_ | refine thenP_exit ?_ | refine thenP_ret ?_ | refine blockP ?_ | refine blockP_exit ?_ | refine blockP_ret ?_ | refine loopP_exit ?_ | refine loopP_ret ?_) | ((with_reducible refine PWops.idd ?_) ; first | (first | refine PWops.stepA rfl ?_ | refine PWops.doneI rfl ?_ | refine PWops.boolK true rfl rfl rfl rfl (by (first | rfl | assumption | (simp only [decide_eq_true_eq, decide_eq_false_iff_not, bne_iff_ne, beq_iff_eq, beq_eq_false_iff_ne, bne_eq_false_iff_eq, ne_eq] ; omega))) rfl ?_ | refine PWops.boolK false rfl rfl rfl rfl (by (first | rfl | assumption | (simp only [decide_eq_true_eq, decide_eq_false_iff_not, bne_iff_ne, beq_iff_eq, beq_eq_false_iff_ne, bne_eq_false_iff_eq, ne_eq] ; omega))) rfl ?_ | refine PWops.fitsK rfl rfl rfl rfl (by omega) (by omega) rfl ?_ | refine PWops.remK rfl rfl rfl rfl (by omega) rfl ?_ | refine PWops.quoK rfl rfl rfl rfl (by omega) rfl ?_ | refine PWops.app rfl rfl rfl rfl rfl rfl rfl (by omega) (by omega) (by first | rfl | exact one_pint _ | exact one_pstr _ | exact one_pbyte _ | exact one_pattrs _) ?_ | refine PWops.app0 rfl rfl rfl rfl rfl rfl rfl (by omega) (by omega) (by first | rfl | exact one_pint _ | exact one_pstr _ | exact one_pbyte _ | exact one_pattrs _) ?_ | refine PWops.idx1 rfl rfl rfl rfl rfl rfl rfl rfl (by omega) ?_ | refine PWops.idx rfl rfl rfl rfl rfl rfl rfl rfl (by omega) ?_ | refine PWops.ld rfl rfl rfl rfl rfl rfl rfl (by assumption) rfl ?_ | refine PWops.ldA rfl rfl rfl rfl rfl rfl (by omega) (by assumption) ?_ | refine PWops.str rfl rfl rfl rfl rfl rfl rfl rfl rfl rfl rfl ?_) | (first | (refine PWops.call rfl rfl rfl (by assumption) ?_) | refine PWops.idxZ1 rfl rfl rfl rfl rfl rfl rfl rfl (by omega) ?_ | refine PWops.idxZ rfl rfl rfl rfl rfl rfl rfl rfl (by omega) ?_ | refine PWops.ld rfl rfl rfl rfl rfl rfl rfl rfl rfl ?_ | refine PWops.slcL rfl rfl rfl rfl rfl rfl rfl rfl (by omega) ?_ | refine PWops.slcH rfl rfl rfl rfl rfl rfl rfl rfl (by omega) ?_ | refine PWops.slcRL rfl rfl rfl rfl rfl rfl rfl rfl (by intro; rfl) (by omega) ?_ | refine PWops.slcRH rfl rfl rfl rfl rfl rfl rfl rfl (by intro; rfl) (by omega) ?_ | refine PWops.slcM rfl rfl rfl rfl rfl rfl rfl rfl rfl (by omega) ?_ | refine PWops.ldM rfl rfl rfl rfl rfl rfl rfl (by omega) rfl ?_ | refine PWops.ldR rfl rfl rfl rfl rfl rfl rfl (by intro; rfl) (by omega) rfl rfl ?_ | refine PWops.ldRA rfl rfl rfl rfl rfl rfl (by intro; rfl) (by omega) rfl ?_)) | (first | ((with_reducible refine PW.idd ?_) ; (first | refine PW.region typeTab_ok (by kernel_rfl) ?_ | refine PW.draw typeTab_ok (by kernel_rfl) (by kernel_rfl) (by kernel_rfl) ?_ | refine PW.condT rfl ?_ | refine PW.condF rfl ?_ | refine blockP_other (by decide) ?_)) | with_reducible refine blockP_other (by decide) ?_)))
    exact retP rfl (by (first | exact low_mapI | exact low_mapS | exact low_mapB | simp [low_val, low_nilsl, low_sl, low_ep, low_agg, low_tup, low_fn, low_pint, low_pstr, low_pbool, low_pints, low_pstrs, low_pbyte, low_pbytes, low_pattrs, low_pdefs, low_pschema, low_pentry])) rfl
  | true =>
  rw [fx] at cx
  cases fy : fewB y with
  | false =>
    rw [fy] at cy
    (repeat (first | (with_reducible first | refine PW.seq ?_ | refine PW.block ?_ | refine PW.skip ?_ | refine PW.exit ?_ | refine PW.ret ?_ | refine thenP ?_ | refine thenP_exit ?_ | refine thenP_ret ?_ | refine blockP ?_ | refine blockP_exit ?_ | refine blockP_ret ?_ | refine loopP_exit ?_ | refine loopP_ret ?_) | ((with_reducible refine PWops.idd ?_) ; first | (first | refine PWops.stepA rfl ?_ | refine PWops.doneI rfl ?_ | refine PWops.boolK true rfl rfl rfl rfl (by (first | rfl | assumption | (simp only [decide_eq_true_eq, decide_eq_false_iff_not, bne_iff_ne, beq_iff_eq, beq_eq_false_iff_ne, bne_eq_false_iff_eq, ne_eq] ; omega))) rfl ?_ | refine PWops.boolK false rfl rfl rfl rfl (by (first | rfl | assumption | (simp only [decide_eq_true_eq, decide_eq_false_iff_not, bne_iff_ne, beq_iff_eq, beq_eq_false_iff_ne, bne_eq_false_iff_eq, ne_eq] ; omega))) rfl ?_ | refine PWops.fitsK rfl rfl rfl rfl (by omega) (by omega) rfl ?_ | refine PWops.remK rfl rfl rfl rfl (by omega) rfl ?_ | refine PWops.quoK rfl rfl rfl rfl (by omega) rfl ?_ | refine PWops.app rfl rfl rfl rfl rfl rfl rfl (by omega) (by omega) (by first | rfl | exact one_pint _ | exact one_pstr _ | exact one_pbyte _ | exact one_pattrs _) ?_ | refine PWops.app0 rfl rfl rfl rfl rfl rfl rfl (by omega) (by omega) (by first | rfl | exact one_pint _ | exact one_pstr _ | exact one_pbyte _ | exact one_pattrs _) ?_ | refine PWops.idx1 rfl rfl rfl rfl rfl rfl rfl rfl (by omega) ?_ | refine PWops.idx rfl rfl rfl rfl rfl rfl rfl rfl (by omega) ?_ | refine PWops.ld rfl rfl rfl rfl rfl rfl rfl (by assumption) rfl ?_ | refine PWops.ldA rfl rfl rfl rfl rfl rfl (by omega) (by assumption) ?_ | refine PWops.str rfl rfl rfl rfl rfl rfl rfl rfl rfl rfl rfl ?_) | (first | (refine PWops.call rfl rfl rfl (by assumption) ?_) | refine PWops.idxZ1 rfl rfl rfl rfl rfl rfl rfl rfl (by omega) ?_ | refine PWops.idxZ rfl rfl rfl rfl rfl rfl rfl rfl (by omega) ?_ | refine PWops.ld rfl rfl rfl rfl rfl rfl rfl rfl rfl ?_ | refine PWops.slcL rfl rfl rfl rfl rfl rfl rfl rfl (by omega) ?_ | refine PWops.slcH rfl rfl rfl rfl rfl rfl rfl rfl (by omega) ?_ | refine PWops.slcRL rfl rfl rfl rfl rfl rfl rfl rfl (by intro; rfl) (by omega) ?_ | refine PWops.slcRH rfl rfl rfl rfl rfl rfl rfl rfl (by intro; rfl) (by omega) ?_ | refine PWops.slcM rfl rfl rfl rfl rfl rfl rfl rfl rfl (by omega) ?_ | refine PWops.ldM rfl rfl rfl rfl rfl rfl rfl (by omega) rfl ?_ | refine PWops.ldR rfl rfl rfl rfl rfl rfl rfl (by intro; rfl) (by omega) rfl rfl ?_ | refine PWops.ldRA rfl rfl rfl rfl rfl rfl (by intro; rfl) (by omega) rfl ?_)) | (first | ((with_reducible refine PW.idd ?_) ; (first | refine PW.region typeTab_ok (by kernel_rfl) ?_ | refine PW.draw typeTab_ok (by kernel_rfl) (by kernel_rfl) (by kernel_rfl) ?_ | refine PW.condT rfl ?_ | refine PW.condF rfl ?_ | refine blockP_other (by decide) ?_)) | with_reducible refine blockP_other (by decide) ?_)))
    exact retP rfl (by (first | exact low_mapI | exact low_mapS | exact low_mapB | simp [low_val, low_nilsl, low_sl, low_ep, low_agg, low_tup, low_fn, low_pint, low_pstr, low_pbool, low_pints, low_pstrs, low_pbyte, low_pbytes, low_pattrs, low_pdefs, low_pschema, low_pentry])) rfl
  | true =>
  rw [fy] at cy
  (repeat (first | (with_reducible first | refine PW.seq ?_ | refine PW.block ?_ | refine PW.skip ?_ | refine PW.exit ?_ | refine PW.ret ?_ | refine thenP ?_ | refine thenP_exit ?_ | refine thenP_ret ?_ | refine blockP ?_ | refine blockP_exit ?_ | refine blockP_ret ?_ | refine loopP_exit ?_ | refine loopP_ret ?_) | ((with_reducible refine PWops.idd ?_) ; first | (first | refine PWops.stepA rfl ?_ | refine PWops.doneI rfl ?_ | refine PWops.boolK true rfl rfl rfl rfl (by (first | rfl | assumption | (simp only [decide_eq_true_eq, decide_eq_false_iff_not, bne_iff_ne, beq_iff_eq, beq_eq_false_iff_ne, bne_eq_false_iff_eq, ne_eq] ; omega))) rfl ?_ | refine PWops.boolK false rfl rfl rfl rfl (by (first | rfl | assumption | (simp only [decide_eq_true_eq, decide_eq_false_iff_not, bne_iff_ne, beq_iff_eq, beq_eq_false_iff_ne, bne_eq_false_iff_eq, ne_eq] ; omega))) rfl ?_ | refine PWops.fitsK rfl rfl rfl rfl (by omega) (by omega) rfl ?_ | refine PWops.remK rfl rfl rfl rfl (by omega) rfl ?_ | refine PWops.quoK rfl rfl rfl rfl (by omega) rfl ?_ | refine PWops.app rfl rfl rfl rfl rfl rfl rfl (by omega) (by omega) (by first | rfl | exact one_pint _ | exact one_pstr _ | exact one_pbyte _ | exact one_pattrs _) ?_ | refine PWops.app0 rfl rfl rfl rfl rfl rfl rfl (by omega) (by omega) (by first | rfl | exact one_pint _ | exact one_pstr _ | exact one_pbyte _ | exact one_pattrs _) ?_ | refine PWops.idx1 rfl rfl rfl rfl rfl rfl rfl rfl (by omega) ?_ | refine PWops.idx rfl rfl rfl rfl rfl rfl rfl rfl (by omega) ?_ | refine PWops.ld rfl rfl rfl rfl rfl rfl rfl (by assumption) rfl ?_ | refine PWops.ldA rfl rfl rfl rfl rfl rfl (by omega) (by assumption) ?_ | refine PWops.str rfl rfl rfl rfl rfl rfl rfl rfl rfl rfl rfl ?_) | (first | (refine PWops.call rfl rfl rfl (by assumption) ?_) | refine PWops.idxZ1 rfl rfl rfl rfl rfl rfl rfl rfl (by omega) ?_ | refine PWops.idxZ rfl rfl rfl rfl rfl rfl rfl rfl (by omega) ?_ | refine PWops.ld rfl rfl rfl rfl rfl rfl rfl rfl rfl ?_ | refine PWops.slcL rfl rfl rfl rfl rfl rfl rfl rfl (by omega) ?_ | refine PWops.slcH rfl rfl rfl rfl rfl rfl rfl rfl (by omega) ?_ | refine PWops.slcRL rfl rfl rfl rfl rfl rfl rfl rfl (by intro; rfl) (by omega) ?_ | refine PWops.slcRH rfl rfl rfl rfl rfl rfl rfl rfl (by intro; rfl) (by omega) ?_ | refine PWops.slcM rfl rfl rfl rfl rfl rfl rfl rfl rfl (by omega) ?_ | refine PWops.ldM rfl rfl rfl rfl rfl rfl rfl (by omega) rfl ?_ | refine PWops.ldR rfl rfl rfl rfl rfl rfl rfl (by intro; rfl) (by omega) rfl rfl ?_ | refine PWops.ldRA rfl rfl rfl rfl rfl rfl (by intro; rfl) (by omega) rfl ?_)) | (first | ((with_reducible refine PW.idd ?_) ; (first | refine PW.region typeTab_ok (by kernel_rfl) ?_ | refine PW.draw typeTab_ok (by kernel_rfl) (by kernel_rfl) (by kernel_rfl) ?_ | refine PW.condT rfl ?_ | refine PW.condF rfl ?_ | refine blockP_other (by decide) ?_)) | with_reducible refine blockP_other (by decide) ?_)))
  by_cases hl : bs.length ≤ 2000
  case neg =>
    (repeat (first | (with_reducible first | refine PW.seq ?_ | refine PW.block ?_ | refine PW.skip ?_ | refine PW.exit ?_ | refine PW.ret ?_ | refine thenP ?_ | refine thenP_exit ?_ | refine thenP_ret ?_ | refine blockP ?_ | refine blockP_exit ?_ | refine blockP_ret ?_ | refine loopP_exit ?_ | refine loopP_ret ?_) | ((with_reducible refine PWops.idd ?_) ; first | (first | refine PWops.stepA rfl ?_ | refine PWops.doneI rfl ?_ | refine PWops.boolK true rfl rfl rfl rfl (by (first | rfl | assumption | (simp only [decide_eq_true_eq, decide_eq_false_iff_not, bne_iff_ne, beq_iff_eq, beq_eq_false_iff_ne, bne_eq_false_iff_eq, ne_eq] ; omega))) rfl ?_ | refine PWops.boolK false rfl rfl rfl rfl (by (first | rfl | assumption | (simp only [decide_eq_true_eq, decide_eq_false_iff_not, bne_iff_ne, beq_iff_eq, beq_eq_false_iff_ne, bne_eq_false_iff_eq, ne_eq] ; omega))) rfl ?_ | refine PWops.fitsK rfl rfl rfl rfl (by omega) (by omega) rfl ?_ | refine PWops.remK rfl rfl rfl rfl (by omega) rfl ?_ | refine PWops.quoK rfl rfl rfl rfl (by omega) rfl ?_ | refine PWops.app rfl rfl rfl rfl rfl rfl rfl (by omega) (by omega) (by first | rfl | exact one_pint _ | exact one_pstr _ | exact one_pbyte _ | exact one_pattrs _) ?_ | refine PWops.app0 rfl rfl rfl rfl rfl rfl rfl (by omega) (by omega) (by first | rfl | exact one_pint _ | exact one_pstr _ | exact one_pbyte _ | exact one_pattrs _) ?_ | refine PWops.idx1 rfl rfl rfl rfl rfl rfl rfl rfl (by omega) ?_ | refine PWops.idx rfl rfl rfl rfl rfl rfl rfl rfl (by omega) ?_ | refine PWops.ld rfl rfl rfl rfl rfl rfl rfl (by assumption) rfl ?_ | refine PWops.ldA rfl rfl rfl rfl rfl rfl (by omega) (by assumption) ?_ | refine PWops.str rfl rfl rfl rfl rfl rfl rfl rfl rfl rfl rfl ?_) | (first | (refine PWops.call rfl rfl rfl (by assumption) ?_) | refine PWops.idxZ1 rfl rfl rfl rfl rfl rfl rfl rfl (by omega) ?_ | refine PWops.idxZ rfl rfl rfl rfl rfl rfl rfl rfl (by omega) ?_ | refine PWops.ld rfl rfl rfl rfl rfl rfl rfl rfl rfl ?_ | refine PWops.slcL rfl rfl rfl rfl rfl rfl rfl rfl (by omega) ?_ | refine PWops.slcH rfl rfl rfl rfl rfl rfl rfl rfl (by omega) ?_ | refine PWops.slcRL rfl rfl rfl rfl rfl rfl rfl rfl (by intro; rfl) (by omega) ?_ | refine PWops.slcRH rfl rfl rfl rfl rfl rfl rfl rfl (by intro; rfl) (by omega) ?_ | refine PWops.slcM rfl rfl rfl rfl rfl rfl rfl rfl rfl (by omega) ?_ | refine PWops.ldM rfl rfl rfl rfl rfl rfl rfl (by omega) rfl ?_ | refine PWops.ldR rfl rfl rfl rfl rfl rfl rfl (by intro; rfl) (by omega) rfl rfl ?_ | refine PWops.ldRA rfl rfl rfl rfl rfl rfl (by intro; rfl) (by omega) rfl ?_)) | (first | ((with_reducible refine PW.idd ?_) ; (first | refine PW.region typeTab_ok (by kernel_rfl) ?_ | refine PW.draw typeTab_ok (by kernel_rfl) (by kernel_rfl) (by kernel_rfl) ?_ | refine PW.condT rfl ?_ | refine PW.condF rfl ?_ | refine blockP_other (by decide) ?_)) | with_reducible refine blockP_other (by decide) ?_)))
    exact retP rfl (by (first | exact low_mapI | exact low_mapS | exact low_mapB | simp [low_val, low_nilsl, low_sl, low_ep, low_agg, low_tup, low_fn, low_pint, low_pstr, low_pbool, low_pints, low_pstrs, low_pbyte, low_pbytes, low_pattrs, low_pdefs, low_pschema, low_pentry])) rfl
  have sx := few_small (fewB_few fx)
  have sy := few_small (fewB_few fy)
  have e1 := pcEncode x hx sx
  have e2 := pcEncode y hy sy
  have d1 := pcDecEnc x hx sx
  have d2 := pw_decode bs hby (by omega)
  have s1 := pw_attrSame x x (by have := sx.vec; omega) (by have := sx.vec; omega) (by have := sx.attrs; omega) (by have := sx.attrs; omega)
  rw [decide_eq_true rfl] at s1
  have q1 := pw_lawEqual x x (by have := sx.vec; omega) (by have := sx.vec; omega) (by have := sx.attrs; omega) (by have := sx.attrs; omega)
  rw [decide_eq_true rfl] at q1
  have q2 := pw_lawEqual x y (by have := sx.vec; omega) (by have := sy.vec; omega) (by have := sx.attrs; omega) (by have := sy.attrs; omega)
  have hcmp : ((strI (encE x)).toList == (strI (encE y)).toList) = decide (x = y) := by
    by_cases h : x = y
    · subst h; simp
    · rw [decide_eq_false h]
      exact toList_ne (fun e => h (enc_inj x y hx sx hy sy (strI_inj (encE_byte x) (encE_byte y) e)))
  (repeat (first | (with_reducible first | refine PW.seq ?_ | refine PW.block ?_ | refine PW.skip ?_ | refine PW.exit ?_ | refine PW.ret ?_ | refine thenP ?_ | refine thenP_exit ?_ | refine thenP_ret ?_ | refine blockP ?_ | refine blockP_exit ?_ | refine blockP_ret ?_ | refine loopP_exit ?_ | refine loopP_ret ?_) | ((with_reducible refine PWops.idd ?_) ; first | (first | refine PWops.stepA rfl ?_ | refine PWops.doneI rfl ?_ | refine PWops.boolK true rfl rfl rfl rfl (by (first | rfl | assumption | (simp only [decide_eq_true_eq, decide_eq_false_iff_not, bne_iff_ne, beq_iff_eq, beq_eq_false_iff_ne, bne_eq_false_iff_eq, ne_eq] ; omega))) rfl ?_ | refine PWops.boolK false rfl rfl rfl rfl (by (first | rfl | assumption | (simp only [decide_eq_true_eq, decide_eq_false_iff_not, bne_iff_ne, beq_iff_eq, beq_eq_false_iff_ne, bne_eq_false_iff_eq, ne_eq] ; omega))) rfl ?_ | refine PWops.fitsK rfl rfl rfl rfl (by omega) (by omega) rfl ?_ | refine PWops.remK rfl rfl rfl rfl (by omega) rfl ?_ | refine PWops.quoK rfl rfl rfl rfl (by omega) rfl ?_ | refine PWops.app rfl rfl rfl rfl rfl rfl rfl (by omega) (by omega) (by first | rfl | exact one_pint _ | exact one_pstr _ | exact one_pbyte _ | exact one_pattrs _) ?_ | refine PWops.app0 rfl rfl rfl rfl rfl rfl rfl (by omega) (by omega) (by first | rfl | exact one_pint _ | exact one_pstr _ | exact one_pbyte _ | exact one_pattrs _) ?_ | refine PWops.idx1 rfl rfl rfl rfl rfl rfl rfl rfl (by omega) ?_ | refine PWops.idx rfl rfl rfl rfl rfl rfl rfl rfl (by omega) ?_ | refine PWops.ld rfl rfl rfl rfl rfl rfl rfl (by assumption) rfl ?_ | refine PWops.ldA rfl rfl rfl rfl rfl rfl (by omega) (by assumption) ?_ | refine PWops.str rfl rfl rfl rfl rfl rfl rfl rfl rfl rfl rfl ?_) | (first | (refine PWops.call rfl rfl rfl (by assumption) ?_) | refine PWops.idxZ1 rfl rfl rfl rfl rfl rfl rfl rfl (by omega) ?_ | refine PWops.idxZ rfl rfl rfl rfl rfl rfl rfl rfl (by omega) ?_ | refine PWops.ld rfl rfl rfl rfl rfl rfl rfl rfl rfl ?_ | refine PWops.slcL rfl rfl rfl rfl rfl rfl rfl rfl (by omega) ?_ | refine PWops.slcH rfl rfl rfl rfl rfl rfl rfl rfl (by omega) ?_ | refine PWops.slcRL rfl rfl rfl rfl rfl rfl rfl rfl (by intro; rfl) (by omega) ?_ | refine PWops.slcRH rfl rfl rfl rfl rfl rfl rfl rfl (by intro; rfl) (by omega) ?_ | refine PWops.slcM rfl rfl rfl rfl rfl rfl rfl rfl rfl (by omega) ?_ | refine PWops.ldM rfl rfl rfl rfl rfl rfl rfl (by omega) rfl ?_ | refine PWops.ldR rfl rfl rfl rfl rfl rfl rfl (by intro; rfl) (by omega) rfl rfl ?_ | refine PWops.ldRA rfl rfl rfl rfl rfl rfl (by intro; rfl) (by omega) rfl ?_)) | (first | ((with_reducible refine PW.idd ?_) ; (first | refine PW.region typeTab_ok (by kernel_rfl) ?_ | refine PW.draw typeTab_ok (by kernel_rfl) (by kernel_rfl) (by kernel_rfl) ?_ | refine PW.condT rfl ?_ | refine PW.condF rfl ?_ | refine blockP_other (by decide) ?_)) | with_reducible refine blockP_other (by decide) ?_)))
  refine PWops.bool (decide (x = y)) rfl rfl rfl hcmp rfl ?_
  (repeat (first | (with_reducible first | refine PW.seq ?_ | refine PW.block ?_ | refine PW.skip ?_ | refine PW.exit ?_ | refine PW.ret ?_ | refine thenP ?_ | refine thenP_exit ?_ | refine thenP_ret ?_ | refine blockP ?_ | refine blockP_exit ?_ | refine blockP_ret ?_ | refine loopP_exit ?_ | refine loopP_ret ?_) | ((with_reducible refine PWops.idd ?_) ; first | (first | refine PWops.stepA rfl ?_ | refine PWops.doneI rfl ?_ | refine PWops.boolK true rfl rfl rfl rfl (by (first | rfl | assumption | (simp only [decide_eq_true_eq, decide_eq_false_iff_not, bne_iff_ne, beq_iff_eq, beq_eq_false_iff_ne, bne_eq_false_iff_eq, ne_eq] ; omega))) rfl ?_ | refine PWops.boolK false rfl rfl rfl rfl (by (first | rfl | assumption | (simp only [decide_eq_true_eq, decide_eq_false_iff_not, bne_iff_ne, beq_iff_eq, beq_eq_false_iff_ne, bne_eq_false_iff_eq, ne_eq] ; omega))) rfl ?_ | refine PWops.fitsK rfl rfl rfl rfl (by omega) (by omega) rfl ?_ | refine PWops.remK rfl rfl rfl rfl (by omega) rfl ?_ | refine PWops.quoK rfl rfl rfl rfl (by omega) rfl ?_ | refine PWops.app rfl rfl rfl rfl rfl rfl rfl (by omega) (by omega) (by first | rfl | exact one_pint _ | exact one_pstr _ | exact one_pbyte _ | exact one_pattrs _) ?_ | refine PWops.app0 rfl rfl rfl rfl rfl rfl rfl (by omega) (by omega) (by first | rfl | exact one_pint _ | exact one_pstr _ | exact one_pbyte _ | exact one_pattrs _) ?_ | refine PWops.idx1 rfl rfl rfl rfl rfl rfl rfl rfl (by omega) ?_ | refine PWops.idx rfl rfl rfl rfl rfl rfl rfl rfl (by omega) ?_ | refine PWops.ld rfl rfl rfl rfl rfl rfl rfl (by assumption) rfl ?_ | refine PWops.ldA rfl rfl rfl rfl rfl rfl (by omega) (by assumption) ?_ | refine PWops.str rfl rfl rfl rfl rfl rfl rfl rfl rfl rfl rfl ?_) | (first | (refine PWops.call rfl rfl rfl (by assumption) ?_) | refine PWops.idxZ1 rfl rfl rfl rfl rfl rfl rfl rfl (by omega) ?_ | refine PWops.idxZ rfl rfl rfl rfl rfl rfl rfl rfl (by omega) ?_ | refine PWops.ld rfl rfl rfl rfl rfl rfl rfl rfl rfl ?_ | refine PWops.slcL rfl rfl rfl rfl rfl rfl rfl rfl (by omega) ?_ | refine PWops.slcH rfl rfl rfl rfl rfl rfl rfl rfl (by omega) ?_ | refine PWops.slcRL rfl rfl rfl rfl rfl rfl rfl rfl (by intro; rfl) (by omega) ?_ | refine PWops.slcRH rfl rfl rfl rfl rfl rfl rfl rfl (by intro; rfl) (by omega) ?_ | refine PWops.slcM rfl rfl rfl rfl rfl rfl rfl rfl rfl (by omega) ?_ | refine PWops.ldM rfl rfl rfl rfl rfl rfl rfl (by omega) rfl ?_ | refine PWops.ldR rfl rfl rfl rfl rfl rfl rfl (by intro; rfl) (by omega) rfl rfl ?_ | refine PWops.ldRA rfl rfl rfl rfl rfl rfl (by intro; rfl) (by omega) rfl ?_)) | (first | ((with_reducible refine PW.idd ?_) ; (first | refine PW.region typeTab_ok (by kernel_rfl) ?_ | refine PW.draw typeTab_ok (by kernel_rfl) (by kernel_rfl) (by kernel_rfl) ?_ | refine PW.condT rfl ?_ | refine PW.condF rfl ?_ | refine blockP_other (by decide) ?_)) | with_reducible refine blockP_other (by decide) ?_)))
  refine PWops.boolK false rfl rfl rfl rfl (by simp) rfl ?_
  (repeat (first | (with_reducible first | refine PW.seq ?_ | refine PW.block ?_ | refine PW.skip ?_ | refine PW.exit ?_ | refine PW.ret ?_ | refine thenP ?_ | refine thenP_exit ?_ | refine thenP_ret ?_ | refine blockP ?_ | refine blockP_exit ?_ | refine blockP_ret ?_ | refine loopP_exit ?_ | refine loopP_ret ?_) | ((with_reducible refine PWops.idd ?_) ; first | (first | refine PWops.stepA rfl ?_ | refine PWops.doneI rfl ?_ | refine PWops.boolK true rfl rfl rfl rfl (by (first | rfl | assumption | (simp only [decide_eq_true_eq, decide_eq_false_iff_not, bne_iff_ne, beq_iff_eq, beq_eq_false_iff_ne, bne_eq_false_iff_eq, ne_eq] ; omega))) rfl ?_ | refine PWops.boolK false rfl rfl rfl rfl (by (first | rfl | assumption | (simp only [decide_eq_true_eq, decide_eq_false_iff_not, bne_iff_ne, beq_iff_eq, beq_eq_false_iff_ne, bne_eq_false_iff_eq, ne_eq] ; omega))) rfl ?_ | refine PWops.fitsK rfl rfl rfl rfl (by omega) (by omega) rfl ?_ | refine PWops.remK rfl rfl rfl rfl (by omega) rfl ?_ | refine PWops.quoK rfl rfl rfl rfl (by omega) rfl ?_ | refine PWops.app rfl rfl rfl rfl rfl rfl rfl (by omega) (by omega) (by first | rfl | exact one_pint _ | exact one_pstr _ | exact one_pbyte _ | exact one_pattrs _) ?_ | refine PWops.app0 rfl rfl rfl rfl rfl rfl rfl (by omega) (by omega) (by first | rfl | exact one_pint _ | exact one_pstr _ | exact one_pbyte _ | exact one_pattrs _) ?_ | refine PWops.idx1 rfl rfl rfl rfl rfl rfl rfl rfl (by omega) ?_ | refine PWops.idx rfl rfl rfl rfl rfl rfl rfl rfl (by omega) ?_ | refine PWops.ld rfl rfl rfl rfl rfl rfl rfl (by assumption) rfl ?_ | refine PWops.ldA rfl rfl rfl rfl rfl rfl (by omega) (by assumption) ?_ | refine PWops.str rfl rfl rfl rfl rfl rfl rfl rfl rfl rfl rfl ?_) | (first | (refine PWops.call rfl rfl rfl (by assumption) ?_) | refine PWops.idxZ1 rfl rfl rfl rfl rfl rfl rfl rfl (by omega) ?_ | refine PWops.idxZ rfl rfl rfl rfl rfl rfl rfl rfl (by omega) ?_ | refine PWops.ld rfl rfl rfl rfl rfl rfl rfl rfl rfl ?_ | refine PWops.slcL rfl rfl rfl rfl rfl rfl rfl rfl (by omega) ?_ | refine PWops.slcH rfl rfl rfl rfl rfl rfl rfl rfl (by omega) ?_ | refine PWops.slcRL rfl rfl rfl rfl rfl rfl rfl rfl (by intro; rfl) (by omega) ?_ | refine PWops.slcRH rfl rfl rfl rfl rfl rfl rfl rfl (by intro; rfl) (by omega) ?_ | refine PWops.slcM rfl rfl rfl rfl rfl rfl rfl rfl rfl (by omega) ?_ | refine PWops.ldM rfl rfl rfl rfl rfl rfl rfl (by omega) rfl ?_ | refine PWops.ldR rfl rfl rfl rfl rfl rfl rfl (by intro; rfl) (by omega) rfl rfl ?_ | refine PWops.ldRA rfl rfl rfl rfl rfl rfl (by intro; rfl) (by omega) rfl ?_)) | (first | ((with_reducible refine PW.idd ?_) ; (first | refine PW.region typeTab_ok (by kernel_rfl) ?_ | refine PW.draw typeTab_ok (by kernel_rfl) (by kernel_rfl) (by kernel_rfl) ?_ | refine PW.condT rfl ?_ | refine PW.condF rfl ?_ | refine blockP_other (by decide) ?_)) | with_reducible refine blockP_other (by decide) ?_)))
  obtain ⟨z, er, hz⟩ : ∃ z er, decE bs = (z, er) := ⟨_, _, rfl⟩
  simp only [hz]
  by_cases h0 : er = 0
  · subst h0
    obtain ⟨fz, sz⟩ := dec_good bs hby (by omega) z hz
    have e3 := pcEncode z fz sz
    have hb : encE z = bs := enc_decE bs z hby.all hz
    have hcmp2 : ((strI (encE z)).toList == (strI bs).toList) = true := by rw [hb]; simp
    (repeat (first | (with_reducible first | refine PW.seq ?_ | refine PW.block ?_ | refine PW.skip ?_ | refine PW.exit ?_ | refine PW.ret ?_ | refine thenP ?_ | refine thenP_exit ?_ | refine thenP_ret ?_ | refine blockP ?_ | refine blockP_exit ?_ | refine blockP_ret ?_ | refine loopP_exit ?_ | refine loopP_ret ?_) | ((with_reducible refine PWops.idd ?_) ; first | (first | refine PWops.stepA rfl ?_ | refine PWops.doneI rfl ?_ | refine PWops.boolK true rfl rfl rfl rfl (by (first | rfl | assumption | (simp only [decide_eq_true_eq, decide_eq_false_iff_not, bne_iff_ne, beq_iff_eq, beq_eq_false_iff_ne, bne_eq_false_iff_eq, ne_eq] ; omega))) rfl ?_ | refine PWops.boolK false rfl rfl rfl rfl (by (first | rfl | assumption | (simp only [decide_eq_true_eq, decide_eq_false_iff_not, bne_iff_ne, beq_iff_eq, beq_eq_false_iff_ne, bne_eq_false_iff_eq, ne_eq] ; omega))) rfl ?_ | refine PWops.fitsK rfl rfl rfl rfl (by omega) (by omega) rfl ?_ | refine PWops.remK rfl rfl rfl rfl (by omega) rfl ?_ | refine PWops.quoK rfl rfl rfl rfl (by omega) rfl ?_ | refine PWops.app rfl rfl rfl rfl rfl rfl rfl (by omega) (by omega) (by first | rfl | exact one_pint _ | exact one_pstr _ | exact one_pbyte _ | exact one_pattrs _) ?_ | refine PWops.app0 rfl rfl rfl rfl rfl rfl rfl (by omega) (by omega) (by first | rfl | exact one_pint _ | exact one_pstr _ | exact one_pbyte _ | exact one_pattrs _) ?_ | refine PWops.idx1 rfl rfl rfl rfl rfl rfl rfl rfl (by omega) ?_ | refine PWops.idx rfl rfl rfl rfl rfl rfl rfl rfl (by omega) ?_ | refine PWops.ld rfl rfl rfl rfl rfl rfl rfl (by assumption) rfl ?_ | refine PWops.ldA rfl rfl rfl rfl rfl rfl (by omega) (by assumption) ?_ | refine PWops.str rfl rfl rfl rfl rfl rfl rfl rfl rfl rfl rfl ?_) | (first | (refine PWops.call rfl rfl rfl (by assumption) ?_) | refine PWops.idxZ1 rfl rfl rfl rfl rfl rfl rfl rfl (by omega) ?_ | refine PWops.idxZ rfl rfl rfl rfl rfl rfl rfl rfl (by omega) ?_ | refine PWops.ld rfl rfl rfl rfl rfl rfl rfl rfl rfl ?_ | refine PWops.slcL rfl rfl rfl rfl rfl rfl rfl rfl (by omega) ?_ | refine PWops.slcH rfl rfl rfl rfl rfl rfl rfl rfl (by omega) ?_ | refine PWops.slcRL rfl rfl rfl rfl rfl rfl rfl rfl (by intro; rfl) (by omega) ?_ | refine PWops.slcRH rfl rfl rfl rfl rfl rfl rfl rfl (by intro; rfl) (by omega) ?_ | refine PWops.slcM rfl rfl rfl rfl rfl rfl rfl rfl rfl (by omega) ?_ | refine PWops.ldM rfl rfl rfl rfl rfl rfl rfl (by omega) rfl ?_ | refine PWops.ldR rfl rfl rfl rfl rfl rfl rfl (by intro; rfl) (by omega) rfl rfl ?_ | refine PWops.ldRA rfl rfl rfl rfl rfl rfl (by intro; rfl) (by omega) rfl ?_)) | (first | ((with_reducible refine PW.idd ?_) ; (first | refine PW.region typeTab_ok (by kernel_rfl) ?_ | refine PW.draw typeTab_ok (by kernel_rfl) (by kernel_rfl) (by kernel_rfl) ?_ | refine PW.condT rfl ?_ | refine PW.condF rfl ?_ | refine blockP_other (by decide) ?_)) | with_reducible refine blockP_other (by decide) ?_)))
    exact retP rfl (by (first | exact low_mapI | exact low_mapS | exact low_mapB | simp [low_val, low_nilsl, low_sl, low_ep, low_agg, low_tup, low_fn, low_pint, low_pstr, low_pbool, low_pints, low_pstrs, low_pbyte, low_pbytes, low_pattrs, low_pdefs, low_pschema, low_pentry])) rfl
  · (repeat (first | (with_reducible first | refine PW.seq ?_ | refine PW.block ?_ | refine PW.skip ?_ | refine PW.exit ?_ | refine PW.ret ?_ | refine thenP ?_ | refine thenP_exit ?_ | refine thenP_ret ?_ | refine blockP ?_ | refine blockP_exit ?_ | refine blockP_ret ?_ | refine loopP_exit ?_ | refine loopP_ret ?_) | ((with_reducible refine PWops.idd ?_) ; first | (first | refine PWops.stepA rfl ?_ | refine PWops.doneI rfl ?_ | refine PWops.boolK true rfl rfl rfl rfl (by (first | rfl | assumption | (simp only [decide_eq_true_eq, decide_eq_false_iff_not, bne_iff_ne, beq_iff_eq, beq_eq_false_iff_ne, bne_eq_false_iff_eq, ne_eq] ; omega))) rfl ?_ | refine PWops.boolK false rfl rfl rfl rfl (by (first | rfl | assumption | (simp only [decide_eq_true_eq, decide_eq_false_iff_not, bne_iff_ne, beq_iff_eq, beq_eq_false_iff_ne, bne_eq_false_iff_eq, ne_eq] ; omega))) rfl ?_ | refine PWops.fitsK rfl rfl rfl rfl (by omega) (by omega) rfl ?_ | refine PWops.remK rfl rfl rfl rfl (by omega) rfl ?_ | refine PWops.quoK rfl rfl rfl rfl (by omega) rfl ?_ | refine PWops.app rfl rfl rfl rfl rfl rfl rfl (by omega) (by omega) (by first | rfl | exact one_pint _ | exact one_pstr _ | exact one_pbyte _ | exact one_pattrs _) ?_ | refine PWops.app0 rfl rfl rfl rfl rfl rfl rfl (by omega) (by omega) (by first | rfl | exact one_pint _ | exact one_pstr _ | exact one_pbyte _ | exact one_pattrs _) ?_ | refine PWops.idx1 rfl rfl rfl rfl rfl rfl rfl rfl (by omega) ?_ | refine PWops.idx rfl rfl rfl rfl rfl rfl rfl rfl (by omega) ?_ | refine PWops.ld rfl rfl rfl rfl rfl rfl rfl (by assumption) rfl ?_ | refine PWops.ldA rfl rfl rfl rfl rfl rfl (by omega) (by assumption) ?_ | refine PWops.str rfl rfl rfl rfl rfl rfl rfl rfl rfl rfl rfl ?_) | (first | (refine PWops.call rfl rfl rfl (by assumption) ?_) | refine PWops.idxZ1 rfl rfl rfl rfl rfl rfl rfl rfl (by omega) ?_ | refine PWops.idxZ rfl rfl rfl rfl rfl rfl rfl rfl (by omega) ?_ | refine PWops.ld rfl rfl rfl rfl rfl rfl rfl rfl rfl ?_ | refine PWops.slcL rfl rfl rfl rfl rfl rfl rfl rfl (by omega) ?_ | refine PWops.slcH rfl rfl rfl rfl rfl rfl rfl rfl (by omega) ?_ | refine PWops.slcRL rfl rfl rfl rfl rfl rfl rfl rfl (by intro; rfl) (by omega) ?_ | refine PWops.slcRH rfl rfl rfl rfl rfl rfl rfl rfl (by intro; rfl) (by omega) ?_ | refine PWops.slcM rfl rfl rfl rfl rfl rfl rfl rfl rfl (by omega) ?_ | refine PWops.ldM rfl rfl rfl rfl rfl rfl rfl (by omega) rfl ?_ | refine PWops.ldR rfl rfl rfl rfl rfl rfl rfl (by intro; rfl) (by omega) rfl rfl ?_ | refine PWops.ldRA rfl rfl rfl rfl rfl rfl (by intro; rfl) (by omega) rfl ?_)) | (first | ((with_reducible refine PW.idd ?_) ; (first | refine PW.region typeTab_ok (by kernel_rfl) ?_ | refine PW.draw typeTab_ok (by kernel_rfl) (by kernel_rfl) (by kernel_rfl) ?_ | refine PW.condT rfl ?_ | refine PW.condF rfl ?_ | refine blockP_other (by decide) ?_)) | with_reducible refine blockP_other (by decide) ?_)))
    exact retP rfl (by (first | exact low_mapI | exact low_mapS | exact low_mapB | simp [low_val, low_nilsl, low_sl, low_ep, low_agg, low_tup, low_fn, low_pint, low_pstr, low_pbool, low_pints, low_pstrs, low_pbyte, low_pbytes, low_pattrs, low_pdefs, low_pschema, low_pentry])) rfl
end Go.Proofs.Ytnjopfjmepbpoaa

/- Proved here: antiquarylaw13.AttrReadsBack returns true for every input, and leaves its arguments as they were. No conditions. -/
namespace Go.Proofs.Ytnjopfjmepbpoaa
set_option linter.unusedSimpArgs false
set_option linter.unusedVariables false
set_option linter.unnecessarySimpa false
open Go.ChangeShapes Go.WideShapes Go.ChangeAt Go.RowKit

set_option maxRecDepth 100000 in
theorem readsBack_lifted (os : Os) (started : os.Started) (H : Type) (enc : TypeId × Value → H) :
    ReturnsInHanded {} Try.checked os 4 .any (Rows.attrReadsBackSpec.pre6 enc Try.prog Try.f4 Rows.attrReadsBackRow.domain false) (Rows.attrReadsBackSpec.post enc Try.prog Try.f4 false true false false) := by
  refine law_lifted os started H enc Try.func4 (by kernel_rfl)
    (ChangeSpec.witness6 (enc := enc) (C := Try.checked) false ⟨#[], #[.agg #[.int .i64 0, .int .i64 0, .int .i64 0, .int .i64 0, .int .i64 0, .int .i64 0, .int .i64 0, .slice none 0 0, .slice none 0 0], .agg #[.int .i64 0, .int .i64 0, .int .i64 0, .int .i64 0, .int .i64 0, .int .i64 0, .int .i64 0, .slice none 0 0, .slice none 0 0], .slice none 0 0], []⟩ 8 (by kernel_rfl) (by kernel_rfl) (by kernel_rfl) (by kernel_rfl))
    Try.underlying4 rfl rfl (by kernel_rfl) (fun ds hd => ?_)
    (argsOpen_cons argEntry (argsOpen_cons argEntry (argsOpen_cons argBytes argsOpen_nil))) (fun y hy => ?_)
  · match ds, hd with
    | [d1, d2, d3], _ => exact ⟨rfl, rfl, rfl⟩
  · obtain ⟨x, y, bs, u⟩ := y
    obtain ⟨hx, hy, hb, -⟩ := hy
    have e := reach_eq
    simp only at hx hy hb
    have x1 := hx.vec
    have x2 := hx.attrs
    have y1 := hy.vec
    have y2 := hy.attrs
    exact pw_readsBack x y bs hx.fit hy.fit (Byte.of hb.1) (by omega) (by omega) (by omega) (by omega)

theorem readsBack_holds : Rows.AttrReadsBackSaid :=
  OpenClaim.holds_of_wide 4 Try.f4 rfl rfl rfl rfl rfl rfl rfl ⟨rfl, rfl, rfl, rfl, rfl⟩ rfl rfl rfl rfl rfl (by kernel_rfl) Try.func4 (by kernel_rfl)
    (of_decide_eq_true (by kernel_rfl)) (by unfold Func.isWrapper; first | (rw [if_pos (by decide +kernel)]; kernel_rfl) | (rw [if_neg (by decide +kernel)]; exact ⟨rfl, rfl⟩))
    (fun os started H enc _ => readsBack_lifted os started H enc)

#print axioms readsBack_holds
end Go.Proofs.Ytnjopfjmepbpoaa
