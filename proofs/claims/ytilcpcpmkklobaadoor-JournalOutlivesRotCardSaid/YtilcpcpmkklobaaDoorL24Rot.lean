/- Proved here: the tied card of antiquarylaw24.JournalOutlivesRot: it returns true for every input, and leaves its arguments as they were; the table of hash.constants is as the program's text lays it (tied). No conditions beyond. -/
import Derived.Test.YtilcpcpmkklobaaDoorRows
import Derived.Test.YtilcpcpmkklobaaDoorTie
import Derived.Test.YtilcpcpmkklobaaDoorCards
import Derived.SevenTiedAt
import Derived.Test.YtilcpcpmkklobaaDoorC6
/- What the rows list: the tables are there when the call begins. -/
namespace Go.Proofs.YtilcpcpmkklobaaDoor
open Go.RowKit
def laidL : List (String × DataW Unit) := [("antiquary/hash.constants", Rows.laid_antiquary_hash_constants)]
theorem door_met (os : Os) (args : Array Value) : laidMetH Tryd.prog laidL ((World.doorLaid Tryd.prog 2000 os).forCall (fun _ _ => 0) ⟨#[], args, []⟩).memory :=
  laidMetH_of_parts3 (fuel := 8) (laidMet_of_run' 8 (by kernel_rfl) (by kernel_rfl)) (by kernel_rfl) (by kernel_rfl)
theorem laid_glob (W : World) (h : laidMetH Tryd.prog laidL W) : ∀ x ∈ globTab, ∀ j z, x.2.2[j]? = some z → W.cell? ⟨x.1, j, none⟩ = some (.int x.2.1 z) := by
  rw [MakeChecks.laidMetH_plain _ _ _ (by kernel_rfl)] at h
  intro x hx
  simp only [globTab, List.mem_cons, List.not_mem_nil, or_false] at hx
  rcases hx with rfl
  · exact glob_of_reads (n := "antiquary/hash.constants") (zs := glob0) (t := 116) (e := 91) (m := 64) (by kernel_rfl) (by kernel_rfl) (by kernel_rfl) (by kernel_rfl) (by kernel_rfl) (by kernel_rfl) (Lib.laidMet.reads h (.head _))
end Go.Proofs.YtilcpcpmkklobaaDoor

/- The journal's laws: what an Apply costs. -/
namespace Go.Proofs.YtilcpcpmkklobaaDoor
set_option linter.unusedSimpArgs false
set_option linter.unusedVariables false
set_option linter.unnecessarySimpa false
open Go.RowKit

theorem DM.apply_steps {N k : Nat} {D : DM} (h : OkD N k D) {at_ most : Int} (hb : liesB N at_ most = true) (hk : k + 10000 ≤ 100000000) (l : List PPut) : (D.apply N at_ most l).steps = if jApE N at_ most l = 0 ∧ 0 < l.length then D.steps + 2 * l.length + numbersI l.length + 6 else D.steps := by
  simp only [liesB, decide_eq_true_eq] at hb
  obtain ⟨m0, m1, h0, hN⟩ := hb
  rw [DM.apply]
  by_cases he : jApE N at_ most l = 0 ∧ 0 < l.length
  · rw [if_pos he, if_pos he]; exact (h.applied h0 m0 m1 hN hk he.1).2.1
  · rw [if_neg he, if_neg he]
theorem fewB_spec {size most : Int} {ls : List (List PPut)} (h : fewB size most ls = true) : 1 ≤ size ∧ size ≤ 150 ∧ most ≤ 20 ∧ ls.length ≤ 20 ∧ ∀ l ∈ ls, l.length ≤ 30 := by
  simp only [fewB, decide_eq_true_eq] at h
  exact ⟨h.2.1, h.2.2.1, h.2.2.2.1, h.2.2.2.2, fun l hl => by simpa using List.all_eq_true.1 h.1 l hl⟩

set_option maxRecDepth 10000 in
set_option maxHeartbeats 4000000 in
theorem pw_costs (size at_ most : Int) (ls : List (List PPut)) (hl : ls.length ≤ 1000000000000000) (hls : ∀ l ∈ ls, l.length ≤ 1000000000000000) : PCalls Tryd.prog 3 [.agg (parea size at_ most), pputss ls] (· = pbool true) := by
  have h1 := low_pputss ls
  have h2 := low_parea size at_ most
  refine pcalls_of_pw typeTab_ok Tryd.func3 rfl (by kernel_rfl) (by intro p hp; simp at hp; rcases hp with rfl | rfl; exact h2; exact h1) (by simp [pputss, PV.ownB]) (Nat.le_of_ble_eq_true rfl) ?_
  have hfew := pw_few24 size at_ most ls hl hls
  have hsan := pw_sanity24
  by_cases hf : fewB size most ls = true
  · rw [hf] at hfew
    obtain ⟨s0, s1, mm, ll, le30⟩ := fewB_spec hf
    obtain ⟨N, rfl⟩ : ∃ N : Nat, size = N := ⟨size.toNat, by omega⟩
    have hlies := pw_lies N at_ most (by omega)
    by_cases hb : liesB N at_ most = true
    · rw [hb] at hlies
      have i0 := JInv.new N at_ most hb
      have hnew := dc_New N (by omega) 900001 900002 900003 (by decide)
      rw [Int.toNat_natCast] at hnew
      have ho := jc_open at_ most i0.ok (by omega) (by omega) hb i0.head 900001 900002 900003 900004 (by decide)
      have i1 := i0.opened hb (by omega)
      have c1 := dC_low (newD N)
      have c2 := dM_low (newD N)
      have c3 := dC_low ((newD N).opened at_)
      have c4 := dM_low ((newD N).opened at_)
      have hb' := hb
      simp only [liesB, decide_eq_true_eq] at hb'
      clear i0
      generalize (newD N).opened at_ = D1 at *
      generalize newD N = D0 at *
      generalize List.replicate N zeroSec = M0 at *
      clear hls hf
      refine wk ?_
      refine PW.loop (fun x : Nat × DM × List Sec => (((((((((((bot.setb 0 (parea N at_ most)).setb 900004 (jB 900001 at_ most)).setb 900001 (dB 900002 900003 x.2.1)).setb 900002 (dC x.2.1)).setm 900003 (dM x.2.1)).put 1 (pputss ls)).put 2 (.ptr 0 0)).put 4 (pbool false)).put 5 (.ptr 900001 0)).put 6 (.ptr 900004 0)).put 8 (pint x.1))) (fun x => x.1 ≤ ls.length ∧ JInv N (5000 * x.1 + 3) at_ most x.2.1 x.2.2) (fun x => ls.length - x.1) (0, D1, M0) ⟨by simp, i1⟩ ?_ ?_
      · exact sb
      · clear c1 c2 c3 c4 i1 hnew ho hfew
        rintro ⟨i, D, M⟩ ⟨hi, hJ⟩
        simp only at hi hJ ⊢
        by_cases hlt : i < ls.length
        · have hst := dc_Steps D 900001 900002 900003 (by decide)
          have hmem : ls.getD i default ∈ ls := by rw [List.getD_eq_getElem?_getD, List.getElem?_eq_getElem hlt]; exact List.getElem_mem hlt
          have hl30 := le30 _ hmem
          have hA := jc_apply at_ most hJ.ok hb'.2.2.1 hb'.1 hb'.2.1 hb'.2.2.2 (by omega) (ls.getD i default) (by omega) (by omega) 900001 900002 900003 900004 (by decide)
          have hJ2 := hJ.apply hb (by omega) (ls.getD i default)
          have hsteps := DM.apply_steps hJ.ok hb (by omega) (ls.getD i default)
          have hD2 : D.apply N at_ most (ls.getD i default) = D.apply N at_ most (ls.getD i default) := rfl
          generalize hX : D.apply N at_ most (ls.getD i default) = D2 at hA hJ2 hsteps
          generalize (if jApE N at_ most (ls.getD i default) = 0 then doM M (ls.getD i default) else M) = M2 at hJ2
          generalize jApE N at_ most (ls.getD i default) = e at *
          have hs1 := hJ.ok.steps
          have hs2 := hJ2.ok.steps
          have hq : numbersI (ls.getD i default).length = (((ls.getD i default).length : Int) + 15) / 16 := rfl
          rw [hq] at hsteps
          have d1 := dC_low D2
          have d2 := dM_low D2
          have hst2 := dc_Steps D2 900001 900002 900003 (by decide)
          clear hX hD2 hmem hq le30 hlies
          clear hst2
          by_cases he : e = 0
          · by_cases hn : (ls.getD i default).length = 0
            · rw [if_neg (by omega)] at hsteps
              refine wk ?_
              clear hst
              have hst2 := dc_Steps D2 900001 900002 900003 (by decide)
              refine wk ?_
              refine loopP (i + 1, D2, M2) ⟨by show i + 1 ≤ _; omega, hJ2.mono (by show _ ≤ 5000 * (i + 1) + 3; omega)⟩ (by show ls.length - (i + 1) < ls.length - i; omega) ?_
              exact sb
            · rw [if_pos ⟨he, by omega⟩] at hsteps
              refine wk ?_
              clear hst
              have hst2 := dc_Steps D2 900001 900002 900003 (by decide)
              refine wk ?_
              refine loopP (i + 1, D2, M2) ⟨by show i + 1 ≤ _; omega, hJ2.mono (by show _ ≤ 5000 * (i + 1) + 3; omega)⟩ (by show ls.length - (i + 1) < ls.length - i; omega) ?_
              exact sb
          · rw [if_neg (fun h => he h.1)] at hsteps
            refine wk ?_
            clear hst
            have hst2 := dc_Steps D2 900001 900002 900003 (by decide)
            refine wk ?_
            refine loopP (i + 1, D2, M2) ⟨by show i + 1 ≤ _; omega, hJ2.mono (by show _ ≤ 5000 * (i + 1) + 3; omega)⟩ (by show ls.length - (i + 1) < ls.length - i; omega) ?_
            exact sb
        · have e : i = ls.length := by omega
          subst e
          refine wk ?_
          exact retP rfl (by exact lw) rfl
    · have hb' : liesB N at_ most = false := by simpa using hb
      rw [hb'] at hlies
      refine wk ?_
      exact retP rfl (by exact lw) rfl
  · have hf' : fewB size most ls = false := by simpa using hf
    rw [hf'] at hfew
    refine wk ?_
    exact retP rfl (by exact lw) rfl
end Go.Proofs.YtilcpcpmkklobaaDoor

/- The journal's laws: it outlives rot. -/
namespace Go.Proofs.YtilcpcpmkklobaaDoor
set_option linter.unusedSimpArgs false
set_option linter.unusedVariables false
set_option linter.unnecessarySimpa false
open Go.RowKit

section
variable {P : Program} {T : Tab} {σ : PS} {o : Oper} {i base : Nat} {ops : Array Oper} {ok : Nat → Nat → Bool} {rest : List (Nat × Oper)} {K : PS → Prop}
/-- What remains of numbers that are not negative. -/
theorem PWops.remZ {d : Nat} {k : IntKind} {x y : Int} {X Y : Operand} {t yt : TypeId} (hg : pguard ops σ o = some true) (hd : o.dst = some d) (hop : o.op = .binOp .rem t X Y yt) (hx : pev σ X = .val (.int k x)) (hy : pev σ Y = .val (.int k y)) (hb : σ.freeB (base + i) = true) (h0 : 0 ≤ x ∧ 0 < y) (kn : PWops P T ops base ok rest K (σ.put d (.val (.int k (x % y))))) : PWops P T ops base ok ((i, o) :: rest) K σ := by
  refine PWops.valEq hg hd (p := .val (.int k (x % y))) ?_ rfl hb kn
  have h1 : y ≠ 0 := by omega
  simp [hop, presE, pvalA, pval, pev_only, hx, hy, pbin, h1, Int.tmod_eq_emod_of_nonneg h0.1]
end

set_option maxRecDepth 10000 in
set_option maxHeartbeats 4000000 in
theorem pw_outlives (size at_ most : Int) (ls : List (List PPut)) (rot : List Int) (hl : ls.length ≤ 1000000000000000) (hls : ∀ l ∈ ls, l.length ≤ 1000000000000000) (hrl : rot.length ≤ 1000000000000000) (hrb : ∀ z ∈ rot, 0 ≤ z ∧ z < 256) : PCalls Tryd.prog 4 [.agg (parea size at_ most), pputss ls, pbytes rot] (· = pbool true) := by
  have h1 := low_pputss ls
  have h2 := low_parea size at_ most
  have h3 : Low (pbytes rot) := low_mapB
  refine pcalls_of_pw typeTab_ok Tryd.func4 rfl (by kernel_rfl) (by intro p hp; simp at hp; rcases hp with rfl | rfl | rfl; exact h2; exact h1; exact h3) (by simp [pputss, pbytes, PV.ownB]) (Nat.le_of_ble_eq_true rfl) ?_
  have hfew := pw_few24 size at_ most ls hl hls
  have hsan := pw_sanity24
  by_cases hf : fewB size most ls = true
  · rw [hf] at hfew
    obtain ⟨s0, s1, mm, ll, le30⟩ := fewB_spec hf
    obtain ⟨N, rfl⟩ : ∃ N : Nat, size = N := ⟨size.toNat, by omega⟩
    have hlies := pw_lies N at_ most (by omega)
    by_cases hb : liesB N at_ most = true
    · rw [hb] at hlies
      by_cases hr30 : rot.length ≤ 30
      · have i0 := JInv.new N at_ most hb
        have hnew := dc_New N (by omega) 900001 900002 900003 (by decide)
        rw [Int.toNat_natCast] at hnew
        have ho := jc_open at_ most i0.ok (by omega) (by omega) hb i0.head 900001 900002 900003 900004 (by decide)
        have i1 := i0.opened hb (by omega)
        have c1 := dC_low (newD N)
        have c2 := dM_low (newD N)
        have c3 := dC_low ((newD N).opened at_)
        have c4 := dM_low ((newD N).opened at_)
        have hb' := hb
        simp only [liesB, decide_eq_true_eq] at hb'
        have hrr : 0 < roomI most ∧ roomI most ≤ 2000 := by unfold roomI numbersI; rw [if_neg (by omega)]; omega
        have hz0 := rows0 [] N
        rw [show rowsT [] N 0 = List.replicate N zeroSec from rfl] at hz0
        clear i0
        generalize (newD N).opened at_ = D1 at *
        generalize newD N = D0 at *
        generalize List.replicate N zeroSec = M0 at *
        clear hls hf
        have c5 : ∀ c ∈ M0.flatMap secL, Low c := flat_low secL_low _
        refine wk ?_
        refine PWops.mkI (out := M0.flatMap secL) typeTab_ok rfl (fun _ _ => rfl) rfl rfl rfl rfl rfl rfl rfl ?_ hz0 ?_
        · refine ⟨?_, ?_, ?_⟩ <;> omega
        rw [Int.toNat_natCast]
        refine wk ?_
        refine PW.loop (fun x : Nat × DM × List Sec => (((((((((((((bot.setb 0 (parea N at_ most)).setb 900004 (jB 900001 at_ most)).setb 900001 (dB 900002 900003 x.2.1)).setb 900002 (dC x.2.1)).setm 900003 (dM x.2.1)).put 1 (pputss ls)).put 2 (pbytes rot)).put 3 (.ptr 0 0)).put 6 (pbool false)).put 7 (.ptr 900001 0)).put 8 (.ptr 900004 0)).put 10 (.sl N 64 (x.2.2.flatMap secL) none)).put 11 (pint x.1))) (fun x => x.1 ≤ 2 ∧ JInv N (200000 * x.1 + 3) at_ most x.2.1 x.2.2) (fun x => 2 - x.1) (0, D1, M0) ⟨by simp, i1⟩ ?_ ?_
        · have c6 : Low (.sl N 64 (M0.flatMap secL) none) := .sl _ _ _ _ c5
          exact sb
        · clear c1 c2 c3 c4 c5 i1 hnew ho hfew hz0 hlies
          rintro ⟨k, D, M⟩ ⟨hk, hJ⟩
          simp only at hk hJ ⊢
          have c1 := dC_low D
          have c2 := dM_low D
          have c5 : Low (.sl N 64 (M.flatMap secL) none) := .sl _ _ _ _ (flat_low secL_low _)
          by_cases hlt : k < 2
          · refine wk ?_
            refine PW.loop (fun x : Nat × DM × List Sec => ((((((((((((((bot.setb 0 (parea N at_ most)).setb 900004 (jB 900001 at_ most)).setb 900001 (dB 900002 900003 x.2.1)).setb 900002 (dC x.2.1)).setm 900003 (dM x.2.1)).put 1 (pputss ls)).put 2 (pbytes rot)).put 3 (.ptr 0 0)).put 6 (pbool false)).put 7 (.ptr 900001 0)).put 8 (.ptr 900004 0)).put 10 (.sl N 64 (x.2.2.flatMap secL) none)).put 11 (pint k)).put 12 (pint x.1))) (fun x => x.1 ≤ ls.length ∧ JInv N (200000 * k + 3 + 5000 * x.1) at_ most x.2.1 x.2.2) (fun x => ls.length - x.1) (0, D, M) ⟨by simp, hJ⟩ ?_ ?_
            · exact sb
            · clear c1 c2 c5 hJ
              rintro ⟨i, D, M⟩ ⟨hi, hJ⟩
              simp only at hi hJ ⊢
              have c1 := dC_low D
              have c2 := dM_low D
              have c5 : Low (.sl N 64 (M.flatMap secL) none) := .sl _ _ _ _ (flat_low secL_low _)
              by_cases hlt2 : i < ls.length
              · have hmem : ls.getD i default ∈ ls := by rw [List.getD_eq_getElem?_getD, List.getElem?_eq_getElem hlt2]; exact List.getElem_mem hlt2
                have hl30 := le30 _ hmem
                have hchk := pw_check24 N at_ most (ls.getD i default) (by omega) (by omega) (by omega)
                have hA := jc_apply at_ most hJ.ok hb'.2.2.1 hb'.1 hb'.2.1 hb'.2.2.2 (by omega) (ls.getD i default) (by omega) (by omega) 900001 900002 900003 900004 (by decide)
                have hJ2 := hJ.apply hb (by omega) (ls.getD i default)
                by_cases he : jApE N at_ most (ls.getD i default) = 0
                · have hin : InD M.length (ls.getD i default) := fun p hp => by have := (jApE_zero he).2 p hp; rw [hJ.len]; omega
                  have hdo := pw_do M (ls.getD i default) (by rw [hJ.len]; omega) hin (by omega)
                  rw [psecs, psecs, doM_len, hJ.len] at hdo
                  rw [he] at hchk hA
                  rw [if_pos he] at hJ2
                  generalize D.apply N at_ most (ls.getD i default) = D2 at *
                  generalize doM M (ls.getD i default) = M2 at *
                  have d1 := dC_low D2
                  have d2 := dM_low D2
                  have d5 : Low (.sl N 64 (M2.flatMap secL) none) := .sl _ _ _ _ (flat_low secL_low _)
                  clear he hin hmem le30
                  refine wk ?_
                  refine loopP (i + 1, D2, M2) ⟨by show i + 1 ≤ _; omega, hJ2.mono (by show _ ≤ 200000 * k + 3 + 5000 * (i + 1); omega)⟩ (by show ls.length - (i + 1) < ls.length - i; omega) ?_
                  exact sb
                · generalize jApE N at_ most (ls.getD i default) = e at *
                  clear hJ2 hA hmem le30
                  refine wk ?_
                  refine loopP (i + 1, D, M) ⟨by show i + 1 ≤ _; omega, hJ.mono (by show _ ≤ 200000 * k + 3 + 5000 * (i + 1); omega)⟩ (by show ls.length - (i + 1) < ls.length - i; omega) ?_
                  exact sb
              · have e : i = ls.length := by omega
                subst e
                refine wk ?_
                refine PW.loop (fun x : Nat × DM => ((((((((((((((bot.setb 0 (parea N at_ most)).setb 900004 (jB 900001 at_ most)).setb 900001 (dB 900002 900003 x.2)).setb 900002 (dC x.2)).setm 900003 (dM x.2)).put 1 (pputss ls)).put 2 (pbytes rot)).put 3 (.ptr 0 0)).put 6 (pbool false)).put 7 (.ptr 900001 0)).put 8 (.ptr 900004 0)).put 10 (.sl N 64 (M.flatMap secL) none)).put 11 (pint k)).put 13 (pint x.1))) (fun x => x.1 ≤ rot.length ∧ JInv N (200000 * k + 3 + 5000 * ls.length) at_ most x.2 M) (fun x => rot.length - x.1) (0, D) ⟨by simp, hJ⟩ ?_ ?_
                · exact sb
                · clear c1 c2 hJ
                  rintro ⟨i, D⟩ ⟨hi, hJ⟩
                  simp only at hi hJ ⊢
                  have c1 := dC_low D
                  have c2 := dM_low D
                  have hroom := pw_refRoom most
                  by_cases hlt3 : i < rot.length
                  · have hzm := hrb (rot.getD i default) (by rw [List.getD_eq_getElem?_getD, List.getElem?_eq_getElem hlt3]; exact List.getElem_mem hlt3)
                    have hm0 : 0 ≤ (rot.getD i default) % roomI most ∧ (rot.getD i default) % roomI most < roomI most := ⟨Int.emod_nonneg _ (by omega), Int.emod_lt_of_pos _ hrr.1⟩
                    have hJ2 := hJ.rot hb'.2.2.1 hb'.2.2.2 hm0.1 hm0.2
                    have hrot := dc_Rot D (at_ + (rot.getD i default) % roomI most) 900001 900002 900003 (by decide)
                    rw [hJ.ok.check0 (by omega) (by omega)] at hrot
                    have hw := wrap64_id (z := rot.getD i default) (by omega) (by omega)
                    generalize D.rot (at_ + (rot.getD i default) % roomI most) = D2 at *
                    have d1 := dC_low D2
                    have d2 := dM_low D2
                    refine wk ?_
                    rw [hw]
                    refine PWops.remZ rfl rfl rfl rfl rfl rfl ⟨by omega, by omega⟩ ?_
                    refine wk ?_
                    refine loopP (i + 1, D2) ⟨by show i + 1 ≤ _; omega, hJ2⟩ (by show rot.length - (i + 1) < rot.length - i; omega) ?_
                    exact sb
                  · have e : i = rot.length := by omega
                    subst e
                    have ho := jc_open at_ most hJ.ok (by omega) (by omega) hb hJ.head 900001 900002 900003 900005 (by decide)
                    have hJ2 := hJ.opened hb (by omega)
                    have hhas := dc_has (D.opened at_) N at_ most M (by rw [hJ2.len]; omega) (by omega) (by rw [hJ2.ok.len]; omega) (fun e he => by rw [hJ2.op] at he; simp at he) 900001 900002 900003 (by decide)
                    rw [hJ2.has, psecs, hJ2.len] at hhas
                    generalize D.opened at_ = D2 at *
                    have d1 := dC_low D2
                    have d2 := dM_low D2
                    clear hroom
                    refine wk ?_
                    refine loopP (k + 1, D2, M) ⟨by show k + 1 ≤ _; omega, hJ2.mono (by show _ ≤ 200000 * (k + 1) + 3; omega)⟩ (by show 2 - (k + 1) < 2 - k; omega) ?_
                    refine Sub.other (κ := renN [(900004, 900005)]) [900003, 900002, 900001, 900004, 0] (by (repeat (first | exact SubR.bot | ((with_reducible refine SubR.isp ?_) ; refine SubR.put ?_ (by (first | exact .inl (.ptr _ _ rfl) | exact .inl (.msl _ _ _ _ rfl) | exact .inl (.mref _ rfl) | exact .inl (.low _ (by (first | exact low_mapI | exact low_mapS | exact low_mapB | assumption | exact hlow _ | exact hlow _ _ | exact Low.agg _ (low_map (fun _ => Low.val _) _) | (simp [low_pu32, low_pu64, low_val, low_nilsl, low_sl, low_ep, low_agg, low_tup, low_fn, low_pint, low_pstr, low_pbool, low_pints, low_pstrs, low_pbyte, low_pbytes, hlow] ; done) | (simp [low_pu32, low_pu64, low_val, low_nilsl, low_sl, low_ep, low_agg, low_tup, low_fn, low_pint, low_pstr, low_pbool, low_pints, low_pstrs, low_pbyte, low_pbytes] ; done) | simp [low_pu32, low_pu64, low_val, low_nilsl, low_sl, low_ep, low_agg, low_tup, low_fn, low_pint, low_pstr, low_pbool, low_pints, low_pstrs, low_pbyte, low_pbytes, low_pattrs, low_pdefs, low_pschema, low_pentry]))) | exact .inr (.inl (.low _ (by (first | exact low_mapI | exact low_mapS | exact low_mapB | assumption | exact hlow _ | exact hlow _ _ | exact Low.agg _ (low_map (fun _ => Low.val _) _) | (simp [low_pu32, low_pu64, low_val, low_nilsl, low_sl, low_ep, low_agg, low_tup, low_fn, low_pint, low_pstr, low_pbool, low_pints, low_pstrs, low_pbyte, low_pbytes, hlow] ; done) | (simp [low_pu32, low_pu64, low_val, low_nilsl, low_sl, low_ep, low_agg, low_tup, low_fn, low_pint, low_pstr, low_pbool, low_pints, low_pstrs, low_pbyte, low_pbytes] ; done) | simp [low_pu32, low_pu64, low_val, low_nilsl, low_sl, low_ep, low_agg, low_tup, low_fn, low_pint, low_pstr, low_pbool, low_pints, low_pstrs, low_pbyte, low_pbytes, low_pattrs, low_pdefs, low_pschema, low_pentry])))) | exact .inr (.inr ⟨_, _, rfl, rfl⟩)))) | ((with_reducible refine SubR.isb ?_) ; refine SubR.setb ?_ rfl rfl (by (first | exact RenQL.low (by first | assumption | exact hlow _ | exact hlow _ _ | exact low_map (fun _ => Low.val _) _) | exact RenQL.lowE (by assumption) (low_map (fun _ => Low.val _) _) | ((repeat (refine RenQL.cons (by (first | exact .inl (.ptr _ _ rfl) | exact .inl (.msl _ _ _ _ rfl) | exact .inl (.mref _ rfl) | exact .inl (.low _ (by (first | exact low_mapI | exact low_mapS | exact low_mapB | assumption | exact hlow _ | exact hlow _ _ | exact Low.agg _ (low_map (fun _ => Low.val _) _) | (simp [low_pu32, low_pu64, low_val, low_nilsl, low_sl, low_ep, low_agg, low_tup, low_fn, low_pint, low_pstr, low_pbool, low_pints, low_pstrs, low_pbyte, low_pbytes, hlow] ; done) | (simp [low_pu32, low_pu64, low_val, low_nilsl, low_sl, low_ep, low_agg, low_tup, low_fn, low_pint, low_pstr, low_pbool, low_pints, low_pstrs, low_pbyte, low_pbytes] ; done) | simp [low_pu32, low_pu64, low_val, low_nilsl, low_sl, low_ep, low_agg, low_tup, low_fn, low_pint, low_pstr, low_pbool, low_pints, low_pstrs, low_pbyte, low_pbytes, low_pattrs, low_pdefs, low_pschema, low_pentry]))) | exact .inr (.inl (.low _ (by (first | exact low_mapI | exact low_mapS | exact low_mapB | assumption | exact hlow _ | exact hlow _ _ | exact Low.agg _ (low_map (fun _ => Low.val _) _) | (simp [low_pu32, low_pu64, low_val, low_nilsl, low_sl, low_ep, low_agg, low_tup, low_fn, low_pint, low_pstr, low_pbool, low_pints, low_pstrs, low_pbyte, low_pbytes, hlow] ; done) | (simp [low_pu32, low_pu64, low_val, low_nilsl, low_sl, low_ep, low_agg, low_tup, low_fn, low_pint, low_pstr, low_pbool, low_pints, low_pstrs, low_pbyte, low_pbytes] ; done) | simp [low_pu32, low_pu64, low_val, low_nilsl, low_sl, low_ep, low_agg, low_tup, low_fn, low_pint, low_pstr, low_pbool, low_pints, low_pstrs, low_pbyte, low_pbytes, low_pattrs, low_pdefs, low_pschema, low_pentry])))) | exact .inr (.inr ⟨_, _, rfl, rfl⟩))) ?_)) ; exact RenQL.nil)))) | ((with_reducible refine SubR.ism ?_) ; refine SubR.setm ?_ rfl rfl (by (first | exact ⟨rfl, rfl, rfl, rfl, rfl⟩ | exact RenM.low (by first | assumption | exact hlowm _ | exact hlowm _ _))))))) ?_ rfl rfl
                    exact kn_put (kn_put (kn_put (kn_put (kn_put (kn_put (kn_put (kn_put (kn_setm (kn_setb (kn_setb (kn_setb (kn_setb kn_bot))))))))))))
          · have e : k = 2 := by omega
            subst e
            refine wk ?_
            exact retP rfl (by exact lw) rfl
      · refine wk ?_
        exact retP rfl (by exact lw) rfl
    · have hb' : liesB N at_ most = false := by simpa using hb
      rw [hb'] at hlies
      refine wk ?_
      exact retP rfl (by exact lw) rfl
  · have hf' : fewB size most ls = false := by simpa using hf
    rw [hf'] at hfew
    refine wk ?_
    exact retP rfl (by exact lw) rfl
end Go.Proofs.YtilcpcpmkklobaaDoor

/- Proved here: the tied card of antiquarylaw24.JournalOutlivesRot: it returns true for every input, and leaves its arguments as they were; the table of hash.constants is as the program's text lays it (tied). No conditions beyond. -/
namespace Go.Proofs.YtilcpcpmkklobaaDoor
set_option linter.unusedSimpArgs false
set_option linter.unusedVariables false
set_option linter.unnecessarySimpa false
open Go.ChangeShapes Go.WideShapes Go.ChangeAt Go.RowKit

set_option maxRecDepth 100000 in
theorem rot_lifted (os : Os) (started : os.Started) (H : Type) (enc : TypeId × Value → H) :
    ReturnsInHanded {} Tryd.checked os 4 .any (fun w args => (Rows.journalOutlivesRotSpec.pre enc Tryd.prog Tryd.f4 Rows.journalOutlivesRotRow.domain false w args ∧ laidMetH Tryd.prog laidL w) ∧ sizedMet enc Tryd.prog Tryd.f4 (OpenSpec.ofChange Rows.journalOutlivesRotSpec) false w args)
      (Rows.journalOutlivesRotSpec.post enc Tryd.prog Tryd.f4 false true false false) := by
  refine law_liftedL os started H enc Tryd.func4 (by kernel_rfl)
    (ChangeSpec.witness_shaped (enc := enc) (C := Tryd.checked) (os := os) (X := fun w _ => laidMetH Tryd.prog laidL w) false (World.doorLaid Tryd.prog 2000 os) #[.agg #[.int .i64 0, .int .i64 0, .int .i64 0], .slice none 0 0, .slice none 0 0] 8 rfl (World.shaped_of_RefB (by kernel_rfl) (by kernel_rfl)) (by kernel_rfl) (by kernel_rfl) (by kernel_rfl) (door_met os _))
    Tryd.underlying4 rfl rfl (by kernel_rfl) (fun ds hd => ?_)
    (argsOpen_cons argArea (argsOpen_cons argPutss (argsOpen_cons argBs argsOpen_nil))) (fun y hy => ?_) laid_glob
  · match ds, hd with
    | [d1, d2, d3], _ => exact ⟨rfl, rfl, rfl⟩
  · obtain ⟨⟨z1, z2, z3⟩, ls, rt, u⟩ := y
    obtain ⟨-, hl, hr, -⟩ := hy
    have e := reachE
    simp only at hl hr
    exact pw_outlives z1 z2 z3 ls rt (by omega) (fun l hm => by have := (hl.1 l hm).2; omega) (by omega) hr.1

theorem rot_row : Rows.JournalOutlivesRotSaid :=
  OpenClaim.holds_of_wide 4 Tryd.f4 rfl rfl rfl rfl rfl rfl rfl ⟨rfl, rfl, rfl, rfl, rfl⟩ rfl rfl rfl rfl rfl (by kernel_rfl) Tryd.func4 (by kernel_rfl)
    (of_decide_eq_true (by kernel_rfl)) (by unfold Func.isWrapper; first | (rw [if_pos (by decide +kernel)]; kernel_rfl) | (rw [if_neg (by decide +kernel)]; exact ⟨rfl, rfl⟩))
    (fun os started H enc _ => rot_lifted os started H enc)

theorem rot_holds : Rows.JournalOutlivesRotCardSaid :=
  Claim7.holds_tied_plain_at .later [] [.data] true Rows.journalOutlivesRotCard.stood.harness false
    rot_row (fun _ h => by cases h) (by kernel_rfl) (fun _ h => by cases h) journalOutlivesRot_row_tie rfl ⟨rfl, rfl⟩ (by kernel_rfl) rfl
    (fun f fn hf hfn => by
      obtain rfl : f = 4 := Option.some.inj ((show Tryd.prog.funcNamed "antiquary/antiquarylaw24.JournalOutlivesRot" = some 4 by kernel_rfl).symm.trans hf) |>.symm
      obtain rfl : fn = Tryd.f4 := (Option.some.inj (Tryd.func4.symm.trans hfn)).symm
      exact ⟨by kernel_rfl, fun j t ht => by
        rw [Tryd.params4] at ht
        have hm : t ∈ [23, 24, 37] := by simpa using Array.mem_of_getElem? ht
        have hall : ([23, 24, 37].all fun u => !Tryd.prog.wantsStandIn u) = true := by kernel_rfl
        exact (show Tryd.prog.wantsStandIn t = false by simpa using List.all_eq_true.1 hall t hm)⟩)
    (by kernel_rfl)

#print axioms rot_holds
end Go.Proofs.YtilcpcpmkklobaaDoor
