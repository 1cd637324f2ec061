/- Proved here: the tied card of antiquarylaw24.JournalIsAllOrNothing: it returns true for every input, and leaves its arguments as they were; the table of hash.constants is as the program's text lays it (tied). No conditions beyond. -/
import Derived.Test.YtilcpcpmkklobaaDoorRows
import Derived.Test.YtilcpcpmkklobaaDoorTie
import Derived.Test.YtilcpcpmkklobaaDoorCards
import Derived.SevenTiedAt
import Derived.Test.YtilcpcpmkklobaaDoorC6
/- What the rows list: the tables are there when the call begins. -/
namespace Go.Proofs.YtilcpcpmkklobaaDoor
open Go.RowKit
def laidL : List (String × DataW Unit) := [("antiquary/hash.constants", Rows.laid_antiquary_hash_constants)]
theorem door_met (os : Os) (args : Array Value) : laidMetH Tryd.prog laidL ((World.doorLaid Tryd.prog 2000 os).forCall (fun _ _ => 0) ⟨#[], args, []⟩).memory :=
  laidMetH_of_parts3 (fuel := 8) (laidMet_of_run' 8 (by kernel_rfl) (by kernel_rfl)) (by kernel_rfl) (by kernel_rfl)
theorem laid_glob (W : World) (h : laidMetH Tryd.prog laidL W) : ∀ x ∈ globTab, ∀ j z, x.2.2[j]? = some z → W.cell? ⟨x.1, j, none⟩ = some (.int x.2.1 z) := by
  rw [MakeChecks.laidMetH_plain _ _ _ (by kernel_rfl)] at h
  intro x hx
  simp only [globTab, List.mem_cons, List.not_mem_nil, or_false] at hx
  rcases hx with rfl
  · exact glob_of_reads (n := "antiquary/hash.constants") (zs := glob0) (t := 116) (e := 91) (m := 64) (by kernel_rfl) (by kernel_rfl) (by kernel_rfl) (by kernel_rfl) (by kernel_rfl) (by kernel_rfl) (Lib.laidMet.reads h (.head _))
end Go.Proofs.YtilcpcpmkklobaaDoor

/- The journal's laws: all or nothing. -/
namespace Go.Proofs.YtilcpcpmkklobaaDoor
set_option linter.unusedSimpArgs false
set_option linter.unusedVariables false
set_option linter.unnecessarySimpa false
open Go.RowKit

theorem JInv.of_has {N k : Nat} {at_ most : Int} {D : DM} {M M2 : List Sec} (h : JInv N k at_ most D M) (hl : M2.length = N) (hh : hasB D at_ most M2 = true) : JInv N k at_ most D M2 := by
  refine ⟨h.ok, h.op, hl, h.head, fun q hq ho => ?_⟩
  have h1 := List.all_eq_true.1 hh q (List.mem_range.2 (by omega))
  unfold hasAt at h1
  rw [decide_eq_false (by omega), Bool.false_or, Bool.and_eq_true, decide_eq_true_eq, decide_eq_true_eq] at h1
  exact Prod.ext (Subtype.ext h1.2) h1.1
theorem jApE_in {N : Nat} {at_ most : Int} {l : List PPut} (he : jApE N at_ most l = 0) : InD N l := fun p hp => by have := (jApE_zero he).2 p hp; omega
/-- A disk of which what a failure leaves is known. -/
structure Dwn (N : Nat) (at_ most : Int) (D : DM) (M : List Sec) (l : List PPut) : Prop where
  go : GoD N 200000 D
  len : M.length = N
  aft : ∀ keep, Aft N at_ most M l (D.crash keep)
  ind : InD N l
  few : (l.length : Int) ≤ most
/-- A disk behind the failures. -/
def Opd (N : Nat) (at_ most : Int) (F : DM) (M M2 : List Sec) : Prop := M.length = N ∧ M2.length = N ∧ (JInv N 2000 at_ most F M ∨ JInv N 2000 at_ most F M2)

set_option maxRecDepth 10000 in
set_option maxHeartbeats 8000000 in
theorem pw_allOr (size at_ most : Int) (ls : List (List PPut)) (steps : Int) (more keep : List Int) (hl : ls.length ≤ 1000000000000000) (hls : ∀ l ∈ ls, l.length ≤ 1000000000000000) (hst : 0 ≤ steps ∧ steps < 65536) (hml : more.length ≤ 1000000000000000) (hmb : ∀ z ∈ more, 0 ≤ z ∧ z < 256) (hkl : keep.length ≤ 1000000000000000) (hki : ∀ x ∈ keep, -9223372036854775808 ≤ x ∧ x ≤ 9223372036854775807) (hsan : PCalls Tryd.prog 9 [] (· = pbool true)) : PCalls Tryd.prog 5 [.agg (parea size at_ most), pputss ls, .val (.int .u16 steps), pbytes more, pints keep] (· = pbool true) := by
  have h1 := low_pputss ls
  have h2 := low_parea size at_ most
  have h3 : Low (pbytes more) := low_mapB
  have h4 : Low (pints keep) := by exact lw
  refine pcalls_of_pw typeTab_ok Tryd.func5 rfl (by kernel_rfl) (by intro p hp; simp at hp; rcases hp with rfl | rfl | rfl | rfl | rfl; exact h2; exact h1; exact .val _; exact h3; exact h4) (by simp [pputss, pbytes, pints, PV.ownB]) (Nat.le_of_ble_eq_true rfl) ?_
  have hfew := pw_few24 size at_ most ls hl hls
  by_cases hf : fewB size most ls = true
  · rw [hf] at hfew
    obtain ⟨s0, s1, mm, ll, le30⟩ := fewB_spec hf
    obtain ⟨N, rfl⟩ : ∃ N : Nat, size = N := ⟨size.toNat, by omega⟩
    have hlies := pw_lies N at_ most (by omega)
    by_cases hb : liesB N at_ most = true
    · rw [hb] at hlies
      by_cases hm4 : more.length ≤ 4
      · by_cases hk20 : keep.length ≤ 20
        · have i0 := JInv.new N at_ most hb
          have hnew := dc_New N (by omega) 900001 900002 900003 (by decide)
          rw [Int.toNat_natCast] at hnew
          have ho := jc_open at_ most i0.ok (by omega) (by omega) hb i0.head 900001 900002 900003 900004 (by decide)
          have i1 := i0.opened hb (by omega)
          have harm := dc_Arm ((newD N).opened at_) (steps % 1000) 900001 900002 900003 (by decide)
          rw [show ({ (newD N).opened at_ with after := maxI (steps % 1000) (-1) } : DM) = ((newD N).opened at_).arm (steps % 1000) from rfl] at harm
          have i2 : GoD N 3 (((newD N).opened at_).arm (steps % 1000)) := i1.ok.arm (by omega)
          have i3 : JInv N 3 at_ most (((newD N).opened at_).arm (steps % 1000)).base (List.replicate N zeroSec) := i1.base
          have c1 := dC_low (newD N)
          have c2 := dM_low (newD N)
          have c3 := dC_low ((newD N).opened at_)
          have c4 := dM_low ((newD N).opened at_)
          have c7 := dC_low (((newD N).opened at_).arm (steps % 1000))
          have c8 := dM_low (((newD N).opened at_).arm (steps % 1000))
          have hb' := hb
          simp only [liesB, decide_eq_true_eq] at hb'
          have hrr : 0 < roomI most ∧ roomI most ≤ 2000 := by unfold roomI numbersI; rw [if_neg (by omega)]; omega
          have hz0 := rows0 [] N
          rw [show rowsT [] N 0 = List.replicate N zeroSec from rfl] at hz0
          clear i0 i1
          generalize ((newD N).opened at_).arm (steps % 1000) = D2 at *
          generalize (newD N).opened at_ = D1 at *
          generalize newD N = D0 at *
          generalize List.replicate N zeroSec = M0 at *
          clear hls hf
          have c5 : ∀ c ∈ M0.flatMap secL, Low c := flat_low secL_low _
          refine wk ?_
          refine PWops.mkI (out := M0.flatMap secL) typeTab_ok rfl (fun _ _ => rfl) rfl rfl rfl rfl rfl rfl rfl ?_ hz0 ?_
          · refine ⟨?_, ?_, ?_⟩ <;> omega
          rw [Int.toNat_natCast]
          refine wk ?_
          refine PW.cutB (fun x : DM × List Sec × List PPut => (bot.setb 0 (parea N at_ most) |>.setb 900001 (dB 900002 900003 x.1) |>.setb 900002 (dC x.1) |>.setm 900003 (dM x.1) |>.put 1 (pputss ls) |>.put 3 (pbytes more) |>.put 4 (pints keep) |>.put 5 (.ptr 0 0) |>.put 10 (pbool false) |>.put 11 (.ptr 900001 0) |>.put 14 (.sl N 64 (x.2.1.flatMap secL) none) |>.put 15 (.sl N 64 ((doM x.2.1 x.2.2).flatMap secL) none))) (fun x => Dwn N at_ most x.1 x.2.1 x.2.2) ?_ ?_
          · have c6 : Low (.sl N 64 (M0.flatMap secL) none) := .sl _ _ _ _ c5
            refine PW.loop (fun x : Nat × DM × List Sec => (bot.setb 0 (parea N at_ most) |>.setb 900004 (jB 900001 at_ most) |>.setb 900001 (dB 900002 900003 x.2.1) |>.setb 900002 (dC x.2.1) |>.setm 900003 (dM x.2.1) |>.put 1 (pputss ls) |>.put 3 (pbytes more) |>.put 4 (pints keep) |>.put 5 (.ptr 0 0) |>.put 10 (pbool false) |>.put 11 (.ptr 900001 0) |>.put 12 (.ptr 900004 0) |>.put 14 (.sl N 64 (x.2.2.flatMap secL) none) |>.put 15 (.sl N 64 (x.2.2.flatMap secL) none) |>.put 16 (pint x.1))) (fun x => x.1 ≤ ls.length ∧ GoD N (5000 * x.1 + 3) x.2.1 ∧ JInv N (5000 * x.1 + 3) at_ most x.2.1.base x.2.2) (fun x => ls.length - x.1) (0, D2, M0) ⟨by simp, i2, i3⟩ ?_ ?_
            · exact sb
            · clear c1 c2 c3 c4 c5 c6 c7 c8 i2 i3 hnew ho hfew hz0 hlies harm
              rintro ⟨i, D, M⟩ ⟨hi, hG, hJ⟩
              simp only at hi hG hJ ⊢
              have c1 := dC_low D
              have c2 := dM_low D
              have c5 : Low (.sl N 64 (M.flatMap secL) none) := .sl _ _ _ _ (flat_low secL_low _)
              by_cases hlt : i < ls.length
              · have hmem : ls.getD i default ∈ ls := by rw [List.getD_eq_getElem?_getD, List.getElem?_eq_getElem hlt]; exact List.getElem_mem hlt
                have hl30 := le30 _ hmem
                have hchk := pw_check24 N at_ most (ls.getD i default) (by omega) (by omega) (by omega)
                have hA := jd_apply at_ most hG hb'.2.2.1 hb'.1 hb'.2.1 hb'.2.2.2 (by omega) (ls.getD i default) (by omega) (by omega) 900001 900002 900003 900004 (by decide)
                by_cases he : jApE N at_ most (ls.getD i default) = 0
                · have hin : InD M.length (ls.getD i default) := fun p hp => by have := (jApE_zero he).2 p hp; rw [hJ.len]; omega
                  have hdo := pw_do M (ls.getD i default) (by rw [hJ.len]; omega) hin (by omega)
                  rw [psecs, psecs, doM_len, hJ.len] at hdo
                  rw [he] at hchk
                  obtain ⟨g, r⟩ := hJ.applyR hG hb he (by omega)
                  have hML := hJ.len
                  generalize hR : D.applyR N at_ most (ls.getD i default) = R at *
                  have d1 := dC_low R.2
                  have d2 := dM_low R.2
                  have d5 : Low (.sl N 64 ((doM M (ls.getD i default)).flatMap secL) none) := .sl _ _ _ _ (flat_low secL_low _)
                  rcases r with ⟨r1, r2, r3⟩ | ⟨r1, r2⟩
                  · rw [r1] at hA
                    clear hin hmem le30 hR hG hJ r2 hki hmb
                    refine wk ?_
                    refine loopP (i + 1, R.2, doM M (ls.getD i default)) ⟨by show i + 1 ≤ _; omega, g.mono (by show _ ≤ 5000 * (i + 1) + 3; omega), r3.mono (by show _ ≤ 5000 * (i + 1) + 3; omega)⟩ (by show ls.length - (i + 1) < ls.length - i; omega) ?_
                    exact sb
                  · rw [r1] at hA
                    have hD : Dwn N at_ most R.2 M (ls.getD i default) := ⟨g.mono (by omega), hML, r2, by rw [hML] at hin; exact hin, (jApE_zero he).1⟩
                    clear hin hmem le30 hR hG hJ r2 hki hmb he g
                    refine wk ?_
                    refine midP (R.2, M, ls.getD i default) hD ?_
                    exact sb
                · generalize jApE N at_ most (ls.getD i default) = e at *
                  clear hA hmem le30 hki hmb
                  refine wk ?_
                  refine loopP (i + 1, D, M) ⟨by show i + 1 ≤ _; omega, hG.mono (by show _ ≤ 5000 * (i + 1) + 3; omega), hJ.mono (by show _ ≤ 5000 * (i + 1) + 3; omega)⟩ (by show ls.length - (i + 1) < ls.length - i; omega) ?_
                  exact sb
              · have e : i = ls.length := by omega
                subst e
                have hD : Dwn N at_ most D M [] := ⟨hG.mono (by omega), hJ.len, fun keep => .inl (by rw [← crash_base]; exact hJ.crash hb keep), fun p hp => by simp at hp, by simp; omega⟩
                clear hki hmb hG hJ
                refine wk ?_
                refine midP (D, M, []) hD ?_
                exact sb
          · clear c1 c2 c3 c4 c5 c7 c8 i2 i3 hnew ho hfew hz0 hlies harm
            rintro ⟨D, M, l⟩ hD
            simp only at hD ⊢
            obtain ⟨hG, hML, hA, hin, hlm⟩ := hD
            have c1 := dC_low D
            have c2 := dM_low D
            have c5 : Low (.sl N 64 (M.flatMap secL) none) := .sl _ _ _ _ (flat_low secL_low _)
            have c6 : Low (.sl N 64 ((doM M l).flatMap secL) none) := .sl _ _ _ _ (flat_low secL_low _)
            obtain ⟨k1, k2, k3⟩ := crash_fit hG (by omega)
            have hcr := dc_Crash D keep k1 k2 k3 hkl hki 900001 900002 900003 900011 900012 900013 (by decide)
            have hAft := hA keep
            clear hA hG k1 k2 k3
            generalize D.crash keep = C at *
            have c3 := dC_low C
            have c4 := dM_low C
            refine wg ?_
            refine PW.region typeTab_ok (by kernel_rfl) ?_
            refine wg ?_
            refine PW.region typeTab_ok (by kernel_rfl) ?_
            refine wg ?_
            clear hcr
            refine PW.cutT (fun x : DM × List Sec × List Sec => (bot.setb 0 (parea N at_ most) |>.setb 900014 (jB 900011 at_ most) |>.setb 900011 (dB 900012 900013 x.1) |>.setb 900012 (dC x.1) |>.setm 900013 (dM x.1) |>.put 1 (pputss ls) |>.put 5 (.ptr 0 0) |>.put 10 (pbool false) |>.put 14 (.sl N 64 (x.2.1.flatMap secL) none) |>.put 15 (.sl N 64 (x.2.2.flatMap secL) none) |>.put 18 (.ptr 900011 0) |>.put 19 (.ptr 900014 0))) (fun x => Opd N at_ most x.1 x.2.1 x.2.2) ?_ ?_
            · by_cases hme : more = []
              · subst hme
                have hag := jd_again0 N at_ most hAft (by omega) hb hin hlm keep 900011 900012 900013 900014 (by decide)
                have hop := (hAft.opened hb hin hlm).2
                have hO : Opd N at_ most (C.recov at_ l).2 M (doM M l) := ⟨hML, by rw [doM_len]; exact hML, hop⟩
                generalize (C.recov at_ l).2 = F at *
                have d1 := dC_low F
                have d2 := dM_low F
                clear hAft hin hki hmb hop
                refine wk ?_
                refine midP (F, M, doM M l) hO ?_
                exact sb
              · have hag := jd_again1 N at_ most hAft (by omega) hb hin hlm keep more hmb ⟨List.length_pos_iff.2 hme, by omega⟩ hkl hki 900011 900012 900013 900021 900022 900023 900024 (by decide)
                have hop := ((agN_aft (keep := keep) hAft hb hin hlm hmb more.length).opened hb hin hlm).2
                generalize (DM.recov (agN C at_ l keep more more.length) at_ l).2 = F at *
                have hO : Opd N at_ most F M (doM M l) := ⟨hML, by rw [doM_len]; exact hML, hop⟩
                have d1 := dC_low F
                have d2 := dM_low F
                clear hAft hin hki hmb hop
                generalize ((C.arm (more.getD 0 default)).recov at_ l).2 = G at *
                refine wk ?_
                refine midP (F, M, doM M l) hO ?_
                refine Sub.other (κ := renN [(900011, 900021), (900012, 900022), (900013, 900023), (900014, 900024)]) [900013, 900012, 900011, 900014, 0] (by exact sbr0) ?_ rfl rfl
                exact kn_put (kn_put (kn_put (kn_put (kn_put (kn_put (kn_put (kn_setm (kn_setb (kn_setb (kn_setb (kn_setb kn_bot)))))))))))
            · clear c1 c2 c3 c4 c5 c6 hAft hin hlm hki hmb hML
              rintro ⟨F, M, M2⟩ ⟨m1, m2, hJ⟩
              simp only at m1 m2 hJ ⊢
              have c1 := dC_low F
              have c2 := dM_low F
              have c5 : Low (.sl N 64 (M.flatMap secL) none) := .sl _ _ _ _ (flat_low secL_low _)
              have c6 : Low (.sl N 64 (M2.flatMap secL) none) := .sl _ _ _ _ (flat_low secL_low _)
              have hFl : F.cells.length = N ∧ F.op = [] := by rcases hJ with j | j <;> exact ⟨j.ok.len, j.op⟩
              have hhas2 := dc_has F N at_ most M2 (by omega) (by omega) (by rw [hFl.1]; omega) (fun e he => by rw [hFl.2] at he; simp at he) 900011 900012 900013 (by decide)
              rw [psecs, m2] at hhas2
              refine wk ?_
              refine PW.cutT (fun x : List Sec => (bot.setb 0 (parea N at_ most) |>.setb 900014 (jB 900011 at_ most) |>.setb 900011 (dB 900012 900013 F) |>.setb 900012 (dC F) |>.setm 900013 (dM F) |>.put 1 (pputss ls) |>.put 5 (.ptr 0 0) |>.put 10 (pbool false) |>.put 14 (.sl N 64 (x.flatMap secL) none) |>.put 18 (.ptr 900011 0) |>.put 19 (.ptr 900014 0))) (fun x => JInv N 2000 at_ most F x) ?_ ?_
              · clear hhas2
                by_cases hh : hasB F at_ most M2 = true
                · rw [hh]
                  have hJ2 : JInv N 2000 at_ most F M2 := hJ.elim (fun j => j.of_has m2 hh) id
                  refine wk ?_
                  refine midP M2 hJ2 ?_
                  exact sb
                · have hJM : JInv N 2000 at_ most F M := hJ.resolve_right (fun j => hh j.has)
                  have hh2 : hasB F at_ most M2 = false := by simpa using hh
                  rw [hh2]
                  have hhas1 := dc_has F N at_ most M (by omega) (by omega) (by rw [hFl.1]; omega) (fun e he => by rw [hFl.2] at he; simp at he) 900011 900012 900013 (by decide)
                  rw [hJM.has, psecs, m1] at hhas1
                  clear hh hh2 hJ
                  refine wk ?_
                  refine midP M hJM ?_
                  exact sb
              · clear hhas2 hJ m1 m2 c5 c6 hFl
                intro M' hJ
                have c5 : Low (.sl N 64 (M'.flatMap secL) none) := .sl _ _ _ _ (flat_low secL_low _)
                refine wk ?_
                refine PW.loop (fun x : Nat × DM × List Sec => (bot.setb 0 (parea N at_ most) |>.setb 900014 (jB 900011 at_ most) |>.setb 900011 (dB 900012 900013 x.2.1) |>.setb 900012 (dC x.2.1) |>.setm 900013 (dM x.2.1) |>.put 1 (pputss ls) |>.put 5 (.ptr 0 0) |>.put 10 (pbool false) |>.put 14 (.sl N 64 (x.2.2.flatMap secL) none) |>.put 18 (.ptr 900011 0) |>.put 19 (.ptr 900014 0) |>.put 20 (pint x.1))) (fun x => x.1 ≤ ls.length ∧ JInv N (5000 * x.1 + 2000) at_ most x.2.1 x.2.2) (fun x => ls.length - x.1) (0, F, M') ⟨by simp, hJ⟩ ?_ ?_
                · exact sb
                · clear c1 c2 c5 hJ
                  rintro ⟨i, D, M⟩ ⟨hi, hJ⟩
                  simp only at hi hJ ⊢
                  have c1 := dC_low D
                  have c2 := dM_low D
                  have c5 : Low (.sl N 64 (M.flatMap secL) none) := .sl _ _ _ _ (flat_low secL_low _)
                  by_cases hlt : i < ls.length
                  · have hmem : ls.getD i default ∈ ls := by rw [List.getD_eq_getElem?_getD, List.getElem?_eq_getElem hlt]; exact List.getElem_mem hlt
                    have hl30 := le30 _ hmem
                    have hchk := pw_check24 N at_ most (ls.getD i default) (by omega) (by omega) (by omega)
                    have hA := jc_apply at_ most hJ.ok hb'.2.2.1 hb'.1 hb'.2.1 hb'.2.2.2 (by omega) (ls.getD i default) (by omega) (by omega) 900011 900012 900013 900014 (by decide)
                    have hJ2 := hJ.apply hb (by omega) (ls.getD i default)
                    by_cases he : jApE N at_ most (ls.getD i default) = 0
                    · have hin : InD M.length (ls.getD i default) := fun p hp => by have := (jApE_zero he).2 p hp; rw [hJ.len]; omega
                      have hdo := pw_do M (ls.getD i default) (by rw [hJ.len]; omega) hin (by omega)
                      rw [psecs, psecs, doM_len, hJ.len] at hdo
                      rw [he] at hchk hA
                      rw [if_pos he] at hJ2
                      generalize D.apply N at_ most (ls.getD i default) = D2 at *
                      generalize doM M (ls.getD i default) = M2 at *
                      have hhas := dc_has D2 N at_ most M2 (by rw [hJ2.len]; omega) (by omega) (by rw [hJ2.ok.len]; omega) (fun e he => by rw [hJ2.op] at he; simp at he) 900011 900012 900013 (by decide)
                      rw [hJ2.has, psecs, hJ2.len] at hhas
                      have d1 := dC_low D2
                      have d2 := dM_low D2
                      have d5 : Low (.sl N 64 (M2.flatMap secL) none) := .sl _ _ _ _ (flat_low secL_low _)
                      clear he hin hmem le30 hJ
                      refine wk ?_
                      refine loopP (i + 1, D2, M2) ⟨by show i + 1 ≤ _; omega, hJ2.mono (by show _ ≤ 5000 * (i + 1) + 2000; omega)⟩ (by show ls.length - (i + 1) < ls.length - i; omega) ?_
                      exact sb
                    · generalize jApE N at_ most (ls.getD i default) = e at *
                      clear hJ2 hA hmem le30
                      refine wk ?_
                      refine loopP (i + 1, D, M) ⟨by show i + 1 ≤ _; omega, hJ.mono (by show _ ≤ 5000 * (i + 1) + 2000; omega)⟩ (by show ls.length - (i + 1) < ls.length - i; omega) ?_
                      exact sb
                  · have e : i = ls.length := by omega
                    subst e
                    refine wk ?_
                    exact retP rfl (by exact lw) rfl
        · refine wk ?_
          exact retP rfl (by exact lw) rfl
      · refine wk ?_
        exact retP rfl (by exact lw) rfl
    · have hb' : liesB N at_ most = false := by simpa using hb
      rw [hb'] at hlies
      refine wk ?_
      exact retP rfl (by exact lw) rfl
  · have hf' : fewB size most ls = false := by simpa using hf
    rw [hf'] at hfew
    refine wk ?_
    exact retP rfl (by exact lw) rfl
end Go.Proofs.YtilcpcpmkklobaaDoor

/- Proved here: the tied card of antiquarylaw24.JournalIsAllOrNothing: it returns true for every input, and leaves its arguments as they were; the table of hash.constants is as the program's text lays it (tied). No conditions beyond. -/
namespace Go.Proofs.YtilcpcpmkklobaaDoor
set_option linter.unusedSimpArgs false
set_option linter.unusedVariables false
set_option linter.unnecessarySimpa false
open Go.ChangeShapes Go.WideShapes Go.ChangeAt Go.RowKit

set_option maxRecDepth 100000 in
theorem allOr_lifted (os : Os) (started : os.Started) (H : Type) (enc : TypeId × Value → H) :
    ReturnsInHanded {} Tryd.checked os 5 .any (fun w args => (Rows.journalIsAllOrNothingSpec.pre enc Tryd.prog Tryd.f5 Rows.journalIsAllOrNothingRow.domain false w args ∧ laidMetH Tryd.prog laidL w) ∧ sizedMet enc Tryd.prog Tryd.f5 (OpenSpec.ofChange Rows.journalIsAllOrNothingSpec) false w args)
      (Rows.journalIsAllOrNothingSpec.post enc Tryd.prog Tryd.f5 false true false false) := by
  refine law_liftedL os started H enc Tryd.func5 (by kernel_rfl)
    (ChangeSpec.witness_shaped (enc := enc) (C := Tryd.checked) (os := os) (X := fun w _ => laidMetH Tryd.prog laidL w) false (World.doorLaid Tryd.prog 2000 os) #[.agg #[.int .i64 0, .int .i64 0, .int .i64 0], .slice none 0 0, .int .u16 0, .slice none 0 0, .slice none 0 0] 8 rfl (World.shaped_of_RefB (by kernel_rfl) (by kernel_rfl)) (by kernel_rfl) (by kernel_rfl) (by kernel_rfl) (door_met os _))
    Tryd.underlying4 rfl rfl (by kernel_rfl) (fun ds hd => ?_)
    (argsOpen_cons argArea (argsOpen_cons argPutss (argsOpen_cons argW (argsOpen_cons argBs (argsOpen_cons argIs argsOpen_nil))))) (fun y hy => ?_) laid_glob
  · match ds, hd with
    | [d1, d2, d3, d4, d5], _ => exact ⟨rfl, rfl, rfl⟩
  · obtain ⟨⟨z1, z2, z3⟩, ls, st, mo, kp, u⟩ := y
    obtain ⟨-, hl, hs, hm, hk, -⟩ := hy
    have e := reachE
    simp only at hl hs hm hk
    exact pw_allOr z1 z2 z3 ls st mo kp (by omega) (fun l hm => by have := (hl.1 l hm).2; omega) hs (by omega) hm.1 (by omega) hk.1 pw_sanity24

theorem allOr_row : Rows.JournalIsAllOrNothingSaid :=
  OpenClaim.holds_of_wide 5 Tryd.f5 rfl rfl rfl rfl rfl rfl rfl ⟨rfl, rfl, rfl, rfl, rfl⟩ rfl rfl rfl rfl rfl (by kernel_rfl) Tryd.func5 (by kernel_rfl)
    (of_decide_eq_true (by kernel_rfl)) (by unfold Func.isWrapper; first | (rw [if_pos (by decide +kernel)]; kernel_rfl) | (rw [if_neg (by decide +kernel)]; exact ⟨rfl, rfl⟩))
    (fun os started H enc _ => allOr_lifted os started H enc)

theorem allOr_holds : Rows.JournalIsAllOrNothingCardSaid :=
  Claim7.holds_tied_plain_at .later [] [.data] true Rows.journalIsAllOrNothingCard.stood.harness false
    allOr_row (fun _ h => by cases h) (by kernel_rfl) (fun _ h => by cases h) journalIsAllOrNothing_row_tie rfl ⟨rfl, rfl⟩ (by kernel_rfl) rfl
    (fun f fn hf hfn => by
      obtain rfl : f = 5 := Option.some.inj ((show Tryd.prog.funcNamed "antiquary/antiquarylaw24.JournalIsAllOrNothing" = some 5 by kernel_rfl).symm.trans hf) |>.symm
      obtain rfl : fn = Tryd.f5 := (Option.some.inj (Tryd.func5.symm.trans hfn)).symm
      exact ⟨by kernel_rfl, fun j t ht => by
        rw [Tryd.params5] at ht
        have hm : t ∈ [23, 24, 45, 37, 46] := by simpa using Array.mem_of_getElem? ht
        have hall : ([23, 24, 45, 37, 46].all fun u => !Tryd.prog.wantsStandIn u) = true := by kernel_rfl
        exact (show Tryd.prog.wantsStandIn t = false by simpa using List.all_eq_true.1 hall t hm)⟩)
    (by kernel_rfl)

#print axioms allOr_holds
end Go.Proofs.YtilcpcpmkklobaaDoor
