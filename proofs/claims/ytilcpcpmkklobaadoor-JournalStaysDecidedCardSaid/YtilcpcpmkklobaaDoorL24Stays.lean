/- Proved here: the tied card of antiquarylaw24.JournalStaysDecided: it returns true for every input, and leaves its arguments as they were; the table of hash.constants is as the program's text lays it (tied). No conditions beyond. -/
import Derived.Test.YtilcpcpmkklobaaDoorRows
import Derived.Test.YtilcpcpmkklobaaDoorTie
import Derived.Test.YtilcpcpmkklobaaDoorCards
import Derived.SevenTiedAt
import Derived.Test.YtilcpcpmkklobaaDoorB6
/- What the rows list: the tables are there when the call begins. -/
namespace Go.Proofs.YtilcpcpmkklobaaDoor
open Go.RowKit
def laidL : List (String × DataW Unit) := [("antiquary/hash.constants", Rows.laid_antiquary_hash_constants)]
theorem door_met (os : Os) (args : Array Value) : laidMetH Tryd.prog laidL ((World.doorLaid Tryd.prog 2000 os).forCall (fun _ _ => 0) ⟨#[], args, []⟩).memory :=
  laidMetH_of_parts3 (fuel := 8) (laidMet_of_run' 8 (by kernel_rfl) (by kernel_rfl)) (by kernel_rfl) (by kernel_rfl)
theorem laid_glob (W : World) (h : laidMetH Tryd.prog laidL W) : ∀ x ∈ globTab, ∀ j z, x.2.2[j]? = some z → W.cell? ⟨x.1, j, none⟩ = some (.int x.2.1 z) := by
  rw [MakeChecks.laidMetH_plain _ _ _ (by kernel_rfl)] at h
  intro x hx
  simp only [globTab, List.mem_cons, List.not_mem_nil, or_false] at hx
  rcases hx with rfl
  · exact glob_of_reads (n := "antiquary/hash.constants") (zs := glob0) (t := 116) (e := 91) (m := 64) (by kernel_rfl) (by kernel_rfl) (by kernel_rfl) (by kernel_rfl) (by kernel_rfl) (by kernel_rfl) (Lib.laidMet.reads h (.head _))
end Go.Proofs.YtilcpcpmkklobaaDoor

/- The journal's laws: it stays decided. -/
namespace Go.Proofs.YtilcpcpmkklobaaDoor
set_option linter.unusedSimpArgs false
set_option linter.unusedVariables false
set_option linter.unnecessarySimpa false
open Go.RowKit

theorem fewB_specS {size most : Int} {ls : List (List PPut)} (h : fewB size most ls = true) : 1 ≤ size ∧ size ≤ 150 ∧ most ≤ 20 ∧ ls.length ≤ 20 ∧ ∀ l ∈ ls, l.length ≤ 30 := by
  simp only [fewB, decide_eq_true_eq] at h
  exact ⟨h.2.1, h.2.2.1, h.2.2.2.1, h.2.2.2.2, fun l hl => by simpa using List.all_eq_true.1 h.1 l hl⟩
theorem jApE_inS {N : Nat} {at_ most : Int} {l : List PPut} (he : jApE N at_ most l = 0) : InD N l := fun p hp => by have := (jApE_zero he).2 p hp; omega
section
variable {P : Program} {M : Nat} {Q : Exit → PS → Prop} {σ : PS}
/-- A cut behind two codes. -/
theorem PW.cutT2 {α : Type} {c y1 y2 : Code} (st : α → PS) (I : α → Prop) (h1 : PW P M c (ThenP P M y1 (MidP M st I Q)) σ) (h2 : ∀ x, I x → PW P M y2 Q (st x)) : PW P M c (ThenP P M y1 (ThenP P M y2 Q)) σ := by
  refine PW.conseq h1 fun e σ' h => ?_
  cases e with
  | normal => exact PW.cutT st I h h2
  | _ => exact h
end

set_option maxRecDepth 10000 in
set_option maxHeartbeats 40000000 in
theorem pw_stays (size at_ most : Int) (l : List PPut) (st : Int) (keep : List Int) (hl : l.length ≤ 1000000000000000) (hst : 0 ≤ st ∧ st < 256) (hkl : keep.length ≤ 1000000000000000) (hki : ∀ x ∈ keep, -9223372036854775808 ≤ x ∧ x ≤ 9223372036854775807) (hsan : PCalls Tryd.prog 9 [] (· = pbool true)) : PCalls Tryd.prog 6 [.agg (parea size at_ most), pputs l, pbyte st, pints keep] (· = pbool true) := by
  have h1 := low_pputs l
  have h2 := low_parea size at_ most
  have h4 : Low (pints keep) := by exact lw
  refine pcalls_of_pw typeTab_ok Tryd.func6 rfl (by kernel_rfl) (by intro p hp; simp at hp; rcases hp with rfl | rfl | rfl | rfl; exact h2; exact h1; exact .val _; exact h4) (by simp [pputs, pbyte, pints, PV.ownB]) (Nat.le_of_ble_eq_true rfl) ?_
  have hfew := pw_few24 size at_ most [l] (by simp) (by simpa using hl)
  have hfl := low_pputss [l]
  rw [show pputss [l] = .sl 1 1 [pputs l] none from rfl] at hfew hfl
  by_cases hf : fewB size most [l] = true
  · rw [hf] at hfew
    obtain ⟨s0, s1, mm, ll, le30⟩ := fewB_specS hf
    have l30 : l.length ≤ 30 := le30 l (by simp)
    obtain ⟨N, rfl⟩ : ∃ N : Nat, size = N := ⟨size.toNat, by omega⟩
    have hlies := pw_lies N at_ most (by omega)
    by_cases hb : liesB N at_ most = true
    · rw [hb] at hlies
      have hb' := hb
      simp only [liesB, decide_eq_true_eq] at hb'
      have hrr : 0 < roomI most ∧ roomI most ≤ 2000 := by unfold roomI numbersI; rw [if_neg (by omega)]; omega
      have hchk := pw_check24 N at_ most l (by omega) (by omega) (by omega)
      by_cases hk20 : keep.length ≤ 20
      · by_cases he : jApE N at_ most l = 0
        · rw [he] at hchk
          clear hf le30 ll
          have hin : InD N l := jApE_inS he
          have hlm := (jApE_zero he).1
          have i0 := JInv.new N at_ most hb
          have hnew := dc_New N (by omega) 900001 900002 900003 (by decide)
          rw [Int.toNat_natCast] at hnew
          have ho := jc_open at_ most i0.ok (by omega) (by omega) hb i0.head 900001 900002 900003 900004 (by decide)
          have i1 := i0.opened hb (by omega)
          have harm := dc_Arm ((newD N).opened at_) st 900001 900002 900003 (by decide)
          rw [show ({ (newD N).opened at_ with after := maxI st (-1) } : DM) = ((newD N).opened at_).arm st from rfl] at harm
          have i2 : GoD N 3 (((newD N).opened at_).arm st) := i1.ok.arm (by omega)
          have i3 : JInv N 3 at_ most (((newD N).opened at_).arm st).base (List.replicate N zeroSec) := i1.base
          have c1 := dC_low (newD N)
          have c2 := dM_low (newD N)
          have c3 := dC_low ((newD N).opened at_)
          have c4 := dM_low ((newD N).opened at_)
          have c7 := dC_low (((newD N).opened at_).arm st)
          have c8 := dM_low (((newD N).opened at_).arm st)
          have hz0 := rows0 [] N
          rw [show rowsT [] N 0 = List.replicate N zeroSec from rfl] at hz0
          clear i0 i1
          generalize ((newD N).opened at_).arm st = D2 at *
          generalize (newD N).opened at_ = D1 at *
          generalize newD N = D0 at *
          generalize List.replicate N zeroSec = M0 at *
          have hM0 := i3.len
          have hA := jd_apply at_ most i2 hb'.2.2.1 hb'.1 hb'.2.1 hb'.2.2.2 (by omega) l (by omega) (by omega) 900001 900002 900003 900004 (by decide)
          obtain ⟨g, r⟩ := i3.applyR i2 hb he (by omega)
          generalize D2.applyR N at_ most l = R at *
          have c9 := dC_low R.2
          have c10 := dM_low R.2
          obtain ⟨k1, k2, k3⟩ := crash_fit g (by omega)
          have hcr := dc_Crash R.2 keep k1 k2 k3 hkl hki 900001 900002 900003 900011 900012 900013 (by decide)
          have hC : (R.1 = 0 ∧ JInv N 0 at_ most (R.2.crash keep) (doM M0 l)) ∨ (R.1 = 220 ∧ Aft N at_ most M0 l (R.2.crash keep)) := by
            rcases r with ⟨r1, r2, r3⟩ | ⟨r1, r2⟩
            · exact .inl ⟨r1, by rw [← crash_base]; exact r3.crash hb keep⟩
            · exact .inr ⟨r1, r2 keep⟩
          generalize R.2.crash keep = C at *
          have d1 := dC_low C
          have d2 := dM_low C
          obtain ⟨f, D3⟩ := R
          simp only at *
          clear k1 k2 k3 r g i2 i3 he
          refine wg ?_
          refine PW.region typeTab_ok (by kernel_rfl) ?_
          refine wg ?_
          refine PW.region typeTab_ok (by kernel_rfl) ?_
          refine wg ?_
          refine PW.region typeTab_ok (by kernel_rfl) ?_
          refine wg ?_
          refine PW.region typeTab_ok (by kernel_rfl) ?_
          refine wg ?_
          refine PW.region typeTab_ok (by kernel_rfl) ?_
          refine wg ?_
          refine PW.region typeTab_ok (by kernel_rfl) ?_
          refine wg ?_
          refine PW.region typeTab_ok (by kernel_rfl) ?_
          refine wg ?_
          refine PW.region typeTab_ok (by kernel_rfl) ?_
          refine wg ?_
          refine PW.region typeTab_ok (by kernel_rfl) ?_
          refine wg ?_
          clear hcr harm ho hnew hfew hlies hchk hfl
          refine PW.cutT2 (fun x : Int × DM => (bot.setb 0 (parea N at_ most) |>.setb 900011 (dB 900012 900013 x.2) |>.setb 900012 (dC x.2) |>.setm 900013 (dM x.2) |>.put 1 (pputs l) |>.put 3 (pints keep) |>.put 4 (.ptr 0 0) |>.put 8 (pbool false) |>.put 12 (pint x.1) |>.put 13 (.ptr 900011 0))) (fun x => (x.1 = 0 ∧ JInv N 0 at_ most x.2 (doM M0 l)) ∨ (x.1 = 220 ∧ Aft N at_ most M0 l x.2)) ?_ ?_
          · rcases hC with ⟨rfl, hC⟩ | ⟨rfl, hC⟩
            · clear hA hki hin hz0
              refine wk ?_
              refine midP (0, C) (.inl ⟨rfl, hC⟩) ?_
              exact sb
            · clear hA hki hin hz0
              refine wk ?_
              refine midP (220, C) (.inr ⟨rfl, hC⟩) ?_
              exact sb
          · clear hA hC c1 c2 c3 c4 c7 c8 c9 c10 d1 d2
            rintro ⟨f, C⟩ hC
            simp only at hC ⊢
            have hM1 : (doM M0 l).length = N := by rw [doM_len]; exact hM0
            have hA : Aft N at_ most M0 l C := by
              rcases hC with ⟨-, h⟩ | ⟨-, h⟩
              · exact .inr (.inr h)
              · exact h
            obtain ⟨r1, -⟩ := hA.opened hb hin hlm
            have hF : ∃ M', JInv N 2000 at_ most (C.recov at_ l).2 M' ∧ (M' = doM M0 l ∨ (M' = M0 ∧ f = 220)) := by
              rcases hC with ⟨-, h⟩ | ⟨hf, h⟩
              · exact ⟨_, (h.openedR hb hin hlm).2, .inl rfl⟩
              · rcases (h.opened hb hin hlm).2 with j | j
                · exact ⟨_, j, .inr ⟨rfl, hf⟩⟩
                · exact ⟨_, j, .inl rfl⟩
            obtain ⟨M', hJ, hM'⟩ := hF
            have hop := jd_open at_ most hA.ok.go hb (by omega) (by omega) (recP_of hA hb hin hlm (E := C) (fun _ => rfl) rfl) r1 900011 900012 900013 900014 (by decide)
            have d1 := dC_low C
            have d2 := dM_low C
            have hX := hJ.crash hb keep
            obtain ⟨k1, k2, k3⟩ := crash_fit hJ.ok.go (by omega)
            have hcr := dc_Crash (C.recov at_ l).2 keep k1 k2 k3 hkl hki 900011 900012 900013 900021 900022 900023 (by decide)
            have hAX : Aft N at_ most M' l ((C.recov at_ l).2.crash keep) := .inl hX
            obtain ⟨r2, hY⟩ := hX.openedR hb hin hlm
            have hop2 := jd_open at_ most hX.ok.go hb (by omega) (by omega) (recP_of hAX hb hin hlm (E := (C.recov at_ l).2.crash keep) (fun _ => rfl) rfl) r2 900021 900022 900023 900024 (by decide)
            have hhas := hJ.has_all hY
            generalize (((C.recov at_ l).2.crash keep).recov at_ l).2 = Y at *
            generalize (C.recov at_ l).2.crash keep = X at *
            generalize (C.recov at_ l).2 = F at *
            have d3 := dC_low F
            have d4 := dM_low F
            have d5 := dC_low X
            have d6 := dM_low X
            have d7 := dC_low Y
            have d8 := dM_low Y
            clear hAX hX k1 k2 k3 hA hC hki r1 r2
            have hroom := pw_refRoom most
            have lo := low_outS (allR F N)
            have hLl := allR_len F N
            refine wk ?_
            refine PW.loop (fun i : Nat => (bot.setb 0 (parea N at_ most) |>.setb 900011 (dB 900012 900013 F) |>.setb 900012 (dC F) |>.setm 900013 (dM F) |>.put 1 (pputs l) |>.put 3 (pints keep) |>.put 4 (.ptr 0 0) |>.put 8 (pbool false) |>.put 12 (pint f) |>.put 13 (.ptr 900011 0) |>.put 16 (outS (allR F N) i) |>.put 17 (pint i))) (fun i => i ≤ N) (fun i => N - i) 0 (by omega) ?_ ?_
            · have b1 := lo 0
              exact sb
            · clear hop d1 d2
              intro i hi
              by_cases hlt : i < N
              · clear hop2 hcr d5 d6 d7 d8
                have hread := dc_Read F i (by rw [hJ.ok.len]; omega) (fun e he => by rw [hJ.op] at he; simp at he) 900011 900012 900013 (by decide)
                have ho := outS_succ (allR F N) i (by rw [hLl]; exact hlt)
                rw [allR_get hlt] at ho
                have hout := hJ.out i hlt
                have b0 := lo i
                have b1 := lo (i + 1)
                rw [ho] at b1
                have h0e : (i : Int) < at_ ∨ at_ + roomI most ≤ i → (F.read i).2 = 0 := fun h => by rw [hout h]
                clear lo hhas hout
                obtain ⟨s, e, hX⟩ : ∃ s e, F.read i = (s, e) := ⟨_, _, rfl⟩
                rw [hX] at hread ho b1 h0e
                simp only at hread ho b1 h0e
                have hsl := secL_low s
                clear hX hJ hY
                generalize hL : allR F N = L at *
                by_cases e0 : e = 0
                · subst e0
                  clear h0e hroom
                  cases i with
                  | zero =>
                    refine wk ?_
                    refine loopP (0 + 1) (by omega) (by omega) ?_
                    try dsimp only
                    rw [ho]
                    exact sb
                  | succ k =>
                    refine wk ?_
                    refine loopP (k + 1 + 1) (by omega) (by omega) ?_
                    try dsimp only
                    rw [ho]
                    exact sb
                · have a1 : at_ ≤ (i : Int) := by
                    by_cases c : at_ ≤ (i : Int)
                    · exact c
                    · exact absurd (h0e (.inl (by omega))) e0
                  have a2 : (i : Int) < at_ + roomI most := by
                    by_cases c : (i : Int) < at_ + roomI most
                    · exact c
                    · exact absurd (h0e (.inr (by omega))) e0
                  clear h0e
                  generalize roomI most = Q at *
                  cases i with
                  | zero =>
                    refine wk ?_
                    refine loopP (0 + 1) (by omega) (by omega) ?_
                    try dsimp only
                    rw [ho]
                    exact sb
                  | succ k =>
                    refine wk ?_
                    refine loopP (k + 1 + 1) (by omega) (by omega) ?_
                    try dsimp only
                    rw [ho]
                    exact sb
              · have e : i = N := by omega
                subst e
                have hall : outS (allR F i) i = .sl i 64 ((allR F i).flatMap secL) (some 53) := by
                  have := outS_all (allR F i) (by rw [hLl]; omega)
                  rw [hLl] at this
                  exact this
                have b1 := lo i
                rw [hall] at b1 ⊢
                have hhY := dc_has Y i at_ most (allR F i) (by rw [hLl]; omega) (by omega) (by rw [hY.ok.len]; omega) (fun e he => by rw [hY.op] at he; simp at he) 900021 900022 900023 (by decide)
                rw [hhas, psecs, hLl] at hhY
                have hh1 := dc_has F i at_ most (doM M0 l) (by rw [hM1]; omega) (by omega) (by rw [hJ.ok.len]; omega) (fun e he => by rw [hJ.op] at he; simp at he) 900011 900012 900013 (by decide)
                have hh0 := dc_has F i at_ most M0 (by rw [hM0]; omega) (by omega) (by rw [hJ.ok.len]; omega) (fun e he => by rw [hJ.op] at he; simp at he) 900011 900012 900013 (by decide)
                rw [psecs, hM1] at hh1
                rw [psecs, hM0] at hh0
                have hdo := pw_do M0 l (by rw [hM0]; omega) (by rw [hM0]; exact hin) (by omega)
                rw [psecs, psecs, doM_len, hM0] at hdo
                have hbool : hasB F at_ most (doM M0 l) = true ∨ (hasB F at_ most (doM M0 l) = false ∧ hasB F at_ most M0 = true ∧ f = 220) := by
                  by_cases c : hasB F at_ most (doM M0 l) = true
                  · exact .inl c
                  · rcases hM' with e1 | ⟨e1, hf⟩
                    · rw [e1] at hJ
                      exact absurd hJ.has c
                    · rw [e1] at hJ
                      exact .inr ⟨by simpa using c, hJ.has, hf⟩
                have z1 : Low (.sl i 64 (M0.flatMap secL) none) := .sl _ _ _ _ (flat_low secL_low _)
                clear hJ hY hM' hhas hin hall lo hLl
                generalize allR F i = L at *
                generalize doM M0 l = M1 at *
                rcases hbool with hd | ⟨hd, hn, rfl⟩
                · rw [hd] at hh1
                  generalize hasB F at_ most M0 = bn at *
                  refine wk ?_
                  refine PWops.mkJ (out := M0.flatMap secL) rfl rfl rfl rfl rfl rfl rfl rfl rfl ?_ hz0 ?_
                  · refine ⟨?_, ?_, ?_⟩ <;> omega
                  rw [Int.toNat_natCast]
                  refine wk ?_
                  refine PWops.mkJ (out := M0.flatMap secL) rfl rfl rfl rfl rfl rfl rfl rfl rfl ?_ hz0 ?_
                  · refine ⟨?_, ?_, ?_⟩ <;> omega
                  rw [Int.toNat_natCast]
                  refine wk ?_
                  exact retP rfl (by exact lw) rfl
                · rw [hd] at hh1
                  rw [hn] at hh0
                  refine wk ?_
                  refine PWops.mkJ (out := M0.flatMap secL) rfl rfl rfl rfl rfl rfl rfl rfl rfl ?_ hz0 ?_
                  · refine ⟨?_, ?_, ?_⟩ <;> omega
                  rw [Int.toNat_natCast]
                  refine wk ?_
                  refine PWops.mkJ (out := M0.flatMap secL) rfl rfl rfl rfl rfl rfl rfl rfl rfl ?_ hz0 ?_
                  · refine ⟨?_, ?_, ?_⟩ <;> omega
                  rw [Int.toNat_natCast]
                  refine wk ?_
                  exact retP rfl (by exact lw) rfl
        · generalize jApE N at_ most l = e at *
          clear hf le30 ll
          refine wk ?_
          exact retP rfl (by exact lw) rfl
      · clear hf le30 ll
        refine wk ?_
        exact retP rfl (by exact lw) rfl
    · have hb' : liesB N at_ most = false := by simpa using hb
      rw [hb'] at hlies
      clear hf le30 ll
      refine wk ?_
      exact retP rfl (by exact lw) rfl
  · have hf' : fewB size most [l] = false := by simpa using hf
    rw [hf'] at hfew
    clear hf
    refine wk ?_
    exact retP rfl (by exact lw) rfl
end Go.Proofs.YtilcpcpmkklobaaDoor

/- Proved here: the tied card of antiquarylaw24.JournalStaysDecided: it returns true for every input, and leaves its arguments as they were; the table of hash.constants is as the program's text lays it (tied). No conditions beyond. -/
namespace Go.Proofs.YtilcpcpmkklobaaDoor
set_option linter.unusedSimpArgs false
set_option linter.unusedVariables false
set_option linter.unnecessarySimpa false
open Go.ChangeShapes Go.WideShapes Go.ChangeAt Go.RowKit

set_option maxRecDepth 100000 in
theorem stays_lifted (os : Os) (started : os.Started) (H : Type) (enc : TypeId × Value → H) :
    ReturnsInHanded {} Tryd.checked os 6 .any (fun w args => (Rows.journalStaysDecidedSpec.pre enc Tryd.prog Tryd.f6 Rows.journalStaysDecidedRow.domain false w args ∧ laidMetH Tryd.prog laidL w) ∧ sizedMet enc Tryd.prog Tryd.f6 (OpenSpec.ofChange Rows.journalStaysDecidedSpec) false w args)
      (Rows.journalStaysDecidedSpec.post enc Tryd.prog Tryd.f6 false true false false) := by
  refine law_liftedL os started H enc Tryd.func6 (by kernel_rfl)
    (ChangeSpec.witness_shaped (enc := enc) (C := Tryd.checked) (os := os) (X := fun w _ => laidMetH Tryd.prog laidL w) false (World.doorLaid Tryd.prog 2000 os) #[.agg #[.int .i64 0, .int .i64 0, .int .i64 0], .slice none 0 0, .int .u8 0, .slice none 0 0] 8 rfl (World.shaped_of_RefB (by kernel_rfl) (by kernel_rfl)) (by kernel_rfl) (by kernel_rfl) (by kernel_rfl) (door_met os _))
    Tryd.underlying4 rfl rfl (by kernel_rfl) (fun ds hd => ?_)
    (argsOpen_cons argArea (argsOpen_cons argPuts (argsOpen_cons argB8 (argsOpen_cons argIs argsOpen_nil)))) (fun y hy => ?_) laid_glob
  · match ds, hd with
    | [d1, d2, d3, d4], _ => exact ⟨rfl, rfl, rfl⟩
  · obtain ⟨⟨z1, z2, z3⟩, ls, st, kp, u⟩ := y
    obtain ⟨-, hl, hs, hk, -⟩ := hy
    have e := reachE
    simp only at hl hs hk
    exact pw_stays z1 z2 z3 ls st kp (by omega) hs (by omega) hk.1 pw_sanity24

theorem stays_row : Rows.JournalStaysDecidedSaid :=
  OpenClaim.holds_of_wide 6 Tryd.f6 rfl rfl rfl rfl rfl rfl rfl ⟨rfl, rfl, rfl, rfl, rfl⟩ rfl rfl rfl rfl rfl (by kernel_rfl) Tryd.func6 (by kernel_rfl)
    (of_decide_eq_true (by kernel_rfl)) (by unfold Func.isWrapper; first | (rw [if_pos (by decide +kernel)]; kernel_rfl) | (rw [if_neg (by decide +kernel)]; exact ⟨rfl, rfl⟩))
    (fun os started H enc _ => stays_lifted os started H enc)

theorem stays_holds : Rows.JournalStaysDecidedCardSaid :=
  Claim7.holds_tied_plain_at .later [] [.data] true Rows.journalStaysDecidedCard.stood.harness false
    stays_row (fun _ h => by cases h) (by kernel_rfl) (fun _ h => by cases h) journalStaysDecided_row_tie rfl ⟨rfl, rfl⟩ (by kernel_rfl) rfl
    (fun f fn hf hfn => by
      obtain rfl : f = 6 := Option.some.inj ((show Tryd.prog.funcNamed "antiquary/antiquarylaw24.JournalStaysDecided" = some 6 by kernel_rfl).symm.trans hf) |>.symm
      obtain rfl : fn = Tryd.f6 := (Option.some.inj (Tryd.func6.symm.trans hfn)).symm
      exact ⟨by kernel_rfl, fun j t ht => by
        rw [Tryd.params6] at ht
        have hm : t ∈ [23, 36, 5, 46] := by simpa using Array.mem_of_getElem? ht
        have hall : ([23, 36, 5, 46].all fun u => !Tryd.prog.wantsStandIn u) = true := by kernel_rfl
        exact (show Tryd.prog.wantsStandIn t = false by simpa using List.all_eq_true.1 hall t hm)⟩)
    (by kernel_rfl)

#print axioms stays_holds
end Go.Proofs.YtilcpcpmkklobaaDoor
