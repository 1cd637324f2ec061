/- Merged: PwWk, Da, Db, Dc, Dd, De, Df, Dh, Ja, Dg, PwZ3, PwZ4, PwZ5, Sort, Di, PwRn, Dj, La, Jb, Jc, Jd, Je, Jg. -/
import Derived.Sort.OwnSortedInts
import Derived.Test.YtilcpcpmkklobaaDoorShelf
import Derived.Test.YtilcpcpmkklobaaDoorB3
/- The walk over pure states, as the default of an argument. -/
namespace Go.Proofs.YtilcpcpmkklobaaDoor
set_option linter.unusedSimpArgs false
set_option linter.unusedVariables false
set_option linter.unnecessarySimpa false
open Go.RowKit

structure Hold2 (q : Prop) : Prop where
  out : q
theorem ops0 {p q : Prop} (k : q) (h : Hold2 q → p := by intro hHold; ((with_reducible refine PWops.idd ?_) ; first | (first | refine PWops.cvI rfl rfl rfl rfl (by (first | omega | (dsimp only ; omega))) (by (first | omega | (dsimp only ; omega))) rfl ?_ | refine PWops.stepA rfl ?_ | refine PWops.doneI rfl ?_ | refine PWops.boolK true rfl rfl rfl rfl (by (first | rfl | assumption | (simp only [decide_eq_true_eq, decide_eq_false_iff_not, bne_iff_ne, beq_iff_eq, beq_eq_false_iff_ne, bne_eq_false_iff_eq, ne_eq] ; omega))) rfl ?_ | refine PWops.boolK false rfl rfl rfl rfl (by (first | rfl | assumption | (simp only [decide_eq_true_eq, decide_eq_false_iff_not, bne_iff_ne, beq_iff_eq, beq_eq_false_iff_ne, bne_eq_false_iff_eq, ne_eq] ; omega))) rfl ?_ | refine PWops.fitsK rfl rfl rfl rfl (by (first | omega | (dsimp only ; omega))) (by (first | omega | (dsimp only ; omega))) rfl ?_ | refine PWops.remK rfl rfl rfl rfl (by (first | omega | (dsimp only ; omega))) rfl ?_ | refine PWops.quoK rfl rfl rfl rfl (by (first | omega | (dsimp only ; omega))) rfl ?_ | refine PWops.app rfl rfl rfl rfl rfl rfl rfl rfl (by (first | omega | (dsimp only ; omega))) (by (first | omega | (dsimp only ; omega))) (by first | rfl | exact secL_one _ | exact putL_one _ | exact one_pint _ | exact one_pstr _ | exact one_pbyte _ | exact one_pattrs _) ?_ | refine PWops.app0 rfl rfl rfl rfl rfl rfl rfl rfl (by (first | omega | (dsimp only ; omega))) (by (first | omega | (dsimp only ; omega))) (by first | rfl | exact secL_one _ | exact putL_one _ | exact one_pint _ | exact one_pstr _ | exact one_pbyte _ | exact one_pattrs _) ?_ | refine PWops.idx1 rfl rfl rfl rfl rfl rfl rfl rfl (by (first | omega | (dsimp only ; omega))) ?_ | refine PWops.idx rfl rfl rfl rfl rfl rfl rfl rfl (by (first | omega | (dsimp only ; omega))) ?_ | refine PWops.ld rfl rfl rfl rfl rfl rfl rfl (by assumption) rfl ?_ | refine PWops.ldA rfl rfl rfl rfl rfl rfl (by (first | omega | (dsimp only ; omega))) (by assumption) ?_ | refine PWops.str rfl rfl rfl rfl rfl rfl rfl rfl rfl rfl rfl ?_) | (first | refine PWops.arU rfl rfl rfl rfl rfl rfl ?_ | refine PWops.boxA rfl rfl rfl rfl rfl (by (first | rfl | exact secL_one _ | exact dcellL_one _ | exact putL_one _ | exact one_map (fun _ => rfl) _)) (by (first | rfl | exact secL_bare _ | exact dcellL_bare _ | exact putL_bare _ | exact bare_map (fun _ => rfl) _)) ?_ | refine PWops.litA rfl rfl rfl rfl rfl rfl rfl (by (first | rfl | exact secL_len _ | exact dcellL_len _ | exact putL_len _ | exact len_map (by assumption) | exact len_map rfl)) rfl rfl rfl (by (first | rfl | exact secL_one _ | exact dcellL_one _ | exact putL_one _ | exact one_map (fun _ => rfl) _)) (by (first | rfl | exact secL_bare _ | exact dcellL_bare _ | exact putL_bare _ | exact bare_map (fun _ => rfl) _)) ?_ | refine PWops.shlK rfl rfl rfl rfl rfl rfl (by (first | omega | (dsimp only ; omega) | decide)) ?_ | refine PWops.shrK rfl rfl rfl rfl rfl rfl (by (first | omega | (dsimp only ; omega) | decide)) ?_ | refine PWops.ldBC rfl rfl rfl rfl rfl rfl rfl rfl (by (first | exact secL_len | exact dcellL_len | exact putL_len | (intro; rfl))) (by (first | omega | (dsimp only ; omega))) (by (first | rfl | exact dcellL_64 _)) rfl ?_ | refine PWops.ldRB rfl rfl rfl rfl rfl rfl (by (first | exact secL_len | exact dcellL_len | exact putL_len | (intro; rfl))) (by (first | omega | (dsimp only ; omega))) (by (first | exact secL_bare | exact dcellL_bare | exact putL_bare | (intro; rfl))) ?_ | refine PWops.ldSec rfl rfl rfl rfl rfl rfl rfl (by first | with_reducible rfl | with_reducible exact dC_flat _) (by rfl) (by (first | omega | (dsimp only ; omega))) ?_ | refine PWops.ldBR rfl rfl rfl rfl rfl rfl rfl (by (first | exact secL_len | exact dcellL_len | exact putL_len | (intro; rfl))) (by (first | omega | (dsimp only ; omega))) (by (first | exact secL_bare _ | exact dcellL_bare _ | exact putL_bare _ | rfl)) ?_ | refine PWops.lkp rfl rfl rfl rfl rfl rfl rfl rfl rfl rfl rfl (by assumption) ?_ | refine PWops.ldAll rfl rfl rfl rfl rfl rfl rfl (by (first | rfl | exact secL_len _ | exact dcellL_len _ | exact putL_len _ | exact len_map (by assumption) | exact len_map rfl)) (by (first | rfl | exact secL_bare _ | exact dcellL_bare _ | exact putL_bare _ | exact bare_map (fun _ => rfl) _)) ?_ | refine PWops.stAll rfl rfl rfl rfl rfl rfl rfl rfl rfl (by (first | rfl | exact secL_len _ | exact dcellL_len _ | exact putL_len _ | exact len_map (by assumption) | exact len_map rfl)) (by (first | rfl | exact secL_len _ | exact dcellL_len _ | exact putL_len _ | exact len_map (by assumption) | exact len_map rfl)) (by (first | rfl | exact secL_one _ | exact dcellL_one _ | exact putL_one _ | exact one_map (fun _ => rfl) _)) (by (first | rfl | exact secL_bare _ | exact dcellL_bare _ | exact putL_bare _ | exact bare_map (fun _ => rfl) _)) ?_ | refine PWops.idxM rfl rfl rfl rfl rfl rfl rfl rfl (by (first | omega | (dsimp only ; omega))) ?_ | refine PWops.idxP1 rfl rfl rfl rfl rfl rfl rfl rfl (by (first | omega | (dsimp only ; omega))) ?_ | refine PWops.idxP rfl rfl rfl rfl rfl rfl rfl rfl (by (first | omega | (dsimp only ; omega))) ?_ | (refine PWops.call rfl rfl rfl (by assumption) ?_) | (refine PWops.callR rfl rfl (by assumption) (by (first | exact trivial | exact ⟨⟨rfl, rfl⟩, trivial⟩ | exact ⟨⟨rfl, rfl⟩, ⟨rfl, rfl⟩, trivial⟩ | exact ⟨⟨rfl, rfl⟩, ⟨rfl, rfl⟩, ⟨rfl, rfl⟩, trivial⟩ | exact ⟨⟨rfl, rfl⟩, ⟨rfl, rfl⟩, ⟨rfl, rfl⟩, ⟨rfl, rfl⟩, trivial⟩ | exact ⟨⟨rfl, rfl⟩, ⟨rfl, rfl⟩, ⟨rfl, rfl⟩, ⟨rfl, rfl⟩, ⟨rfl, rfl⟩, trivial⟩ | exact ⟨⟨rfl, rfl⟩, ⟨rfl, rfl⟩, ⟨rfl, rfl⟩, ⟨rfl, rfl⟩, ⟨rfl, rfl⟩, ⟨rfl, rfl⟩, trivial⟩ | exact ⟨⟨rfl, rfl⟩, ⟨rfl, rfl⟩, ⟨rfl, rfl⟩, ⟨rfl, rfl⟩, ⟨rfl, rfl⟩, ⟨rfl, rfl⟩, ⟨rfl, rfl⟩, trivial⟩ | exact ⟨⟨rfl, rfl⟩, ⟨rfl, rfl⟩, ⟨rfl, rfl⟩, ⟨rfl, rfl⟩, ⟨rfl, rfl⟩, ⟨rfl, rfl⟩, ⟨rfl, rfl⟩, ⟨rfl, rfl⟩, trivial⟩)) (by (first | exact trivial | exact ⟨⟨rfl, rfl⟩, trivial⟩ | exact ⟨⟨rfl, rfl⟩, ⟨rfl, rfl⟩, trivial⟩ | exact ⟨⟨rfl, rfl⟩, ⟨rfl, rfl⟩, ⟨rfl, rfl⟩, trivial⟩ | exact ⟨⟨rfl, rfl⟩, ⟨rfl, rfl⟩, ⟨rfl, rfl⟩, ⟨rfl, rfl⟩, trivial⟩ | exact ⟨⟨rfl, rfl⟩, ⟨rfl, rfl⟩, ⟨rfl, rfl⟩, ⟨rfl, rfl⟩, ⟨rfl, rfl⟩, trivial⟩ | exact ⟨⟨rfl, rfl⟩, ⟨rfl, rfl⟩, ⟨rfl, rfl⟩, ⟨rfl, rfl⟩, ⟨rfl, rfl⟩, ⟨rfl, rfl⟩, trivial⟩ | exact ⟨⟨rfl, rfl⟩, ⟨rfl, rfl⟩, ⟨rfl, rfl⟩, ⟨rfl, rfl⟩, ⟨rfl, rfl⟩, ⟨rfl, rfl⟩, ⟨rfl, rfl⟩, trivial⟩ | exact ⟨⟨rfl, rfl⟩, ⟨rfl, rfl⟩, ⟨rfl, rfl⟩, ⟨rfl, rfl⟩, ⟨rfl, rfl⟩, ⟨rfl, rfl⟩, ⟨rfl, rfl⟩, ⟨rfl, rfl⟩, trivial⟩)) rfl (by first | exact .inl rfl | exact .inr (fun _ _ => rfl)) ?_) | (refine PWops.callH rfl rfl (by assumption) (by (first | exact trivial | exact ⟨⟨rfl, rfl⟩, trivial⟩ | exact ⟨⟨rfl, rfl⟩, ⟨rfl, rfl⟩, trivial⟩ | exact ⟨⟨rfl, rfl⟩, ⟨rfl, rfl⟩, ⟨rfl, rfl⟩, trivial⟩ | exact ⟨⟨rfl, rfl⟩, ⟨rfl, rfl⟩, ⟨rfl, rfl⟩, ⟨rfl, rfl⟩, trivial⟩ | exact ⟨⟨rfl, rfl⟩, ⟨rfl, rfl⟩, ⟨rfl, rfl⟩, ⟨rfl, rfl⟩, ⟨rfl, rfl⟩, trivial⟩ | exact ⟨⟨rfl, rfl⟩, ⟨rfl, rfl⟩, ⟨rfl, rfl⟩, ⟨rfl, rfl⟩, ⟨rfl, rfl⟩, ⟨rfl, rfl⟩, trivial⟩ | exact ⟨⟨rfl, rfl⟩, ⟨rfl, rfl⟩, ⟨rfl, rfl⟩, ⟨rfl, rfl⟩, ⟨rfl, rfl⟩, ⟨rfl, rfl⟩, ⟨rfl, rfl⟩, trivial⟩ | exact ⟨⟨rfl, rfl⟩, ⟨rfl, rfl⟩, ⟨rfl, rfl⟩, ⟨rfl, rfl⟩, ⟨rfl, rfl⟩, ⟨rfl, rfl⟩, ⟨rfl, rfl⟩, ⟨rfl, rfl⟩, trivial⟩)) (by (first | exact trivial | exact ⟨⟨rfl, rfl⟩, trivial⟩ | exact ⟨⟨rfl, rfl⟩, ⟨rfl, rfl⟩, trivial⟩ | exact ⟨⟨rfl, rfl⟩, ⟨rfl, rfl⟩, ⟨rfl, rfl⟩, trivial⟩ | exact ⟨⟨rfl, rfl⟩, ⟨rfl, rfl⟩, ⟨rfl, rfl⟩, ⟨rfl, rfl⟩, trivial⟩ | exact ⟨⟨rfl, rfl⟩, ⟨rfl, rfl⟩, ⟨rfl, rfl⟩, ⟨rfl, rfl⟩, ⟨rfl, rfl⟩, trivial⟩ | exact ⟨⟨rfl, rfl⟩, ⟨rfl, rfl⟩, ⟨rfl, rfl⟩, ⟨rfl, rfl⟩, ⟨rfl, rfl⟩, ⟨rfl, rfl⟩, trivial⟩ | exact ⟨⟨rfl, rfl⟩, ⟨rfl, rfl⟩, ⟨rfl, rfl⟩, ⟨rfl, rfl⟩, ⟨rfl, rfl⟩, ⟨rfl, rfl⟩, ⟨rfl, rfl⟩, trivial⟩ | exact ⟨⟨rfl, rfl⟩, ⟨rfl, rfl⟩, ⟨rfl, rfl⟩, ⟨rfl, rfl⟩, ⟨rfl, rfl⟩, ⟨rfl, rfl⟩, ⟨rfl, rfl⟩, ⟨rfl, rfl⟩, trivial⟩)) rfl (by first | exact .inl rfl | exact .inr (fun _ _ => rfl)) ?_) | refine PWops.idxZ1 rfl rfl rfl rfl rfl rfl rfl rfl (by (first | omega | (dsimp only ; omega))) ?_ | refine PWops.idxZ rfl rfl rfl rfl rfl rfl rfl rfl (by (first | omega | (dsimp only ; omega))) ?_ | refine PWops.ld rfl rfl rfl rfl rfl rfl rfl rfl rfl ?_ | refine PWops.slcL rfl rfl rfl rfl rfl rfl rfl rfl (by (first | omega | (dsimp only ; omega))) ?_ | refine PWops.slcH rfl rfl rfl rfl rfl rfl rfl rfl (by (first | omega | (dsimp only ; omega))) ?_ | refine PWops.slcRL rfl rfl rfl rfl rfl rfl rfl rfl (by intro; rfl) (by (first | omega | (dsimp only ; omega))) ?_ | refine PWops.slcRH rfl rfl rfl rfl rfl rfl rfl rfl (by intro; rfl) (by (first | omega | (dsimp only ; omega))) ?_ | refine PWops.slcM rfl rfl rfl rfl rfl rfl rfl rfl rfl (by (first | omega | (dsimp only ; omega))) ?_ | refine PWops.ldM rfl rfl rfl rfl rfl rfl rfl (by (first | omega | (dsimp only ; omega))) rfl ?_ | refine PWops.ldR rfl rfl rfl rfl rfl rfl rfl (by (first | exact secL_len | exact dcellL_len | exact putL_len | (intro; rfl))) (by (first | omega | (dsimp only ; omega))) rfl rfl ?_ | refine PWops.ldRA rfl rfl rfl rfl rfl rfl (by intro; rfl) (by (first | omega | (dsimp only ; omega))) rfl ?_ | refine PWops.slcP rfl rfl rfl rfl rfl rfl rfl rfl rfl (by decide) ?_ | refine PWops.idxE1 rfl rfl rfl rfl rfl rfl rfl rfl (by (first | omega | (dsimp only ; omega))) ?_ | refine PWops.ldG rfl rfl rfl rfl rfl rfl (by (first | rfl | exact secL_len _ | exact dcellL_len _ | exact putL_len _ | exact len_map (by assumption) | exact len_map rfl)) (by (first | rfl | exact secL_bare _ | exact dcellL_bare _ | exact putL_bare _ | exact bare_map (fun _ => rfl) _)) ?_ | refine PWops.ldMB rfl rfl rfl rfl rfl rfl rfl rfl (by (first | omega | (dsimp only ; omega))) rfl rfl ?_ | refine PWops.stMB rfl rfl rfl rfl rfl rfl rfl rfl rfl rfl (by (first | omega | (dsimp only ; omega))) ?_ | refine PWops.idxV rfl rfl rfl rfl rfl rfl rfl rfl (by (first | omega | (dsimp only ; omega))) rfl ?_)); exact hHold.out) : p := h ⟨k⟩
theorem hok0 {p : Prop} (h : p := by (refine ⟨by (repeat (first | exact li_nil | exact lb_nil | refine lb_cons ?_ ?_ | refine li_cons ?_ ?_ | exact dB_lowI (by first | simp [ResIds, dG, dMs, jG] | simp [ResIds, dG, dMs, crG, crM] | simp [ResIds, dG, dMs]) (by first | simp [ResIds, dG, dMs, jG] | simp [ResIds, dG, dMs, crG, crM] | simp [ResIds, dG, dMs]) _ | exact li_low (dC_low _) | exact LowI.ptr _ _ (by first | simp [ResIds, dG, dMs, jG] | simp [ResIds, dG, dMs, crG, crM] | simp [ResIds, dG, dMs]) | exact LowI.mref _ (by first | simp [ResIds, dG, dMs, jG] | simp [ResIds, dG, dMs, crG, crM] | simp [ResIds, dG, dMs]) | exact LowI.msl _ _ _ _ (by first | simp [ResIds, dG, dMs, jG] | simp [ResIds, dG, dMs, crG, crM] | simp [ResIds, dG, dMs]) | exact LowI.val _ | exact LowI.nilsl | exact Low.lowI (low_pputs _) | exact Low.lowI (psec_low _) | exact li_low (secL_low _) | exact li_low (by assumption) | refine LowI.agg _ ?_ | refine LowI.fn _ _ ?_ | refine LowI.tup _ ?_ | refine LowI.sl _ _ _ _ ?_)), by (repeat (first | exact li_nil | exact lb_nil | refine lb_cons ?_ ?_ | refine li_cons ?_ ?_ | exact dB_lowI (by first | simp [ResIds, dG, dMs, jG] | simp [ResIds, dG, dMs, crG, crM] | simp [ResIds, dG, dMs]) (by first | simp [ResIds, dG, dMs, jG] | simp [ResIds, dG, dMs, crG, crM] | simp [ResIds, dG, dMs]) _ | exact li_low (dC_low _) | exact LowI.ptr _ _ (by first | simp [ResIds, dG, dMs, jG] | simp [ResIds, dG, dMs, crG, crM] | simp [ResIds, dG, dMs]) | exact LowI.mref _ (by first | simp [ResIds, dG, dMs, jG] | simp [ResIds, dG, dMs, crG, crM] | simp [ResIds, dG, dMs]) | exact LowI.msl _ _ _ _ (by first | simp [ResIds, dG, dMs, jG] | simp [ResIds, dG, dMs, crG, crM] | simp [ResIds, dG, dMs]) | exact LowI.val _ | exact LowI.nilsl | exact Low.lowI (low_pputs _) | exact Low.lowI (psec_low _) | exact li_low (secL_low _) | exact li_low (by assumption) | refine LowI.agg _ ?_ | refine LowI.fn _ _ ?_ | refine LowI.tup _ ?_ | refine LowI.sl _ _ _ _ ?_)), by first | exact lm_nil | exact lm_cons (dM_low _) lm_nil, ?_, by (repeat (first | exact li_nil | exact lb_nil | refine lb_cons ?_ ?_ | refine li_cons ?_ ?_ | exact dB_lowI (by first | simp [ResIds, dG, dMs, jG] | simp [ResIds, dG, dMs, crG, crM] | simp [ResIds, dG, dMs]) (by first | simp [ResIds, dG, dMs, jG] | simp [ResIds, dG, dMs, crG, crM] | simp [ResIds, dG, dMs]) _ | exact li_low (dC_low _) | exact LowI.ptr _ _ (by first | simp [ResIds, dG, dMs, jG] | simp [ResIds, dG, dMs, crG, crM] | simp [ResIds, dG, dMs]) | exact LowI.mref _ (by first | simp [ResIds, dG, dMs, jG] | simp [ResIds, dG, dMs, crG, crM] | simp [ResIds, dG, dMs]) | exact LowI.msl _ _ _ _ (by first | simp [ResIds, dG, dMs, jG] | simp [ResIds, dG, dMs, crG, crM] | simp [ResIds, dG, dMs]) | exact LowI.val _ | exact LowI.nilsl | exact Low.lowI (low_pputs _) | exact Low.lowI (psec_low _) | exact li_low (secL_low _) | exact li_low (by assumption) | refine LowI.agg _ ?_ | refine LowI.fn _ _ ?_ | refine LowI.tup _ ?_ | refine LowI.sl _ _ _ _ ?_)), by first | exact lm_nil | exact lm_cons (dM_low _) lm_nil, by simp [jG, dG], by simp [dMs]⟩ ; (repeat (first | exact li_nil | exact lb_nil | refine lb_cons ?_ ?_ | refine li_cons ?_ ?_ | exact dB_lowI (by first | simp [ResIds, dG, dMs, jG] | simp [ResIds, dG, dMs, crG, crM] | simp [ResIds, dG, dMs]) (by first | simp [ResIds, dG, dMs, jG] | simp [ResIds, dG, dMs, crG, crM] | simp [ResIds, dG, dMs]) _ | exact li_low (dC_low _) | exact LowI.ptr _ _ (by first | simp [ResIds, dG, dMs, jG] | simp [ResIds, dG, dMs, crG, crM] | simp [ResIds, dG, dMs]) | exact LowI.mref _ (by first | simp [ResIds, dG, dMs, jG] | simp [ResIds, dG, dMs, crG, crM] | simp [ResIds, dG, dMs]) | exact LowI.msl _ _ _ _ (by first | simp [ResIds, dG, dMs, jG] | simp [ResIds, dG, dMs, crG, crM] | simp [ResIds, dG, dMs]) | exact LowI.val _ | exact LowI.nilsl | exact Low.lowI (low_pputs _) | exact Low.lowI (psec_low _) | exact li_low (secL_low _) | exact li_low (by assumption) | refine LowI.agg _ ?_ | refine LowI.fn _ _ ?_ | refine LowI.tup _ ?_ | refine LowI.sl _ _ _ _ ?_)))) : p := h
theorem ren0 {p : Prop} (h : p := by (repeat (first | exact RenL.nil | exact RenB.nil | exact RenMs.nil | exact RenMs.cons _ _ _ _ _ (RenM.low (dM_low _)) RenMs.nil | refine RenB.cons _ _ _ _ _ ?_ ?_ | exact RenL.low (dC_low _) | refine RenL.cons ?_ ?_ | exact Ren.ptr _ _ (by first | simp [ResIds, dG, dMs, jG] | simp [ResIds, dG, dMs, crG, crM] | simp [ResIds, dG, dMs]) | exact Ren.mref _ (by first | simp [ResIds, dG, dMs, jG] | simp [ResIds, dG, dMs, crG, crM] | simp [ResIds, dG, dMs]) | exact Ren.msl _ _ _ _ (by first | simp [ResIds, dG, dMs, jG] | simp [ResIds, dG, dMs, crG, crM] | simp [ResIds, dG, dMs]) | exact Ren.low _ (Low.val _) | exact Ren.low _ (low_pputs _) | exact Ren.low _ (psec_low _) | exact RenL.low (by assumption) | refine ren_agg ?_ | refine ren_fn ?_ | refine ren_sl ?_))) : p := h
theorem sb4 {p : Prop} (h : p := by (refine Sub.same ?_ ; (repeat (first | exact SubR.bot | ((with_reducible refine SubR.isp ?_) ; refine SubR.put ?_ (.inl (stepsP_ren rfl rfl rfl rfl rfl rfl))) | ((with_reducible refine SubR.isp ?_) ; refine SubR.put ?_ (by (first | exact .inl (.ptr _ _ rfl) | exact .inl (.msl _ _ _ _ rfl) | exact .inl (.mref _ rfl) | exact .inl (.low _ (by (first | exact low_mapI | exact low_mapS | exact low_mapB | assumption | exact hlow _ | exact hlow _ _ | exact Low.agg _ (low_map (fun _ => Low.val _) _) | (simp [low_pu32, low_pu64, low_val, low_nilsl, low_sl, low_ep, low_agg, low_tup, low_fn, low_pint, low_pstr, low_pbool, low_pints, low_pstrs, low_pbyte, low_pbytes, hlow] ; done) | (simp [low_pu32, low_pu64, low_val, low_nilsl, low_sl, low_ep, low_agg, low_tup, low_fn, low_pint, low_pstr, low_pbool, low_pints, low_pstrs, low_pbyte, low_pbytes] ; done) | simp [low_pu32, low_pu64, low_val, low_nilsl, low_sl, low_ep, low_agg, low_tup, low_fn, low_pint, low_pstr, low_pbool, low_pints, low_pstrs, low_pbyte, low_pbytes, low_pattrs, low_pdefs, low_pschema, low_pentry]))) | exact .inr (.inl (.low _ (by (first | exact low_mapI | exact low_mapS | exact low_mapB | assumption | exact hlow _ | exact hlow _ _ | exact Low.agg _ (low_map (fun _ => Low.val _) _) | (simp [low_pu32, low_pu64, low_val, low_nilsl, low_sl, low_ep, low_agg, low_tup, low_fn, low_pint, low_pstr, low_pbool, low_pints, low_pstrs, low_pbyte, low_pbytes, hlow] ; done) | (simp [low_pu32, low_pu64, low_val, low_nilsl, low_sl, low_ep, low_agg, low_tup, low_fn, low_pint, low_pstr, low_pbool, low_pints, low_pstrs, low_pbyte, low_pbytes] ; done) | simp [low_pu32, low_pu64, low_val, low_nilsl, low_sl, low_ep, low_agg, low_tup, low_fn, low_pint, low_pstr, low_pbool, low_pints, low_pstrs, low_pbyte, low_pbytes, low_pattrs, low_pdefs, low_pschema, low_pentry])))) | exact .inr (.inr ⟨_, _, rfl, rfl⟩)))) | ((with_reducible refine SubR.isb ?_) ; refine SubR.setb ?_ rfl rfl (by (first | exact RenQL.low (by first | assumption | exact hlow _ | exact hlow _ _ | exact low_map (fun _ => Low.val _) _) | exact RenQL.lowE (by assumption) (low_map (fun _ => Low.val _) _) | ((repeat (refine RenQL.cons (by (first | exact .inl (.ptr _ _ rfl) | exact .inl (.msl _ _ _ _ rfl) | exact .inl (.mref _ rfl) | exact .inl (.low _ (by (first | exact low_mapI | exact low_mapS | exact low_mapB | assumption | exact hlow _ | exact hlow _ _ | exact Low.agg _ (low_map (fun _ => Low.val _) _) | (simp [low_pu32, low_pu64, low_val, low_nilsl, low_sl, low_ep, low_agg, low_tup, low_fn, low_pint, low_pstr, low_pbool, low_pints, low_pstrs, low_pbyte, low_pbytes, hlow] ; done) | (simp [low_pu32, low_pu64, low_val, low_nilsl, low_sl, low_ep, low_agg, low_tup, low_fn, low_pint, low_pstr, low_pbool, low_pints, low_pstrs, low_pbyte, low_pbytes] ; done) | simp [low_pu32, low_pu64, low_val, low_nilsl, low_sl, low_ep, low_agg, low_tup, low_fn, low_pint, low_pstr, low_pbool, low_pints, low_pstrs, low_pbyte, low_pbytes, low_pattrs, low_pdefs, low_pschema, low_pentry]))) | exact .inr (.inl (.low _ (by (first | exact low_mapI | exact low_mapS | exact low_mapB | assumption | exact hlow _ | exact hlow _ _ | exact Low.agg _ (low_map (fun _ => Low.val _) _) | (simp [low_pu32, low_pu64, low_val, low_nilsl, low_sl, low_ep, low_agg, low_tup, low_fn, low_pint, low_pstr, low_pbool, low_pints, low_pstrs, low_pbyte, low_pbytes, hlow] ; done) | (simp [low_pu32, low_pu64, low_val, low_nilsl, low_sl, low_ep, low_agg, low_tup, low_fn, low_pint, low_pstr, low_pbool, low_pints, low_pstrs, low_pbyte, low_pbytes] ; done) | simp [low_pu32, low_pu64, low_val, low_nilsl, low_sl, low_ep, low_agg, low_tup, low_fn, low_pint, low_pstr, low_pbool, low_pints, low_pstrs, low_pbyte, low_pbytes, low_pattrs, low_pdefs, low_pschema, low_pentry])))) | exact .inr (.inr ⟨_, _, rfl, rfl⟩))) ?_)) ; exact RenQL.nil)))) | ((with_reducible refine SubR.ism ?_) ; refine SubR.setm ?_ rfl rfl (by (first | exact ⟨rfl, rfl, rfl, rfl, rfl⟩ | exact RenM.low (by first | assumption | exact hlowm _ | exact hlowm _ _)))))))) : p := h
theorem sb2 {p : Prop} (h : p := by (refine Sub.same ?_ ; (repeat (first | exact SubR.bot | ((with_reducible refine SubR.isp ?_) ; refine SubR.put ?_ (.inl (steps2_ren (ρ := fun i => i) rfl rfl rfl rfl))) | ((with_reducible refine SubR.isp ?_) ; refine SubR.put ?_ (by (first | exact .inl (.ptr _ _ rfl) | exact .inl (.msl _ _ _ _ rfl) | exact .inl (.mref _ rfl) | exact .inl (.low _ (by (first | exact low_mapI | exact low_mapS | exact low_mapB | assumption | exact hlow _ | exact hlow _ _ | exact Low.agg _ (low_map (fun _ => Low.val _) _) | (simp [low_pu32, low_pu64, low_val, low_nilsl, low_sl, low_ep, low_agg, low_tup, low_fn, low_pint, low_pstr, low_pbool, low_pints, low_pstrs, low_pbyte, low_pbytes, hlow] ; done) | (simp [low_pu32, low_pu64, low_val, low_nilsl, low_sl, low_ep, low_agg, low_tup, low_fn, low_pint, low_pstr, low_pbool, low_pints, low_pstrs, low_pbyte, low_pbytes] ; done) | simp [low_pu32, low_pu64, low_val, low_nilsl, low_sl, low_ep, low_agg, low_tup, low_fn, low_pint, low_pstr, low_pbool, low_pints, low_pstrs, low_pbyte, low_pbytes, low_pattrs, low_pdefs, low_pschema, low_pentry]))) | exact .inr (.inl (.low _ (by (first | exact low_mapI | exact low_mapS | exact low_mapB | assumption | exact hlow _ | exact hlow _ _ | exact Low.agg _ (low_map (fun _ => Low.val _) _) | (simp [low_pu32, low_pu64, low_val, low_nilsl, low_sl, low_ep, low_agg, low_tup, low_fn, low_pint, low_pstr, low_pbool, low_pints, low_pstrs, low_pbyte, low_pbytes, hlow] ; done) | (simp [low_pu32, low_pu64, low_val, low_nilsl, low_sl, low_ep, low_agg, low_tup, low_fn, low_pint, low_pstr, low_pbool, low_pints, low_pstrs, low_pbyte, low_pbytes] ; done) | simp [low_pu32, low_pu64, low_val, low_nilsl, low_sl, low_ep, low_agg, low_tup, low_fn, low_pint, low_pstr, low_pbool, low_pints, low_pstrs, low_pbyte, low_pbytes, low_pattrs, low_pdefs, low_pschema, low_pentry])))) | exact .inr (.inr ⟨_, _, rfl, rfl⟩)))) | ((with_reducible refine SubR.isb ?_) ; refine SubR.setb ?_ rfl rfl (by (first | exact RenQL.low (by first | assumption | exact hlow _ | exact hlow _ _ | exact low_map (fun _ => Low.val _) _) | exact RenQL.lowE (by assumption) (low_map (fun _ => Low.val _) _) | ((repeat (refine RenQL.cons (by (first | exact .inl (.ptr _ _ rfl) | exact .inl (.msl _ _ _ _ rfl) | exact .inl (.mref _ rfl) | exact .inl (.low _ (by (first | exact low_mapI | exact low_mapS | exact low_mapB | assumption | exact hlow _ | exact hlow _ _ | exact Low.agg _ (low_map (fun _ => Low.val _) _) | (simp [low_pu32, low_pu64, low_val, low_nilsl, low_sl, low_ep, low_agg, low_tup, low_fn, low_pint, low_pstr, low_pbool, low_pints, low_pstrs, low_pbyte, low_pbytes, hlow] ; done) | (simp [low_pu32, low_pu64, low_val, low_nilsl, low_sl, low_ep, low_agg, low_tup, low_fn, low_pint, low_pstr, low_pbool, low_pints, low_pstrs, low_pbyte, low_pbytes] ; done) | simp [low_pu32, low_pu64, low_val, low_nilsl, low_sl, low_ep, low_agg, low_tup, low_fn, low_pint, low_pstr, low_pbool, low_pints, low_pstrs, low_pbyte, low_pbytes, low_pattrs, low_pdefs, low_pschema, low_pentry]))) | exact .inr (.inl (.low _ (by (first | exact low_mapI | exact low_mapS | exact low_mapB | assumption | exact hlow _ | exact hlow _ _ | exact Low.agg _ (low_map (fun _ => Low.val _) _) | (simp [low_pu32, low_pu64, low_val, low_nilsl, low_sl, low_ep, low_agg, low_tup, low_fn, low_pint, low_pstr, low_pbool, low_pints, low_pstrs, low_pbyte, low_pbytes, hlow] ; done) | (simp [low_pu32, low_pu64, low_val, low_nilsl, low_sl, low_ep, low_agg, low_tup, low_fn, low_pint, low_pstr, low_pbool, low_pints, low_pstrs, low_pbyte, low_pbytes] ; done) | simp [low_pu32, low_pu64, low_val, low_nilsl, low_sl, low_ep, low_agg, low_tup, low_fn, low_pint, low_pstr, low_pbool, low_pints, low_pstrs, low_pbyte, low_pbytes, low_pattrs, low_pdefs, low_pschema, low_pentry])))) | exact .inr (.inr ⟨_, _, rfl, rfl⟩))) ?_)) ; exact RenQL.nil)))) | ((with_reducible refine SubR.ism ?_) ; refine SubR.setm ?_ rfl rfl (by (first | exact ⟨rfl, rfl, rfl, rfl, rfl⟩ | exact RenM.low (by first | assumption | exact hlowm _ | exact hlowm _ _)))))))) : p := h
theorem sbr0 {p : Prop} (h : p := by (repeat (first | exact SubR.bot | ((with_reducible refine SubR.isp ?_) ; refine SubR.put ?_ (by (first | exact .inl (.ptr _ _ rfl) | exact .inl (.msl _ _ _ _ rfl) | exact .inl (.mref _ rfl) | exact .inl (.low _ (by (first | exact low_mapI | exact low_mapS | exact low_mapB | assumption | exact hlow _ | exact hlow _ _ | exact Low.agg _ (low_map (fun _ => Low.val _) _) | (simp [low_pu32, low_pu64, low_val, low_nilsl, low_sl, low_ep, low_agg, low_tup, low_fn, low_pint, low_pstr, low_pbool, low_pints, low_pstrs, low_pbyte, low_pbytes, hlow] ; done) | (simp [low_pu32, low_pu64, low_val, low_nilsl, low_sl, low_ep, low_agg, low_tup, low_fn, low_pint, low_pstr, low_pbool, low_pints, low_pstrs, low_pbyte, low_pbytes] ; done) | simp [low_pu32, low_pu64, low_val, low_nilsl, low_sl, low_ep, low_agg, low_tup, low_fn, low_pint, low_pstr, low_pbool, low_pints, low_pstrs, low_pbyte, low_pbytes, low_pattrs, low_pdefs, low_pschema, low_pentry]))) | exact .inr (.inl (.low _ (by (first | exact low_mapI | exact low_mapS | exact low_mapB | assumption | exact hlow _ | exact hlow _ _ | exact Low.agg _ (low_map (fun _ => Low.val _) _) | (simp [low_pu32, low_pu64, low_val, low_nilsl, low_sl, low_ep, low_agg, low_tup, low_fn, low_pint, low_pstr, low_pbool, low_pints, low_pstrs, low_pbyte, low_pbytes, hlow] ; done) | (simp [low_pu32, low_pu64, low_val, low_nilsl, low_sl, low_ep, low_agg, low_tup, low_fn, low_pint, low_pstr, low_pbool, low_pints, low_pstrs, low_pbyte, low_pbytes] ; done) | simp [low_pu32, low_pu64, low_val, low_nilsl, low_sl, low_ep, low_agg, low_tup, low_fn, low_pint, low_pstr, low_pbool, low_pints, low_pstrs, low_pbyte, low_pbytes, low_pattrs, low_pdefs, low_pschema, low_pentry])))) | exact .inr (.inr ⟨_, _, rfl, rfl⟩)))) | ((with_reducible refine SubR.isb ?_) ; refine SubR.setb ?_ rfl rfl (by (first | exact RenQL.low (by first | assumption | exact hlow _ | exact hlow _ _ | exact low_map (fun _ => Low.val _) _) | exact RenQL.lowE (by assumption) (low_map (fun _ => Low.val _) _) | ((repeat (refine RenQL.cons (by (first | exact .inl (.ptr _ _ rfl) | exact .inl (.msl _ _ _ _ rfl) | exact .inl (.mref _ rfl) | exact .inl (.low _ (by (first | exact low_mapI | exact low_mapS | exact low_mapB | assumption | exact hlow _ | exact hlow _ _ | exact Low.agg _ (low_map (fun _ => Low.val _) _) | (simp [low_pu32, low_pu64, low_val, low_nilsl, low_sl, low_ep, low_agg, low_tup, low_fn, low_pint, low_pstr, low_pbool, low_pints, low_pstrs, low_pbyte, low_pbytes, hlow] ; done) | (simp [low_pu32, low_pu64, low_val, low_nilsl, low_sl, low_ep, low_agg, low_tup, low_fn, low_pint, low_pstr, low_pbool, low_pints, low_pstrs, low_pbyte, low_pbytes] ; done) | simp [low_pu32, low_pu64, low_val, low_nilsl, low_sl, low_ep, low_agg, low_tup, low_fn, low_pint, low_pstr, low_pbool, low_pints, low_pstrs, low_pbyte, low_pbytes, low_pattrs, low_pdefs, low_pschema, low_pentry]))) | exact .inr (.inl (.low _ (by (first | exact low_mapI | exact low_mapS | exact low_mapB | assumption | exact hlow _ | exact hlow _ _ | exact Low.agg _ (low_map (fun _ => Low.val _) _) | (simp [low_pu32, low_pu64, low_val, low_nilsl, low_sl, low_ep, low_agg, low_tup, low_fn, low_pint, low_pstr, low_pbool, low_pints, low_pstrs, low_pbyte, low_pbytes, hlow] ; done) | (simp [low_pu32, low_pu64, low_val, low_nilsl, low_sl, low_ep, low_agg, low_tup, low_fn, low_pint, low_pstr, low_pbool, low_pints, low_pstrs, low_pbyte, low_pbytes] ; done) | simp [low_pu32, low_pu64, low_val, low_nilsl, low_sl, low_ep, low_agg, low_tup, low_fn, low_pint, low_pstr, low_pbool, low_pints, low_pstrs, low_pbyte, low_pbytes, low_pattrs, low_pdefs, low_pschema, low_pentry])))) | exact .inr (.inr ⟨_, _, rfl, rfl⟩))) ?_)) ; exact RenQL.nil)))) | ((with_reducible refine SubR.ism ?_) ; refine SubR.setm ?_ rfl rfl (by (first | exact ⟨rfl, rfl, rfl, rfl, rfl⟩ | exact RenM.low (by first | assumption | exact hlowm _ | exact hlowm _ _))))))) : p := h

/-- What is left to be proved. -/
structure Hold (q : Prop) : Prop where
  out : q
theorem wk {p q : Prop} (k : q) (h : Hold q → p := by intro hHold; (repeat (first | (with_reducible first | refine PW.seq ?_ | refine PW.block ?_ | refine PW.skip ?_ | refine PW.exit ?_ | refine PW.ret ?_ | refine thenP ?_ | refine thenP_exit ?_ | refine thenP_ret ?_ | refine blockP ?_ | refine blockP_exit ?_ | refine blockP_ret ?_ | refine loopP_exit ?_ | refine loopP_ret ?_ | refine loopU_exit ?_ | refine loopU_ret ?_) | ((with_reducible refine PWops.idd ?_) ; first | (first | refine PWops.cvI rfl rfl rfl rfl (by (first | omega | (dsimp only ; omega))) (by (first | omega | (dsimp only ; omega))) rfl ?_ | refine PWops.stepA rfl ?_ | refine PWops.doneI rfl ?_ | refine PWops.boolK true rfl rfl rfl rfl (by (first | rfl | assumption | (simp only [decide_eq_true_eq, decide_eq_false_iff_not, bne_iff_ne, beq_iff_eq, beq_eq_false_iff_ne, bne_eq_false_iff_eq, ne_eq] ; omega))) rfl ?_ | refine PWops.boolK false rfl rfl rfl rfl (by (first | rfl | assumption | (simp only [decide_eq_true_eq, decide_eq_false_iff_not, bne_iff_ne, beq_iff_eq, beq_eq_false_iff_ne, bne_eq_false_iff_eq, ne_eq] ; omega))) rfl ?_ | refine PWops.fitsK rfl rfl rfl rfl (by (first | omega | (dsimp only ; omega))) (by (first | omega | (dsimp only ; omega))) rfl ?_ | refine PWops.remK rfl rfl rfl rfl (by (first | omega | (dsimp only ; omega))) rfl ?_ | refine PWops.quoK rfl rfl rfl rfl (by (first | omega | (dsimp only ; omega))) rfl ?_ | refine PWops.app rfl rfl rfl rfl rfl rfl rfl rfl (by (first | omega | (dsimp only ; omega))) (by (first | omega | (dsimp only ; omega))) (by first | rfl | exact secL_one _ | exact putL_one _ | exact one_pint _ | exact one_pstr _ | exact one_pbyte _ | exact one_pattrs _) ?_ | refine PWops.app0 rfl rfl rfl rfl rfl rfl rfl rfl (by (first | omega | (dsimp only ; omega))) (by (first | omega | (dsimp only ; omega))) (by first | rfl | exact secL_one _ | exact putL_one _ | exact one_pint _ | exact one_pstr _ | exact one_pbyte _ | exact one_pattrs _) ?_ | refine PWops.idx1 rfl rfl rfl rfl rfl rfl rfl rfl (by (first | omega | (dsimp only ; omega))) ?_ | refine PWops.idx rfl rfl rfl rfl rfl rfl rfl rfl (by (first | omega | (dsimp only ; omega))) ?_ | refine PWops.ld rfl rfl rfl rfl rfl rfl rfl (by assumption) rfl ?_ | refine PWops.ldA rfl rfl rfl rfl rfl rfl (by (first | omega | (dsimp only ; omega))) (by assumption) ?_ | refine PWops.str rfl rfl rfl rfl rfl rfl rfl rfl rfl rfl rfl ?_) | (first | refine PWops.arU rfl rfl rfl rfl rfl rfl ?_ | refine PWops.boxA rfl rfl rfl rfl rfl (by (first | rfl | exact secL_one _ | exact dcellL_one _ | exact putL_one _ | exact one_map (fun _ => rfl) _)) (by (first | rfl | exact secL_bare _ | exact dcellL_bare _ | exact putL_bare _ | exact bare_map (fun _ => rfl) _)) ?_ | refine PWops.litA rfl rfl rfl rfl rfl rfl rfl (by (first | rfl | exact secL_len _ | exact dcellL_len _ | exact putL_len _ | exact len_map (by assumption) | exact len_map rfl)) rfl rfl rfl (by (first | rfl | exact secL_one _ | exact dcellL_one _ | exact putL_one _ | exact one_map (fun _ => rfl) _)) (by (first | rfl | exact secL_bare _ | exact dcellL_bare _ | exact putL_bare _ | exact bare_map (fun _ => rfl) _)) ?_ | refine PWops.shlK rfl rfl rfl rfl rfl rfl (by (first | omega | (dsimp only ; omega) | decide)) ?_ | refine PWops.shrK rfl rfl rfl rfl rfl rfl (by (first | omega | (dsimp only ; omega) | decide)) ?_ | refine PWops.ldBC rfl rfl rfl rfl rfl rfl rfl rfl (by (first | exact secL_len | exact dcellL_len | exact putL_len | (intro; rfl))) (by (first | omega | (dsimp only ; omega))) (by (first | rfl | exact dcellL_64 _)) rfl ?_ | refine PWops.ldRB rfl rfl rfl rfl rfl rfl (by (first | exact secL_len | exact dcellL_len | exact putL_len | (intro; rfl))) (by (first | omega | (dsimp only ; omega))) (by (first | exact secL_bare | exact dcellL_bare | exact putL_bare | (intro; rfl))) ?_ | refine PWops.ldSec rfl rfl rfl rfl rfl rfl rfl (by first | with_reducible rfl | with_reducible exact dC_flat _) (by rfl) (by (first | omega | (dsimp only ; omega))) ?_ | refine PWops.ldBR rfl rfl rfl rfl rfl rfl rfl (by (first | exact secL_len | exact dcellL_len | exact putL_len | (intro; rfl))) (by (first | omega | (dsimp only ; omega))) (by (first | exact secL_bare _ | exact dcellL_bare _ | exact putL_bare _ | rfl)) ?_ | refine PWops.lkp rfl rfl rfl rfl rfl rfl rfl rfl rfl rfl rfl (by assumption) ?_ | refine PWops.ldAll rfl rfl rfl rfl rfl rfl rfl (by (first | rfl | exact secL_len _ | exact dcellL_len _ | exact putL_len _ | exact len_map (by assumption) | exact len_map rfl)) (by (first | rfl | exact secL_bare _ | exact dcellL_bare _ | exact putL_bare _ | exact bare_map (fun _ => rfl) _)) ?_ | refine PWops.stAll rfl rfl rfl rfl rfl rfl rfl rfl rfl (by (first | rfl | exact secL_len _ | exact dcellL_len _ | exact putL_len _ | exact len_map (by assumption) | exact len_map rfl)) (by (first | rfl | exact secL_len _ | exact dcellL_len _ | exact putL_len _ | exact len_map (by assumption) | exact len_map rfl)) (by (first | rfl | exact secL_one _ | exact dcellL_one _ | exact putL_one _ | exact one_map (fun _ => rfl) _)) (by (first | rfl | exact secL_bare _ | exact dcellL_bare _ | exact putL_bare _ | exact bare_map (fun _ => rfl) _)) ?_ | refine PWops.idxM rfl rfl rfl rfl rfl rfl rfl rfl (by (first | omega | (dsimp only ; omega))) ?_ | refine PWops.idxP1 rfl rfl rfl rfl rfl rfl rfl rfl (by (first | omega | (dsimp only ; omega))) ?_ | refine PWops.idxP rfl rfl rfl rfl rfl rfl rfl rfl (by (first | omega | (dsimp only ; omega))) ?_ | (refine PWops.call rfl rfl rfl (by assumption) ?_) | (refine PWops.callR rfl rfl (by assumption) (by (first | exact trivial | exact ⟨⟨rfl, rfl⟩, trivial⟩ | exact ⟨⟨rfl, rfl⟩, ⟨rfl, rfl⟩, trivial⟩ | exact ⟨⟨rfl, rfl⟩, ⟨rfl, rfl⟩, ⟨rfl, rfl⟩, trivial⟩ | exact ⟨⟨rfl, rfl⟩, ⟨rfl, rfl⟩, ⟨rfl, rfl⟩, ⟨rfl, rfl⟩, trivial⟩ | exact ⟨⟨rfl, rfl⟩, ⟨rfl, rfl⟩, ⟨rfl, rfl⟩, ⟨rfl, rfl⟩, ⟨rfl, rfl⟩, trivial⟩ | exact ⟨⟨rfl, rfl⟩, ⟨rfl, rfl⟩, ⟨rfl, rfl⟩, ⟨rfl, rfl⟩, ⟨rfl, rfl⟩, ⟨rfl, rfl⟩, trivial⟩ | exact ⟨⟨rfl, rfl⟩, ⟨rfl, rfl⟩, ⟨rfl, rfl⟩, ⟨rfl, rfl⟩, ⟨rfl, rfl⟩, ⟨rfl, rfl⟩, ⟨rfl, rfl⟩, trivial⟩ | exact ⟨⟨rfl, rfl⟩, ⟨rfl, rfl⟩, ⟨rfl, rfl⟩, ⟨rfl, rfl⟩, ⟨rfl, rfl⟩, ⟨rfl, rfl⟩, ⟨rfl, rfl⟩, ⟨rfl, rfl⟩, trivial⟩)) (by (first | exact trivial | exact ⟨⟨rfl, rfl⟩, trivial⟩ | exact ⟨⟨rfl, rfl⟩, ⟨rfl, rfl⟩, trivial⟩ | exact ⟨⟨rfl, rfl⟩, ⟨rfl, rfl⟩, ⟨rfl, rfl⟩, trivial⟩ | exact ⟨⟨rfl, rfl⟩, ⟨rfl, rfl⟩, ⟨rfl, rfl⟩, ⟨rfl, rfl⟩, trivial⟩ | exact ⟨⟨rfl, rfl⟩, ⟨rfl, rfl⟩, ⟨rfl, rfl⟩, ⟨rfl, rfl⟩, ⟨rfl, rfl⟩, trivial⟩ | exact ⟨⟨rfl, rfl⟩, ⟨rfl, rfl⟩, ⟨rfl, rfl⟩, ⟨rfl, rfl⟩, ⟨rfl, rfl⟩, ⟨rfl, rfl⟩, trivial⟩ | exact ⟨⟨rfl, rfl⟩, ⟨rfl, rfl⟩, ⟨rfl, rfl⟩, ⟨rfl, rfl⟩, ⟨rfl, rfl⟩, ⟨rfl, rfl⟩, ⟨rfl, rfl⟩, trivial⟩ | exact ⟨⟨rfl, rfl⟩, ⟨rfl, rfl⟩, ⟨rfl, rfl⟩, ⟨rfl, rfl⟩, ⟨rfl, rfl⟩, ⟨rfl, rfl⟩, ⟨rfl, rfl⟩, ⟨rfl, rfl⟩, trivial⟩)) rfl (by first | exact .inl rfl | exact .inr (fun _ _ => rfl)) ?_) | (refine PWops.callH rfl rfl (by assumption) (by (first | exact trivial | exact ⟨⟨rfl, rfl⟩, trivial⟩ | exact ⟨⟨rfl, rfl⟩, ⟨rfl, rfl⟩, trivial⟩ | exact ⟨⟨rfl, rfl⟩, ⟨rfl, rfl⟩, ⟨rfl, rfl⟩, trivial⟩ | exact ⟨⟨rfl, rfl⟩, ⟨rfl, rfl⟩, ⟨rfl, rfl⟩, ⟨rfl, rfl⟩, trivial⟩ | exact ⟨⟨rfl, rfl⟩, ⟨rfl, rfl⟩, ⟨rfl, rfl⟩, ⟨rfl, rfl⟩, ⟨rfl, rfl⟩, trivial⟩ | exact ⟨⟨rfl, rfl⟩, ⟨rfl, rfl⟩, ⟨rfl, rfl⟩, ⟨rfl, rfl⟩, ⟨rfl, rfl⟩, ⟨rfl, rfl⟩, trivial⟩ | exact ⟨⟨rfl, rfl⟩, ⟨rfl, rfl⟩, ⟨rfl, rfl⟩, ⟨rfl, rfl⟩, ⟨rfl, rfl⟩, ⟨rfl, rfl⟩, ⟨rfl, rfl⟩, trivial⟩ | exact ⟨⟨rfl, rfl⟩, ⟨rfl, rfl⟩, ⟨rfl, rfl⟩, ⟨rfl, rfl⟩, ⟨rfl, rfl⟩, ⟨rfl, rfl⟩, ⟨rfl, rfl⟩, ⟨rfl, rfl⟩, trivial⟩)) (by (first | exact trivial | exact ⟨⟨rfl, rfl⟩, trivial⟩ | exact ⟨⟨rfl, rfl⟩, ⟨rfl, rfl⟩, trivial⟩ | exact ⟨⟨rfl, rfl⟩, ⟨rfl, rfl⟩, ⟨rfl, rfl⟩, trivial⟩ | exact ⟨⟨rfl, rfl⟩, ⟨rfl, rfl⟩, ⟨rfl, rfl⟩, ⟨rfl, rfl⟩, trivial⟩ | exact ⟨⟨rfl, rfl⟩, ⟨rfl, rfl⟩, ⟨rfl, rfl⟩, ⟨rfl, rfl⟩, ⟨rfl, rfl⟩, trivial⟩ | exact ⟨⟨rfl, rfl⟩, ⟨rfl, rfl⟩, ⟨rfl, rfl⟩, ⟨rfl, rfl⟩, ⟨rfl, rfl⟩, ⟨rfl, rfl⟩, trivial⟩ | exact ⟨⟨rfl, rfl⟩, ⟨rfl, rfl⟩, ⟨rfl, rfl⟩, ⟨rfl, rfl⟩, ⟨rfl, rfl⟩, ⟨rfl, rfl⟩, ⟨rfl, rfl⟩, trivial⟩ | exact ⟨⟨rfl, rfl⟩, ⟨rfl, rfl⟩, ⟨rfl, rfl⟩, ⟨rfl, rfl⟩, ⟨rfl, rfl⟩, ⟨rfl, rfl⟩, ⟨rfl, rfl⟩, ⟨rfl, rfl⟩, trivial⟩)) rfl (by first | exact .inl rfl | exact .inr (fun _ _ => rfl)) ?_) | refine PWops.idxZ1 rfl rfl rfl rfl rfl rfl rfl rfl (by (first | omega | (dsimp only ; omega))) ?_ | refine PWops.idxZ rfl rfl rfl rfl rfl rfl rfl rfl (by (first | omega | (dsimp only ; omega))) ?_ | refine PWops.ld rfl rfl rfl rfl rfl rfl rfl rfl rfl ?_ | refine PWops.slcL rfl rfl rfl rfl rfl rfl rfl rfl (by (first | omega | (dsimp only ; omega))) ?_ | refine PWops.slcH rfl rfl rfl rfl rfl rfl rfl rfl (by (first | omega | (dsimp only ; omega))) ?_ | refine PWops.slcRL rfl rfl rfl rfl rfl rfl rfl rfl (by intro; rfl) (by (first | omega | (dsimp only ; omega))) ?_ | refine PWops.slcRH rfl rfl rfl rfl rfl rfl rfl rfl (by intro; rfl) (by (first | omega | (dsimp only ; omega))) ?_ | refine PWops.slcM rfl rfl rfl rfl rfl rfl rfl rfl rfl (by (first | omega | (dsimp only ; omega))) ?_ | refine PWops.ldM rfl rfl rfl rfl rfl rfl rfl (by (first | omega | (dsimp only ; omega))) rfl ?_ | refine PWops.ldR rfl rfl rfl rfl rfl rfl rfl (by (first | exact secL_len | exact dcellL_len | exact putL_len | (intro; rfl))) (by (first | omega | (dsimp only ; omega))) rfl rfl ?_ | refine PWops.ldRA rfl rfl rfl rfl rfl rfl (by intro; rfl) (by (first | omega | (dsimp only ; omega))) rfl ?_ | refine PWops.slcP rfl rfl rfl rfl rfl rfl rfl rfl rfl (by decide) ?_ | refine PWops.idxE1 rfl rfl rfl rfl rfl rfl rfl rfl (by (first | omega | (dsimp only ; omega))) ?_ | refine PWops.ldG rfl rfl rfl rfl rfl rfl (by (first | rfl | exact secL_len _ | exact dcellL_len _ | exact putL_len _ | exact len_map (by assumption) | exact len_map rfl)) (by (first | rfl | exact secL_bare _ | exact dcellL_bare _ | exact putL_bare _ | exact bare_map (fun _ => rfl) _)) ?_ | refine PWops.ldMB rfl rfl rfl rfl rfl rfl rfl rfl (by (first | omega | (dsimp only ; omega))) rfl rfl ?_ | refine PWops.stMB rfl rfl rfl rfl rfl rfl rfl rfl rfl rfl (by (first | omega | (dsimp only ; omega))) ?_ | refine PWops.idxV rfl rfl rfl rfl rfl rfl rfl rfl (by (first | omega | (dsimp only ; omega))) rfl ?_)) | (first | ((with_reducible refine PW.idd ?_) ; (first | refine PW.region typeTab_ok (by kernel_rfl) ?_ | refine PW.draw typeTab_ok (by kernel_rfl) (by kernel_rfl) (by kernel_rfl) ?_ | refine PW.condT rfl ?_ | refine PW.condF rfl ?_ | refine PW.condTe rfl (by assumption) ?_ | refine PW.condFe rfl (by assumption) ?_ | refine blockP_other (by decide) ?_)) | with_reducible refine blockP_other (by decide) ?_))); exact hHold.out) : p := h ⟨k⟩
theorem wg {p q : Prop} (k : q) (h : Hold q → p := by intro hHold; (repeat ((with_reducible refine PWops.idd ?_) ; first | (first | refine PWops.cvI rfl rfl rfl rfl (by (first | omega | (dsimp only ; omega))) (by (first | omega | (dsimp only ; omega))) rfl ?_ | refine PWops.stepA rfl ?_ | refine PWops.doneI rfl ?_ | refine PWops.boolK true rfl rfl rfl rfl (by (first | rfl | assumption | (simp only [decide_eq_true_eq, decide_eq_false_iff_not, bne_iff_ne, beq_iff_eq, beq_eq_false_iff_ne, bne_eq_false_iff_eq, ne_eq] ; omega))) rfl ?_ | refine PWops.boolK false rfl rfl rfl rfl (by (first | rfl | assumption | (simp only [decide_eq_true_eq, decide_eq_false_iff_not, bne_iff_ne, beq_iff_eq, beq_eq_false_iff_ne, bne_eq_false_iff_eq, ne_eq] ; omega))) rfl ?_ | refine PWops.fitsK rfl rfl rfl rfl (by (first | omega | (dsimp only ; omega))) (by (first | omega | (dsimp only ; omega))) rfl ?_ | refine PWops.remK rfl rfl rfl rfl (by (first | omega | (dsimp only ; omega))) rfl ?_ | refine PWops.quoK rfl rfl rfl rfl (by (first | omega | (dsimp only ; omega))) rfl ?_ | refine PWops.app rfl rfl rfl rfl rfl rfl rfl rfl (by (first | omega | (dsimp only ; omega))) (by (first | omega | (dsimp only ; omega))) (by first | rfl | exact secL_one _ | exact putL_one _ | exact one_pint _ | exact one_pstr _ | exact one_pbyte _ | exact one_pattrs _) ?_ | refine PWops.app0 rfl rfl rfl rfl rfl rfl rfl rfl (by (first | omega | (dsimp only ; omega))) (by (first | omega | (dsimp only ; omega))) (by first | rfl | exact secL_one _ | exact putL_one _ | exact one_pint _ | exact one_pstr _ | exact one_pbyte _ | exact one_pattrs _) ?_ | refine PWops.idx1 rfl rfl rfl rfl rfl rfl rfl rfl (by (first | omega | (dsimp only ; omega))) ?_ | refine PWops.idx rfl rfl rfl rfl rfl rfl rfl rfl (by (first | omega | (dsimp only ; omega))) ?_ | refine PWops.ld rfl rfl rfl rfl rfl rfl rfl (by assumption) rfl ?_ | refine PWops.ldA rfl rfl rfl rfl rfl rfl (by (first | omega | (dsimp only ; omega))) (by assumption) ?_ | refine PWops.str rfl rfl rfl rfl rfl rfl rfl rfl rfl rfl rfl ?_) | (first | refine PWops.arU rfl rfl rfl rfl rfl rfl ?_ | refine PWops.boxA rfl rfl rfl rfl rfl (by (first | rfl | exact secL_one _ | exact dcellL_one _ | exact putL_one _ | exact one_map (fun _ => rfl) _)) (by (first | rfl | exact secL_bare _ | exact dcellL_bare _ | exact putL_bare _ | exact bare_map (fun _ => rfl) _)) ?_ | refine PWops.litA rfl rfl rfl rfl rfl rfl rfl (by (first | rfl | exact secL_len _ | exact dcellL_len _ | exact putL_len _ | exact len_map (by assumption) | exact len_map rfl)) rfl rfl rfl (by (first | rfl | exact secL_one _ | exact dcellL_one _ | exact putL_one _ | exact one_map (fun _ => rfl) _)) (by (first | rfl | exact secL_bare _ | exact dcellL_bare _ | exact putL_bare _ | exact bare_map (fun _ => rfl) _)) ?_ | refine PWops.shlK rfl rfl rfl rfl rfl rfl (by (first | omega | (dsimp only ; omega) | decide)) ?_ | refine PWops.shrK rfl rfl rfl rfl rfl rfl (by (first | omega | (dsimp only ; omega) | decide)) ?_ | refine PWops.ldBC rfl rfl rfl rfl rfl rfl rfl rfl (by (first | exact secL_len | exact dcellL_len | exact putL_len | (intro; rfl))) (by (first | omega | (dsimp only ; omega))) (by (first | rfl | exact dcellL_64 _)) rfl ?_ | refine PWops.ldRB rfl rfl rfl rfl rfl rfl (by (first | exact secL_len | exact dcellL_len | exact putL_len | (intro; rfl))) (by (first | omega | (dsimp only ; omega))) (by (first | exact secL_bare | exact dcellL_bare | exact putL_bare | (intro; rfl))) ?_ | refine PWops.ldSec rfl rfl rfl rfl rfl rfl rfl (by first | with_reducible rfl | with_reducible exact dC_flat _) (by rfl) (by (first | omega | (dsimp only ; omega))) ?_ | refine PWops.ldBR rfl rfl rfl rfl rfl rfl rfl (by (first | exact secL_len | exact dcellL_len | exact putL_len | (intro; rfl))) (by (first | omega | (dsimp only ; omega))) (by (first | exact secL_bare _ | exact dcellL_bare _ | exact putL_bare _ | rfl)) ?_ | refine PWops.lkp rfl rfl rfl rfl rfl rfl rfl rfl rfl rfl rfl (by assumption) ?_ | refine PWops.ldAll rfl rfl rfl rfl rfl rfl rfl (by (first | rfl | exact secL_len _ | exact dcellL_len _ | exact putL_len _ | exact len_map (by assumption) | exact len_map rfl)) (by (first | rfl | exact secL_bare _ | exact dcellL_bare _ | exact putL_bare _ | exact bare_map (fun _ => rfl) _)) ?_ | refine PWops.stAll rfl rfl rfl rfl rfl rfl rfl rfl rfl (by (first | rfl | exact secL_len _ | exact dcellL_len _ | exact putL_len _ | exact len_map (by assumption) | exact len_map rfl)) (by (first | rfl | exact secL_len _ | exact dcellL_len _ | exact putL_len _ | exact len_map (by assumption) | exact len_map rfl)) (by (first | rfl | exact secL_one _ | exact dcellL_one _ | exact putL_one _ | exact one_map (fun _ => rfl) _)) (by (first | rfl | exact secL_bare _ | exact dcellL_bare _ | exact putL_bare _ | exact bare_map (fun _ => rfl) _)) ?_ | refine PWops.idxM rfl rfl rfl rfl rfl rfl rfl rfl (by (first | omega | (dsimp only ; omega))) ?_ | refine PWops.idxP1 rfl rfl rfl rfl rfl rfl rfl rfl (by (first | omega | (dsimp only ; omega))) ?_ | refine PWops.idxP rfl rfl rfl rfl rfl rfl rfl rfl (by (first | omega | (dsimp only ; omega))) ?_ | (refine PWops.call rfl rfl rfl (by assumption) ?_) | (refine PWops.callR rfl rfl (by assumption) (by (first | exact trivial | exact ⟨⟨rfl, rfl⟩, trivial⟩ | exact ⟨⟨rfl, rfl⟩, ⟨rfl, rfl⟩, trivial⟩ | exact ⟨⟨rfl, rfl⟩, ⟨rfl, rfl⟩, ⟨rfl, rfl⟩, trivial⟩ | exact ⟨⟨rfl, rfl⟩, ⟨rfl, rfl⟩, ⟨rfl, rfl⟩, ⟨rfl, rfl⟩, trivial⟩ | exact ⟨⟨rfl, rfl⟩, ⟨rfl, rfl⟩, ⟨rfl, rfl⟩, ⟨rfl, rfl⟩, ⟨rfl, rfl⟩, trivial⟩ | exact ⟨⟨rfl, rfl⟩, ⟨rfl, rfl⟩, ⟨rfl, rfl⟩, ⟨rfl, rfl⟩, ⟨rfl, rfl⟩, ⟨rfl, rfl⟩, trivial⟩ | exact ⟨⟨rfl, rfl⟩, ⟨rfl, rfl⟩, ⟨rfl, rfl⟩, ⟨rfl, rfl⟩, ⟨rfl, rfl⟩, ⟨rfl, rfl⟩, ⟨rfl, rfl⟩, trivial⟩ | exact ⟨⟨rfl, rfl⟩, ⟨rfl, rfl⟩, ⟨rfl, rfl⟩, ⟨rfl, rfl⟩, ⟨rfl, rfl⟩, ⟨rfl, rfl⟩, ⟨rfl, rfl⟩, ⟨rfl, rfl⟩, trivial⟩)) (by (first | exact trivial | exact ⟨⟨rfl, rfl⟩, trivial⟩ | exact ⟨⟨rfl, rfl⟩, ⟨rfl, rfl⟩, trivial⟩ | exact ⟨⟨rfl, rfl⟩, ⟨rfl, rfl⟩, ⟨rfl, rfl⟩, trivial⟩ | exact ⟨⟨rfl, rfl⟩, ⟨rfl, rfl⟩, ⟨rfl, rfl⟩, ⟨rfl, rfl⟩, trivial⟩ | exact ⟨⟨rfl, rfl⟩, ⟨rfl, rfl⟩, ⟨rfl, rfl⟩, ⟨rfl, rfl⟩, ⟨rfl, rfl⟩, trivial⟩ | exact ⟨⟨rfl, rfl⟩, ⟨rfl, rfl⟩, ⟨rfl, rfl⟩, ⟨rfl, rfl⟩, ⟨rfl, rfl⟩, ⟨rfl, rfl⟩, trivial⟩ | exact ⟨⟨rfl, rfl⟩, ⟨rfl, rfl⟩, ⟨rfl, rfl⟩, ⟨rfl, rfl⟩, ⟨rfl, rfl⟩, ⟨rfl, rfl⟩, ⟨rfl, rfl⟩, trivial⟩ | exact ⟨⟨rfl, rfl⟩, ⟨rfl, rfl⟩, ⟨rfl, rfl⟩, ⟨rfl, rfl⟩, ⟨rfl, rfl⟩, ⟨rfl, rfl⟩, ⟨rfl, rfl⟩, ⟨rfl, rfl⟩, trivial⟩)) rfl (by first | exact .inl rfl | exact .inr (fun _ _ => rfl)) ?_) | (refine PWops.callH rfl rfl (by assumption) (by (first | exact trivial | exact ⟨⟨rfl, rfl⟩, trivial⟩ | exact ⟨⟨rfl, rfl⟩, ⟨rfl, rfl⟩, trivial⟩ | exact ⟨⟨rfl, rfl⟩, ⟨rfl, rfl⟩, ⟨rfl, rfl⟩, trivial⟩ | exact ⟨⟨rfl, rfl⟩, ⟨rfl, rfl⟩, ⟨rfl, rfl⟩, ⟨rfl, rfl⟩, trivial⟩ | exact ⟨⟨rfl, rfl⟩, ⟨rfl, rfl⟩, ⟨rfl, rfl⟩, ⟨rfl, rfl⟩, ⟨rfl, rfl⟩, trivial⟩ | exact ⟨⟨rfl, rfl⟩, ⟨rfl, rfl⟩, ⟨rfl, rfl⟩, ⟨rfl, rfl⟩, ⟨rfl, rfl⟩, ⟨rfl, rfl⟩, trivial⟩ | exact ⟨⟨rfl, rfl⟩, ⟨rfl, rfl⟩, ⟨rfl, rfl⟩, ⟨rfl, rfl⟩, ⟨rfl, rfl⟩, ⟨rfl, rfl⟩, ⟨rfl, rfl⟩, trivial⟩ | exact ⟨⟨rfl, rfl⟩, ⟨rfl, rfl⟩, ⟨rfl, rfl⟩, ⟨rfl, rfl⟩, ⟨rfl, rfl⟩, ⟨rfl, rfl⟩, ⟨rfl, rfl⟩, ⟨rfl, rfl⟩, trivial⟩)) (by (first | exact trivial | exact ⟨⟨rfl, rfl⟩, trivial⟩ | exact ⟨⟨rfl, rfl⟩, ⟨rfl, rfl⟩, trivial⟩ | exact ⟨⟨rfl, rfl⟩, ⟨rfl, rfl⟩, ⟨rfl, rfl⟩, trivial⟩ | exact ⟨⟨rfl, rfl⟩, ⟨rfl, rfl⟩, ⟨rfl, rfl⟩, ⟨rfl, rfl⟩, trivial⟩ | exact ⟨⟨rfl, rfl⟩, ⟨rfl, rfl⟩, ⟨rfl, rfl⟩, ⟨rfl, rfl⟩, ⟨rfl, rfl⟩, trivial⟩ | exact ⟨⟨rfl, rfl⟩, ⟨rfl, rfl⟩, ⟨rfl, rfl⟩, ⟨rfl, rfl⟩, ⟨rfl, rfl⟩, ⟨rfl, rfl⟩, trivial⟩ | exact ⟨⟨rfl, rfl⟩, ⟨rfl, rfl⟩, ⟨rfl, rfl⟩, ⟨rfl, rfl⟩, ⟨rfl, rfl⟩, ⟨rfl, rfl⟩, ⟨rfl, rfl⟩, trivial⟩ | exact ⟨⟨rfl, rfl⟩, ⟨rfl, rfl⟩, ⟨rfl, rfl⟩, ⟨rfl, rfl⟩, ⟨rfl, rfl⟩, ⟨rfl, rfl⟩, ⟨rfl, rfl⟩, ⟨rfl, rfl⟩, trivial⟩)) rfl (by first | exact .inl rfl | exact .inr (fun _ _ => rfl)) ?_) | refine PWops.idxZ1 rfl rfl rfl rfl rfl rfl rfl rfl (by (first | omega | (dsimp only ; omega))) ?_ | refine PWops.idxZ rfl rfl rfl rfl rfl rfl rfl rfl (by (first | omega | (dsimp only ; omega))) ?_ | refine PWops.ld rfl rfl rfl rfl rfl rfl rfl rfl rfl ?_ | refine PWops.slcL rfl rfl rfl rfl rfl rfl rfl rfl (by (first | omega | (dsimp only ; omega))) ?_ | refine PWops.slcH rfl rfl rfl rfl rfl rfl rfl rfl (by (first | omega | (dsimp only ; omega))) ?_ | refine PWops.slcRL rfl rfl rfl rfl rfl rfl rfl rfl (by intro; rfl) (by (first | omega | (dsimp only ; omega))) ?_ | refine PWops.slcRH rfl rfl rfl rfl rfl rfl rfl rfl (by intro; rfl) (by (first | omega | (dsimp only ; omega))) ?_ | refine PWops.slcM rfl rfl rfl rfl rfl rfl rfl rfl rfl (by (first | omega | (dsimp only ; omega))) ?_ | refine PWops.ldM rfl rfl rfl rfl rfl rfl rfl (by (first | omega | (dsimp only ; omega))) rfl ?_ | refine PWops.ldR rfl rfl rfl rfl rfl rfl rfl (by (first | exact secL_len | exact dcellL_len | exact putL_len | (intro; rfl))) (by (first | omega | (dsimp only ; omega))) rfl rfl ?_ | refine PWops.ldRA rfl rfl rfl rfl rfl rfl (by intro; rfl) (by (first | omega | (dsimp only ; omega))) rfl ?_ | refine PWops.slcP rfl rfl rfl rfl rfl rfl rfl rfl rfl (by decide) ?_ | refine PWops.idxE1 rfl rfl rfl rfl rfl rfl rfl rfl (by (first | omega | (dsimp only ; omega))) ?_ | refine PWops.ldG rfl rfl rfl rfl rfl rfl (by (first | rfl | exact secL_len _ | exact dcellL_len _ | exact putL_len _ | exact len_map (by assumption) | exact len_map rfl)) (by (first | rfl | exact secL_bare _ | exact dcellL_bare _ | exact putL_bare _ | exact bare_map (fun _ => rfl) _)) ?_ | refine PWops.ldMB rfl rfl rfl rfl rfl rfl rfl rfl (by (first | omega | (dsimp only ; omega))) rfl rfl ?_ | refine PWops.stMB rfl rfl rfl rfl rfl rfl rfl rfl rfl rfl (by (first | omega | (dsimp only ; omega))) ?_ | refine PWops.idxV rfl rfl rfl rfl rfl rfl rfl rfl (by (first | omega | (dsimp only ; omega))) rfl ?_))) ; (repeat (first | (with_reducible first | refine PW.seq ?_ | refine PW.block ?_ | refine PW.skip ?_ | refine PW.exit ?_ | refine PW.ret ?_ | refine thenP ?_ | refine thenP_exit ?_ | refine thenP_ret ?_ | refine blockP ?_ | refine blockP_exit ?_ | refine blockP_ret ?_ | refine loopP_exit ?_ | refine loopP_ret ?_ | refine loopU_exit ?_ | refine loopU_ret ?_) | (first | ((with_reducible refine PW.idd ?_) ; (first | refine PW.condT rfl ?_ | refine PW.condF rfl ?_ | refine PW.condTe rfl (by assumption) ?_ | refine PW.condFe rfl (by assumption) ?_ | refine blockP_other (by decide) ?_)) | with_reducible refine blockP_other (by decide) ?_))); exact hHold.out) : p := h ⟨k⟩
theorem sb {p : Prop} (h : p := by (refine Sub.same ?_ ; (repeat (first | exact SubR.bot | ((with_reducible refine SubR.isp ?_) ; refine SubR.put ?_ (by (first | exact .inl (.ptr _ _ rfl) | exact .inl (.msl _ _ _ _ rfl) | exact .inl (.mref _ rfl) | exact .inl (.low _ (by (first | exact low_mapI | exact low_mapS | exact low_mapB | assumption | exact hlow _ | exact hlow _ _ | exact Low.agg _ (low_map (fun _ => Low.val _) _) | (simp [low_pu32, low_pu64, low_val, low_nilsl, low_sl, low_ep, low_agg, low_tup, low_fn, low_pint, low_pstr, low_pbool, low_pints, low_pstrs, low_pbyte, low_pbytes, hlow] ; done) | (simp [low_pu32, low_pu64, low_val, low_nilsl, low_sl, low_ep, low_agg, low_tup, low_fn, low_pint, low_pstr, low_pbool, low_pints, low_pstrs, low_pbyte, low_pbytes] ; done) | simp [low_pu32, low_pu64, low_val, low_nilsl, low_sl, low_ep, low_agg, low_tup, low_fn, low_pint, low_pstr, low_pbool, low_pints, low_pstrs, low_pbyte, low_pbytes, low_pattrs, low_pdefs, low_pschema, low_pentry]))) | exact .inr (.inl (.low _ (by (first | exact low_mapI | exact low_mapS | exact low_mapB | assumption | exact hlow _ | exact hlow _ _ | exact Low.agg _ (low_map (fun _ => Low.val _) _) | (simp [low_pu32, low_pu64, low_val, low_nilsl, low_sl, low_ep, low_agg, low_tup, low_fn, low_pint, low_pstr, low_pbool, low_pints, low_pstrs, low_pbyte, low_pbytes, hlow] ; done) | (simp [low_pu32, low_pu64, low_val, low_nilsl, low_sl, low_ep, low_agg, low_tup, low_fn, low_pint, low_pstr, low_pbool, low_pints, low_pstrs, low_pbyte, low_pbytes] ; done) | simp [low_pu32, low_pu64, low_val, low_nilsl, low_sl, low_ep, low_agg, low_tup, low_fn, low_pint, low_pstr, low_pbool, low_pints, low_pstrs, low_pbyte, low_pbytes, low_pattrs, low_pdefs, low_pschema, low_pentry])))) | exact .inr (.inr ⟨_, _, rfl, rfl⟩)))) | ((with_reducible refine SubR.isb ?_) ; refine SubR.setb ?_ rfl rfl (by (first | exact RenQL.low (by first | assumption | exact hlow _ | exact hlow _ _ | exact low_map (fun _ => Low.val _) _) | exact RenQL.lowE (by assumption) (low_map (fun _ => Low.val _) _) | ((repeat (refine RenQL.cons (by (first | exact .inl (.ptr _ _ rfl) | exact .inl (.msl _ _ _ _ rfl) | exact .inl (.mref _ rfl) | exact .inl (.low _ (by (first | exact low_mapI | exact low_mapS | exact low_mapB | assumption | exact hlow _ | exact hlow _ _ | exact Low.agg _ (low_map (fun _ => Low.val _) _) | (simp [low_pu32, low_pu64, low_val, low_nilsl, low_sl, low_ep, low_agg, low_tup, low_fn, low_pint, low_pstr, low_pbool, low_pints, low_pstrs, low_pbyte, low_pbytes, hlow] ; done) | (simp [low_pu32, low_pu64, low_val, low_nilsl, low_sl, low_ep, low_agg, low_tup, low_fn, low_pint, low_pstr, low_pbool, low_pints, low_pstrs, low_pbyte, low_pbytes] ; done) | simp [low_pu32, low_pu64, low_val, low_nilsl, low_sl, low_ep, low_agg, low_tup, low_fn, low_pint, low_pstr, low_pbool, low_pints, low_pstrs, low_pbyte, low_pbytes, low_pattrs, low_pdefs, low_pschema, low_pentry]))) | exact .inr (.inl (.low _ (by (first | exact low_mapI | exact low_mapS | exact low_mapB | assumption | exact hlow _ | exact hlow _ _ | exact Low.agg _ (low_map (fun _ => Low.val _) _) | (simp [low_pu32, low_pu64, low_val, low_nilsl, low_sl, low_ep, low_agg, low_tup, low_fn, low_pint, low_pstr, low_pbool, low_pints, low_pstrs, low_pbyte, low_pbytes, hlow] ; done) | (simp [low_pu32, low_pu64, low_val, low_nilsl, low_sl, low_ep, low_agg, low_tup, low_fn, low_pint, low_pstr, low_pbool, low_pints, low_pstrs, low_pbyte, low_pbytes] ; done) | simp [low_pu32, low_pu64, low_val, low_nilsl, low_sl, low_ep, low_agg, low_tup, low_fn, low_pint, low_pstr, low_pbool, low_pints, low_pstrs, low_pbyte, low_pbytes, low_pattrs, low_pdefs, low_pschema, low_pentry])))) | exact .inr (.inr ⟨_, _, rfl, rfl⟩))) ?_)) ; exact RenQL.nil)))) | ((with_reducible refine SubR.ism ?_) ; refine SubR.setm ?_ rfl rfl (by (first | exact ⟨rfl, rfl, rfl, rfl, rfl⟩ | exact RenM.low (by first | assumption | exact hlowm _ | exact hlowm _ _)))))))) : p := h
theorem lw {p : Prop} (h : p := by (first | exact low_mapI | exact low_mapS | exact low_mapB | assumption | exact hlow _ | exact hlow _ _ | exact Low.agg _ (low_map (fun _ => Low.val _) _) | (simp [low_pu32, low_pu64, low_val, low_nilsl, low_sl, low_ep, low_agg, low_tup, low_fn, low_pint, low_pstr, low_pbool, low_pints, low_pstrs, low_pbyte, low_pbytes, hlow] ; done) | (simp [low_pu32, low_pu64, low_val, low_nilsl, low_sl, low_ep, low_agg, low_tup, low_fn, low_pint, low_pstr, low_pbool, low_pints, low_pstrs, low_pbyte, low_pbytes] ; done) | simp [low_pu32, low_pu64, low_val, low_nilsl, low_sl, low_ep, low_agg, low_tup, low_fn, low_pint, low_pstr, low_pbool, low_pints, low_pstrs, low_pbyte, low_pbytes, low_pattrs, low_pdefs, low_pschema, low_pentry])) : p := h
end Go.Proofs.YtilcpcpmkklobaaDoor

/- The disk: what its memory reads as; contracts of its methods for all numbers of its variables. -/
namespace Go.Proofs.YtilcpcpmkklobaaDoor
set_option linter.unusedSimpArgs false
set_option linter.unusedVariables false
set_option linter.unnecessarySimpa false
open Go.RowKit

/-- A sector: 64 bytes. -/
def Sec := {l : List Int // l.length = 64 ∧ ∀ x ∈ l, 0 ≤ x ∧ x < 256}
def zeroSec : Sec := ⟨List.replicate 64 0, by decide⟩
instance : Inhabited Sec := ⟨zeroSec⟩
def secL (s : Sec) : List PV := s.1.map pbyte
theorem secL_len (s : Sec) : (secL s).length = 64 := by simp [secL, s.2.1]
theorem secL_low (s : Sec) : ∀ c ∈ secL s, Low c := by
  intro c hc
  obtain ⟨z, -, rfl⟩ := List.mem_map.1 hc
  exact .val _
theorem secL_one (s : Sec) : (secL s).all PV.one = true := one_pbyte _
theorem secL_bare (s : Sec) : (secL s).map PV.bare = secL s := by
  simp only [secL, List.map_map]; rfl
structure DCell where
  s : Sec
  bad : Bool
instance : Inhabited DCell := ⟨⟨zeroSec, false⟩⟩
def dcellL (c : DCell) : List PV := secL c.s ++ [pbool c.bad]
theorem dcellL_len (c : DCell) : (dcellL c).length = 65 := by simp [dcellL, secL_len]
theorem dcellL_low (c : DCell) : ∀ p ∈ dcellL c, Low p := by
  intro p hp
  rcases List.mem_append.1 hp with h | h
  · exact secL_low _ p h
  · simp at h; subst h; exact .val _
theorem dcellL_one (s : DCell) : (dcellL s).all PV.one = true := by
  rw [dcellL, List.all_append, secL_one]; rfl
theorem dcellL_bare (s : DCell) : (dcellL s).map PV.bare = dcellL s := by
  rw [dcellL, List.map_append, secL_bare]; rfl
theorem flat_low {α : Type} {f : α → List PV} (h : ∀ x, ∀ p ∈ f x, Low p) (l : List α) : ∀ p ∈ l.flatMap f, Low p := by
  intro p hp
  obtain ⟨x, -, hx⟩ := List.mem_flatMap.1 hp
  exact h x p hx

/-- A disk: its sectors, the entries of its map of open writes, and the rest. -/
structure DM where
  cells : List DCell
  op : List (Nat × Int × List Sec)
  clock : Nat
  steps : Int
  after : Int
  dead : Bool
def psecs (l : List Sec) (own : Option TypeId) : PV := .sl l.length 64 (l.flatMap secL) own
theorem psecs_low (l : List Sec) (own : Option TypeId) : Low (psecs l own) := .sl _ _ _ _ (flat_low secL_low l)
def dE (e : Nat × Int × List Sec) : Nat × PV × PV := (e.1, pint e.2.1, psecs e.2.2 (some 53))
def dB (c m : Nat) (D : DM) : List PV := [.msl c 0 D.cells.length 65, .mref m, pint D.steps, pint D.after, pbool D.dead]
def dC (D : DM) : List PV := D.cells.flatMap dcellL
def dM (D : DM) : PMap := .map (D.op.map dE) D.clock
def dG (d c m : Nat) (D : DM) : List (Nat × List PV) := [(d, dB c m D), (c, dC D)]
def dMs (m : Nat) (D : DM) : List (Nat × PMap) := [(m, dM D)]
theorem dC_low (D : DM) : ∀ p ∈ dC D, Low p := flat_low dcellL_low _
theorem secL_noI (s : Sec) : ∀ p ∈ secL s, noI64 p = true := by
  intro p hp
  obtain ⟨z, -, rfl⟩ := List.mem_map.1 hp
  rfl
theorem psecs_owns (l : List Sec) (own : Option TypeId) : OwnsOK (psecs l own) := owns_sl (fun p hp => by
  obtain ⟨x, -, hx⟩ := List.mem_flatMap.1 hp
  exact secL_noI x p hx)
theorem dC_owns (D : DM) : ∀ c ∈ dC D, OwnsOK c := by
  intro c hc
  obtain ⟨x, -, hx⟩ := List.mem_flatMap.1 hc
  rcases List.mem_append.1 hx with h | h
  · obtain ⟨z, -, rfl⟩ := List.mem_map.1 h; exact owns_no rfl
  · simp at h; subst h; exact owns_no rfl
theorem dM_owns (D : DM) : ∀ e ∈ D.op.map dE, OwnsOK e.2.2 := by
  intro e he
  obtain ⟨x, -, rfl⟩ := List.mem_map.1 he
  exact psecs_owns _ _
theorem dM_low (D : DM) : ∀ e ∈ D.op.map dE, Low e.2.1 ∧ Low e.2.2 := by
  intro e he
  obtain ⟨x, -, rfl⟩ := List.mem_map.1 he
  exact ⟨.val _, psecs_low _ _⟩

def ids3 (d c m : Nat) : List Nat := [d, c, m]
def disk3 (d c m i : Nat) : Nat := if i = 1000001 then d else if i = 1000002 then c else if i = 1000003 then m else i

theorem dB_lowI {S : Nat → Prop} {c m : Nat} (hc : S c) (hm : S m) (D : DM) : ∀ p ∈ dB c m D, LowI S p := by
  intro p hp
  simp only [dB, List.mem_cons, List.not_mem_nil, or_false] at hp
  rcases hp with rfl | rfl | rfl | rfl | rfl
  · exact .msl _ _ _ _ hc
  · exact .mref _ hm
  · exact .val _
  · exact .val _
  · exact .val _
theorem dB_ren {S : Nat → Prop} {d c m : Nat} (hc : S 1000002) (hm : S 1000003) (D : DM) : RenL (disk3 d c m) S (dB 1000002 1000003 D) (dB c m D) :=
  .cons (.msl 1000002 0 _ _ hc) (.cons (.mref 1000003 hm) (.cons (.low _ (.val _)) (.cons (.low _ (.val _)) (.cons (.low _ (.val _)) .nil))))

section
variable {f : FuncId} {fn : Func} {c : Code}
/-- The contract of a method of a disk that makes no other disk. -/
def DCalls (f : FuncId) (args : List PV) (D : DM) (r : PV) (D' : DM) : Prop := ∀ d c m, (ids3 d c m).Nodup → HCalls Tryd.prog f (.ptr d 0 :: args) (dG d c m D) (dMs m D) r (dG d c m D') (dMs m D')

theorem dcalls_of_pw {args : List PV} {D D' : DM} {r : PV} (hf : Tryd.prog.funcs[f]? = some fn) (hb : fn.body = some c) (hcb : callB Tryd.prog f = true) (hlow : ∀ p ∈ args, Low p) (hno : ∀ p ∈ args, p.ownB = false) (hn : args.length + 1 ≤ fn.ntmps) (hr : Low r)
    (h : PW Tryd.prog fn.ntmps c (RetH typeTab fn.results.toList r (dG 1000001 1000002 1000003 D') (dMs 1000003 D')) (initH (.ptr 1000001 0 :: args) (dG 1000001 1000002 1000003 D) (dMs 1000003 D))) : DCalls f args D r D' := by
  have h1 : HCalls Tryd.prog f (.ptr 1000001 0 :: args) (dG 1000001 1000002 1000003 D) (dMs 1000003 D) r (dG 1000001 1000002 1000003 D') (dMs 1000003 D') := by
    have r3 : ∀ D, ResIds (dG 1000001 1000002 1000003 D) (dMs 1000003 D) = [1000001, 1000002, 1000003] := fun _ => rfl
    refine hcalls_of_pw typeTab_ok hf hb hcb (fun p hp => ?_) (by simpa using hn) (by rw [r3]; decide) (by rw [r3]; decide) ⟨fun p hp => ?_, fun x hx => ?_, fun x hx => ?_, hr.lowI, fun x hx => ?_, fun x hx => ?_, by simp [dG], by simp [dMs]⟩ h
    · rcases List.mem_cons.1 hp with rfl | hp
      · rfl
      · exact hno p hp
    · rcases List.mem_cons.1 hp with rfl | hp
      · exact .ptr _ _ (by rw [r3]; decide)
      · exact (hlow p hp).lowI
    · simp only [dG, List.mem_cons, List.not_mem_nil, or_false] at hx
      rcases hx with rfl | rfl
      · exact dB_lowI (by rw [r3]; decide) (by rw [r3]; decide) D
      · exact fun p hp => (dC_low D p hp).lowI
    · simp only [dMs, List.mem_cons, List.not_mem_nil, or_false] at hx
      subst hx
      exact fun e he => ⟨(dM_low D e he).1.lowI, (dM_low D e he).2.lowI⟩
    · simp only [dG, List.mem_cons, List.not_mem_nil, or_false] at hx
      rcases hx with rfl | rfl
      · exact dB_lowI (by rw [r3]; decide) (by rw [r3]; decide) D'
      · exact fun p hp => (dC_low D' p hp).lowI
    · simp only [dMs, List.mem_cons, List.not_mem_nil, or_false] at hx
      subst hx
      exact fun e he => ⟨(dM_low D' e he).1.lowI, (dM_low D' e he).2.lowI⟩
  intro d c m hnd
  have r3 : ∀ D, ResIds (dG 1000001 1000002 1000003 D) (dMs 1000003 D) = [1000001, 1000002, 1000003] := fun _ => rfl
  have hG : ∀ D, RenB (disk3 d c m) (fun i => i ∈ [1000001, 1000002, 1000003]) (dG 1000001 1000002 1000003 D) (dG d c m D) := fun D =>
    .cons 1000001 _ _ _ _ (dB_ren (by decide) (by decide) D) (.cons 1000002 _ _ _ _ (.low (dC_low D)) .nil)
  have hM : ∀ D, RenMs (disk3 d c m) (fun i => i ∈ [1000001, 1000002, 1000003]) (dMs 1000003 D) (dMs m D) := fun D => .cons 1000003 _ _ _ _ (.low (dM_low D)) .nil
  refine h1.ren (disk3 d c m) (by simp [dG]) (by simp [dMs]) ?_ ?_ (hG D) (hM D) (.low _ hr) (hG D') (hM D')
  · rw [r3]
    simp only [ids3, List.nodup_cons, List.mem_cons, List.not_mem_nil, or_false, not_or, List.nodup_nil, and_true, not_false_eq_true] at hnd
    obtain ⟨⟨n1, n2⟩, n3⟩ := hnd
    intro i hi j hj e
    simp only [List.mem_cons, List.not_mem_nil, or_false] at hi hj
    rcases hi with rfl | rfl | rfl <;> rcases hj with rfl | rfl | rfl <;> simp [disk3] at e ⊢ <;> first | exact absurd e n1 | exact absurd e n2 | exact absurd e n3 | exact absurd e.symm n1 | exact absurd e.symm n2 | exact absurd e.symm n3
  · exact .cons (.ptr 1000001 0 (by rw [r3]; decide)) (.low hlow)
end
end Go.Proofs.YtilcpcpmkklobaaDoor

/- The disk: walks of its small methods. -/
namespace Go.Proofs.YtilcpcpmkklobaaDoor
set_option linter.unusedSimpArgs false
set_option linter.unusedVariables false
set_option linter.unnecessarySimpa false
open Go.RowKit


/-- A call for a sector. -/
def DM.check (D : DM) (i : Int) : Int := if D.dead then 220 else if i < 0 ∨ (D.cells.length : Int) ≤ i then 1 else 0
def DM.step (D : DM) : Int × DM := if D.after = 0 then (220, { D with dead := true }) else (0, { D with steps := D.steps + 1, after := if 0 < D.after then D.after - 1 else D.after })

set_option maxRecDepth 10000 in
set_option maxHeartbeats 1000000 in
theorem dc_Size (D : DM) : DCalls 26 [] D (pint D.cells.length) D := by
  refine dcalls_of_pw Tryd.func26 rfl rfl (by simp) (by simp) (by decide) (.val _) ?_
  refine wk ?_
  exact RetH.mk rfl (Weak.refl _) ⟨⟨_, rfl, WeakL.refl _⟩, ⟨_, rfl, WeakL.refl _⟩, trivial⟩ ⟨⟨rfl, rfl⟩, trivial⟩

set_option maxRecDepth 10000 in
set_option maxHeartbeats 1000000 in
theorem dc_Steps (D : DM) : DCalls 12 [] D (pint D.steps) D := by
  refine dcalls_of_pw Tryd.func12 rfl rfl (by simp) (by simp) (by decide) (.val _) ?_
  refine wk ?_
  exact RetH.mk rfl (Weak.refl _) ⟨⟨_, rfl, WeakL.refl _⟩, ⟨_, rfl, WeakL.refl _⟩, trivial⟩ ⟨⟨rfl, rfl⟩, trivial⟩

def maxI (a b : Int) : Int := if b > a then b else a
set_option maxRecDepth 10000 in
set_option maxHeartbeats 1000000 in
theorem dc_Arm (D : DM) (n : Int) : DCalls 19 [pint n] D (.tup []) { D with after := maxI n (-1) } := by
  refine dcalls_of_pw Tryd.func19 rfl rfl (by exact lw) (by simp [pint, PV.ownB]) (Nat.le_of_ble_eq_true rfl) (by exact lw) ?_
  refine wk ?_
  exact ⟨_, rfl, Weak.refl _, ⟨⟨_, rfl, WeakL.refl _⟩, ⟨_, rfl, WeakL.refl _⟩, trivial⟩, ⟨⟨rfl, rfl⟩, trivial⟩⟩

set_option maxRecDepth 10000 in
set_option maxHeartbeats 1000000 in
theorem dc_check (D : DM) (i : Int) : DCalls 35 [pint i] D (pint (D.check i)) D := by
  refine dcalls_of_pw Tryd.func35 rfl rfl (by exact lw) (by simp [pint, PV.ownB]) (Nat.le_of_ble_eq_true rfl) (by exact lw) ?_
  obtain ⟨cells, op, clock, steps, after, dead⟩ := D
  cases dead
  · by_cases h1 : i < 0
    · have hc : DM.check ⟨cells, op, clock, steps, after, false⟩ i = 1 := by simp [DM.check, h1]
      rw [hc]
      refine wk ?_
      exact RetH.mk rfl (Weak.refl _) ⟨⟨_, rfl, WeakL.refl _⟩, ⟨_, rfl, WeakL.refl _⟩, trivial⟩ ⟨⟨rfl, rfl⟩, trivial⟩
    · by_cases h2 : (cells.length : Int) ≤ i
      · have hc : DM.check ⟨cells, op, clock, steps, after, false⟩ i = 1 := by simp [DM.check, h2]
        rw [hc]
        refine wk ?_
        exact RetH.mk rfl (Weak.refl _) ⟨⟨_, rfl, WeakL.refl _⟩, ⟨_, rfl, WeakL.refl _⟩, trivial⟩ ⟨⟨rfl, rfl⟩, trivial⟩
      · have hc : DM.check ⟨cells, op, clock, steps, after, false⟩ i = 0 := by simp [DM.check, h1, h2]
        rw [hc]
        refine wk ?_
        exact RetH.mk rfl (Weak.refl _) ⟨⟨_, rfl, WeakL.refl _⟩, ⟨_, rfl, WeakL.refl _⟩, trivial⟩ ⟨⟨rfl, rfl⟩, trivial⟩
  · have hc : DM.check ⟨cells, op, clock, steps, after, true⟩ i = 220 := by simp [DM.check]
    rw [hc]
    refine wk ?_
    exact RetH.mk rfl (Weak.refl _) ⟨⟨_, rfl, WeakL.refl _⟩, ⟨_, rfl, WeakL.refl _⟩, trivial⟩ ⟨⟨rfl, rfl⟩, trivial⟩

set_option maxRecDepth 10000 in
set_option maxHeartbeats 1000000 in
theorem dc_step (D : DM) (h : 0 ≤ D.steps ∧ D.steps ≤ 1000000000 ∧ -1 ≤ D.after) (h2 : D.after ≤ 9223372036854775807) : DCalls 46 [] D (pint D.step.1) D.step.2 := by
  refine dcalls_of_pw Tryd.func46 rfl rfl (by simp) (by simp) (by decide) (by exact lw) ?_
  obtain ⟨cells, op, clock, steps, after, dead⟩ := D
  simp only at h h2
  by_cases h1 : after = 0
  · have hc : DM.step ⟨cells, op, clock, steps, after, dead⟩ = (220, ⟨cells, op, clock, steps, after, true⟩) := by simp [DM.step, h1]
    rw [hc]
    refine wk ?_
    exact RetH.mk rfl (Weak.refl _) ⟨⟨_, rfl, WeakL.refl _⟩, ⟨_, rfl, WeakL.refl _⟩, trivial⟩ ⟨⟨rfl, rfl⟩, trivial⟩
  · by_cases h3 : 0 < after
    · have hc : DM.step ⟨cells, op, clock, steps, after, dead⟩ = (0, ⟨cells, op, clock, steps + 1, after - 1, dead⟩) := by simp [DM.step, h1, h3]
      rw [hc]
      refine wk ?_
      exact RetH.mk rfl (Weak.refl _) ⟨⟨_, rfl, WeakL.refl _⟩, ⟨_, rfl, WeakL.refl _⟩, trivial⟩ ⟨⟨rfl, rfl⟩, trivial⟩
    · have hc : DM.step ⟨cells, op, clock, steps, after, dead⟩ = (0, ⟨cells, op, clock, steps + 1, after, dead⟩) := by simp [DM.step, h1, h3]
      rw [hc]
      refine wk ?_
      exact RetH.mk rfl (Weak.refl _) ⟨⟨_, rfl, WeakL.refl _⟩, ⟨_, rfl, WeakL.refl _⟩, trivial⟩ ⟨⟨rfl, rfl⟩, trivial⟩
end Go.Proofs.YtilcpcpmkklobaaDoor

/- The disk: Read. -/
namespace Go.Proofs.YtilcpcpmkklobaaDoor
set_option linter.unusedSimpArgs false
set_option linter.unusedVariables false
set_option linter.unnecessarySimpa false
open Go.RowKit

def psec (s : Sec) : PV := .agg (secL s)
theorem psec_low (s : Sec) : Low (psec s) := .agg _ (secL_low s)
def opIdx (i : Int) : List (Nat × Int × List Sec) → Nat → Option Nat
  | [], _ => none
  | (_, k, _) :: l, n => if i = k then some n else opIdx i l (n + 1)
theorem opIdx_find (i : Int) : ∀ (l : List (Nat × Int × List Sec)) (n : Nat), mfind .int (.int .i64 i) (l.map dE) n = some (opIdx i l n)
  | [], n => rfl
  | (s, k, v) :: l, n => by
    simp only [List.map_cons, dE, pint, mfind, veq, if_true, opIdx]
    by_cases h : i = k
    · subst h; simp
    · have : (i == k) = false := by simpa using h
      rw [this, if_neg h]
      exact opIdx_find i l (n + 1)
theorem opIdx_lt {i : Int} : ∀ {l : List (Nat × Int × List Sec)} {n j : Nat}, opIdx i l n = some j → n ≤ j ∧ j < n + l.length ∧ ∃ s v, l[j - n]? = some (s, i, v)
  | [], n, j, h => by simp [opIdx] at h
  | (s, k, v) :: l, n, j, h => by
    simp only [opIdx] at h
    split at h
    · rename_i e; subst e; cases h; exact ⟨Nat.le_refl _, by simp, s, v, by simp⟩
    · obtain ⟨h1, h2, s', v', h3⟩ := opIdx_lt h
      refine ⟨by omega, by simp; omega, s', v', ?_⟩
      rw [show j - n = (j - (n + 1)) + 1 by omega]; simpa using h3
instance : Inhabited (Nat × Int × List Sec) := ⟨(0, 0, [])⟩
/-- The open writes of a sector. -/
def DM.get (D : DM) (i : Int) : List Sec := match opIdx i D.op 0 with
  | some j => (D.op.getD j default).2.2
  | none => []
def lastS (l : List Sec) : Sec := l.getD ((l.length : Int) - 1).toNat default
def DM.cell (D : DM) (i : Int) : DCell := D.cells.getD i.toNat default
def DM.read (D : DM) (i : Int) : Sec × Int := if D.check i = 0 then (if 0 < (D.get i).length then (lastS (D.get i), 0) else if (D.cell i).bad then (zeroSec, 221) else ((D.cell i).s, 0)) else (zeroSec, D.check i)

theorem dget (D : DM) (i : Int) {ki ei : TyI} (hk : ki.kind = .int .i64) (he : zeroPV ei = some .nilsl) : ∃ b, mget ki ei (D.op.map dE) (.int .i64 i) = some (if opIdx i D.op 0 = none then .nilsl else psecs (D.get i) none, b) := by
  unfold mget
  simp only [hk, keyOK, skT, decide_true, if_true, opIdx_find]
  cases h : opIdx i D.op 0 with
  | none => exact ⟨false, by simp [he, PV.bare]⟩
  | some j =>
    obtain ⟨-, h2, s, v, h3⟩ := opIdx_lt h
    simp only [Nat.sub_zero] at h3
    refine ⟨true, ?_⟩
    simp only [List.getElem?_map, h3, Option.map_some, dE, reduceCtorEq, if_false, DM.get, h, List.getD_eq_getElem?_getD, Option.getD_some]
    rfl

theorem check0 {D : DM} {i : Int} (h : D.check i = 0) : D.dead = false ∧ 0 ≤ i ∧ i < D.cells.length := by
  unfold DM.check at h
  split at h
  · cases h
  · split at h
    · cases h
    · rename_i h1 h2
      exact ⟨by simpa using h1, by omega, by omega⟩

theorem dcellL_64 (c : DCell) : (dcellL c)[64]? = some (pbool c.bad) := by
  rw [dcellL, List.getElem?_append_right (by rw [secL_len]; exact Nat.le_refl _), secL_len]; rfl

theorem dC_flat (D : DM) : dC D = D.cells.flatMap dcellL := rfl
section
variable {P : Program} {T : Tab} {σ : PS} {o : Oper} {i base : Nat} {ops : Array Oper} {ok : Nat → Nat → Bool} {rest : List (Nat × Oper)} {K : PS → Prop}
theorem PWops.ldSec {d id : Nat} {z : Nat} {l : List DCell} {x : Operand} {t : TypeId} {kd : TD} {zr : List PV} {es : List SK} (hg : pguard ops σ o = some true) (hd : o.dst = some d) (hop : o.op = .load t x) {off : Nat} (hx : pev σ x = .ptr id off) (ht : T.at t = some ⟨64, true, kd, zr, es⟩) (hb : σ.freeB (base + i) = true) {bs : List PV} (hbs : (σ.only (ok i)).b id = some bs) (hf : bs = l.flatMap dcellL) (ho : off = 0 + z * 65 + 0) (hl : z < l.length)
    (kn : PWops P T ops base ok rest K (σ.put d (psec (l.getD z default).s))) : PWops P T ops base ok ((i, o) :: rest) K σ := by
  subst ho
  subst hf
  refine PWops.ldBA hg hd hop hx ht hb hbs ?_ ?_ kn
  · rw [flatMap_len dcellL_len]
    have := Nat.mul_le_mul_right 65 (show z + 1 ≤ l.length from hl)
    omega
  · have h1 := flatMap_row dcellL_len (getD_get default hl)
    have h2 : ((l.flatMap dcellL).drop (0 + z * 65 + 0)).take 64 = (((l.flatMap dcellL).drop (z * 65)).take 65).take 64 := by
      rw [List.take_take, show 0 + z * 65 + 0 = z * 65 by omega]; rfl
    rw [h2, h1, dcellL, List.take_append_of_le_length (by rw [secL_len]; exact Nat.le_refl _), List.take_of_length_le (by rw [secL_len]; exact Nat.le_refl _), secL_bare]
end

set_option maxRecDepth 10000 in
set_option maxHeartbeats 1000000 in
theorem dc_Read (D : DM) (i : Int) (hsz : D.cells.length ≤ 1000000000) (hop : ∀ e ∈ D.op, e.2.2.length ≤ 1000000000) : DCalls 22 [pint i] D (.tup [psec (D.read i).1, pint (D.read i).2]) D := by
  refine dcalls_of_pw Tryd.func22 rfl rfl (by exact lw) (by simp [pint, PV.ownB]) (Nat.le_of_ble_eq_true rfl) (.tup _ (by intro c hc; simp at hc; rcases hc with rfl | rfl; exact psec_low _; exact .val _)) ?_
  have hck := dc_check D i 1000001 1000002 1000003 (by decide)
  have hgl : (D.get i).length ≤ 1000000000 := by
    unfold DM.get
    cases h : opIdx i D.op 0 with
    | none => simp
    | some j =>
      obtain ⟨-, h2, s, v, h3⟩ := opIdx_lt h
      simp only [Nat.sub_zero] at h3
      simp only [List.getD_eq_getElem?_getD, h3, Option.getD_some]
      exact hop _ (List.mem_of_getElem? h3)
  by_cases h1 : D.check i = 0
  · obtain ⟨hd, hi0, hi1⟩ := check0 h1
    obtain ⟨b, hb⟩ := dget D i (ki := ⟨1, false, .int .i64, [.val (.int .i64 0)], []⟩) (ei := ⟨1, false, .slice 53 64 64 (List.replicate 64 (.val (.int .u8 0))), [.nilsl], []⟩) rfl rfl
    cases hx : opIdx i D.op 0 with
    | none =>
      have hg0 : D.get i = [] := by simp [DM.get, hx]
      rw [hx] at hb
      simp only [if_true] at hb
      cases hbad : (D.cells.getD i.toNat default).bad with
      | true =>
        have hr : D.read i = (zeroSec, 221) := by unfold DM.read DM.cell; rw [if_pos h1, hg0, hbad]; rfl
        rw [hr]
        refine wk ?_
        exact RetH.mk (presult2 (pres_cell rfl rfl rfl (by (first | rfl | exact secL_len _ | exact dcellL_len _ | exact putL_len _ | exact len_map (by assumption) | exact len_map rfl)) (by (first | rfl | exact secL_bare _ | exact dcellL_bare _ | exact putL_bare _ | exact bare_map (fun _ => rfl) _))) rfl) (Weak.eq rfl) ⟨⟨_, rfl, WeakL.refl _⟩, ⟨_, rfl, WeakL.refl _⟩, trivial⟩ ⟨⟨rfl, rfl⟩, trivial⟩
      | false =>
        have hr : D.read i = ((D.cells.getD i.toNat default).s, 0) := by unfold DM.read DM.cell; rw [if_pos h1, hg0, hbad]; rfl
        rw [hr]
        refine wk ?_
        exact RetH.mk (presult2 (pres_cell rfl rfl rfl (by (first | rfl | exact secL_len _ | exact dcellL_len _ | exact putL_len _ | exact len_map (by assumption) | exact len_map rfl)) (by (first | rfl | exact secL_bare _ | exact dcellL_bare _ | exact putL_bare _ | exact bare_map (fun _ => rfl) _))) rfl) (Weak.eq rfl) ⟨⟨_, rfl, WeakL.refl _⟩, ⟨_, rfl, WeakL.refl _⟩, trivial⟩ ⟨⟨rfl, rfl⟩, trivial⟩
    | some j =>
      rw [hx] at hb
      simp only [reduceCtorEq, if_false] at hb
      by_cases hl : 0 < (D.get i).length
      · have hr : D.read i = (lastS (D.get i), 0) := by simp [DM.read, h1, hl]
        rw [hr]
        refine wk ?_
        exact RetH.mk (presult2 (pres_cell rfl rfl rfl (by (first | rfl | exact secL_len _ | exact dcellL_len _ | exact putL_len _ | exact len_map (by assumption) | exact len_map rfl)) (by (first | rfl | exact secL_bare _ | exact dcellL_bare _ | exact putL_bare _ | exact bare_map (fun _ => rfl) _))) rfl) (Weak.eq rfl) ⟨⟨_, rfl, WeakL.refl _⟩, ⟨_, rfl, WeakL.refl _⟩, trivial⟩ ⟨⟨rfl, rfl⟩, trivial⟩
      · have hl0 : (D.get i).length = 0 := by omega
        cases hbad : (D.cells.getD i.toNat default).bad with
        | true =>
          have hr : D.read i = (zeroSec, 221) := by unfold DM.read DM.cell; rw [if_pos h1, if_neg hl, hbad]; rfl
          rw [hr]
          refine wk ?_
          exact RetH.mk (presult2 (pres_cell rfl rfl rfl (by (first | rfl | exact secL_len _ | exact dcellL_len _ | exact putL_len _ | exact len_map (by assumption) | exact len_map rfl)) (by (first | rfl | exact secL_bare _ | exact dcellL_bare _ | exact putL_bare _ | exact bare_map (fun _ => rfl) _))) rfl) (Weak.eq rfl) ⟨⟨_, rfl, WeakL.refl _⟩, ⟨_, rfl, WeakL.refl _⟩, trivial⟩ ⟨⟨rfl, rfl⟩, trivial⟩
        | false =>
          have hr : D.read i = ((D.cells.getD i.toNat default).s, 0) := by unfold DM.read DM.cell; rw [if_pos h1, if_neg hl, hbad]; rfl
          rw [hr]
          refine wk ?_
          exact RetH.mk (presult2 (pres_cell rfl rfl rfl (by (first | rfl | exact secL_len _ | exact dcellL_len _ | exact putL_len _ | exact len_map (by assumption) | exact len_map rfl)) (by (first | rfl | exact secL_bare _ | exact dcellL_bare _ | exact putL_bare _ | exact bare_map (fun _ => rfl) _))) rfl) (Weak.eq rfl) ⟨⟨_, rfl, WeakL.refl _⟩, ⟨_, rfl, WeakL.refl _⟩, trivial⟩ ⟨⟨rfl, rfl⟩, trivial⟩
  · have hr : D.read i = (zeroSec, D.check i) := by simp [DM.read, h1]
    rw [hr]
    refine wk ?_
    exact RetH.mk (presult2 (pres_cell rfl rfl rfl (by (first | rfl | exact secL_len _ | exact dcellL_len _ | exact putL_len _ | exact len_map (by assumption) | exact len_map rfl)) (by (first | rfl | exact secL_bare _ | exact dcellL_bare _ | exact putL_bare _ | exact bare_map (fun _ => rfl) _))) rfl) (Weak.eq rfl) ⟨⟨_, rfl, WeakL.refl _⟩, ⟨_, rfl, WeakL.refl _⟩, trivial⟩ ⟨⟨rfl, rfl⟩, trivial⟩
end Go.Proofs.YtilcpcpmkklobaaDoor

/- The disk: Rot, Write. -/
namespace Go.Proofs.YtilcpcpmkklobaaDoor
set_option linter.unusedSimpArgs false
set_option linter.unusedVariables false
set_option linter.unnecessarySimpa false
open Go.RowKit

def DM.setc (D : DM) (i : Int) (c : DCell) : DM := { D with cells := D.cells.set i.toNat c }
def DM.rot (D : DM) (i : Int) : DM := if D.check i = 0 then D.setc i ⟨zeroSec, true⟩ else D

set_option maxRecDepth 10000 in
set_option maxHeartbeats 1000000 in
theorem dc_Rot (D : DM) (i : Int) : DCalls 16 [pint i] D (pint (D.check i)) (D.rot i) := by
  refine dcalls_of_pw Tryd.func16 rfl rfl (by exact lw) (by simp [pint, PV.ownB]) (Nat.le_of_ble_eq_true rfl) (.val _) ?_
  have hck := dc_check D i 1000001 1000002 1000003 (by decide)
  by_cases h1 : D.check i = 0
  · obtain ⟨hd, hi0, hi1⟩ := check0 h1
    have hr : D.rot i = D.setc i ⟨zeroSec, true⟩ := by unfold DM.rot; rw [if_pos h1]
    rw [hr]
    refine wk ?_
    refine PWops.stBR (v := ⟨zeroSec, true⟩) rfl rfl rfl rfl rfl rfl rfl rfl rfl dcellL_len (by (first | omega | (dsimp only ; omega))) rfl ?_
    refine wk ?_
    exact RetH.mk rfl (Weak.refl _) ⟨⟨_, rfl, WeakL.eq (by simp [dB, DM.setc])⟩, ⟨_, rfl, WeakL.refl _⟩, trivial⟩ ⟨⟨rfl, rfl⟩, trivial⟩
  · have hr : D.rot i = D := by unfold DM.rot; rw [if_neg h1]
    rw [hr]
    refine wk ?_
    exact RetH.mk rfl (Weak.refl _) ⟨⟨_, rfl, WeakL.refl _⟩, ⟨_, rfl, WeakL.refl _⟩, trivial⟩ ⟨⟨rfl, rfl⟩, trivial⟩

/-- The map with one more open write. -/
def addW (D : DM) (i : Int) (s : Sec) : DM := match opIdx i D.op 0 with
  | some j => { D with op := D.op.set j ((D.op.getD j default).1, i, (D.op.getD j default).2.2 ++ [s]) }
  | none => { D with op := D.op ++ [(D.clock, i, [s])], clock := D.clock + 1 }
def DM.write (D : DM) (i : Int) (s : Sec) : Int × DM := if D.check i = 0 then (if D.step.1 = 0 then (0, addW D.step.2 i s) else D.step) else (D.check i, D)

theorem mfind_set {sk : SK} {kv : Value} : ∀ {es : List (Nat × PV × PV)} {j n : Nat} {s s' : Nat} {kp c c' : PV}, es[j]? = some (s, kp, c) → mfind sk kv (es.set j (s', kp, c')) n = mfind sk kv es n
  | [], j, n, s, s', kp, c, c', h => by simp at h
  | (a, b, d) :: es, 0, n, s, s', kp, c, c', h => by
    simp at h
    obtain ⟨rfl, rfl, rfl⟩ := h
    simp only [List.set_cons_zero]
    cases b <;> rfl
  | (a, b, d) :: es, j + 1, n, s, s', kp, c, c', h => by
    simp at h
    have ih := fun n => mfind_set (sk := sk) (kv := kv) (n := n) (s' := s') (c' := c') h
    simp only [List.set_cons_succ]
    cases b <;> simp only [mfind, ih]

theorem addW_some {D : DM} {i : Int} {s : Sec} {j : Nat} (hj : opIdx i D.op 0 = some j) {ki : TyI} (hk : ki.kind = .int .i64) (e : Nat × Int × List Sec) (he : D.op[j]? = some e) :
    mput ki ((D.op.map dE).set j (e.1, pint e.2.1, .sl e.2.2.length 64 (e.2.2.flatMap secL) none)) D.clock (.int .i64 i) (.sl (e.2.2.length + 1) 64 (e.2.2.flatMap secL ++ secL s) (some 53)) = some (dM (addW D i s)) := by
  obtain ⟨-, h2, s', v, h3⟩ := opIdx_lt hj
  simp only [Nat.sub_zero] at h3
  rw [he] at h3
  simp only [Option.some.injEq] at h3
  subst h3
  have hj' : (D.op.map dE)[j]? = some (s', pint i, psecs v (some 53)) := by rw [List.getElem?_map, he]; rfl
  have hl : j < (D.op.map dE).length := (List.getElem?_eq_some_iff.1 hj').1
  unfold mput
  simp only [hk, keyOK, skT, decide_true, if_true]
  rw [mfind_set hj', opIdx_find, hj]
  simp only [List.getElem?_set, if_true, hl, List.set_set]
  unfold dM addW
  rw [hj]
  simp only [List.getD_eq_getElem?_getD, he, Option.getD_some, List.map_set, dE, psecs, List.length_append, List.length_cons, List.length_nil, List.flatMap_append, List.flatMap_cons, List.flatMap_nil, List.append_nil]
  rfl
theorem addW_none {D : DM} {i : Int} {s : Sec} (hj : opIdx i D.op 0 = none) {ki : TyI} (hk : ki.kind = .int .i64) :
    mput ki (D.op.map dE) D.clock (.int .i64 i) (.sl 1 64 (secL s) (some 53)) = some (dM (addW D i s)) := by
  unfold mput
  simp only [hk, keyOK, skT, decide_true, if_true]
  rw [opIdx_find, hj]
  unfold dM addW
  rw [hj]
  simp only [List.map_append, List.map_cons, List.map_nil, dE, psecs, List.length_cons, List.length_nil, List.flatMap_cons, List.flatMap_nil, List.append_nil]
  rfl

set_option maxRecDepth 10000 in
set_option maxHeartbeats 2000000 in
theorem dc_Write (D : DM) (i : Int) (s : Sec) (h : 0 ≤ D.steps ∧ D.steps ≤ 1000000000 ∧ -1 ≤ D.after) (h2 : D.after ≤ 9223372036854775807) (hop : ∀ e ∈ D.op, e.2.2.length ≤ 1000000000) : DCalls 41 [pint i, psec s] D (pint (D.write i s).1) (D.write i s).2 := by
  refine dcalls_of_pw Tryd.func41 rfl rfl (by intro p hp; simp at hp; rcases hp with rfl | rfl; exact .val _; exact psec_low _) (by simp [pint, psec, PV.ownB]) (Nat.le_of_ble_eq_true rfl) (.val _) ?_
  have hck := dc_check D i 1000001 1000002 1000003 (by decide)
  have hst := dc_step D h h2 1000001 1000002 1000003 (by decide)
  by_cases h1 : D.check i = 0
  · obtain ⟨hd, hi0, hi1⟩ := check0 h1
    by_cases h3 : D.step.1 = 0
    · have hr : D.write i s = (0, addW D.step.2 i s) := by unfold DM.write; rw [if_pos h1, if_pos h3]
      rw [hr]
      have hsop : D.step.2.op = D.op := by unfold DM.step; split <;> rfl
      refine wk ?_
      cases hx : opIdx i D.step.2.op 0 with
      | some j =>
        obtain ⟨-, h4, s', v, h5⟩ := opIdx_lt hx
        simp only [Nat.sub_zero] at h5
        have hvl : v.length ≤ 1000000000 := hop (s', i, v) (by rw [hsop] at h5; exact List.mem_of_getElem? h5)
        have hf : mfind .int (.int .i64 i) (D.step.2.op.map dE) 0 = some (some j) := by rw [opIdx_find, hx]
        have hj : (D.step.2.op.map dE)[j]? = some (s', pint i, .sl v.length 64 (v.flatMap secL) (some 53)) := by rw [List.getElem?_map, h5]; rfl
        refine PWops.lkpO rfl rfl rfl rfl rfl rfl rfl rfl rfl rfl rfl rfl rfl hf hj ?_
        refine wk ?_
        refine PWops.mputO rfl rfl rfl rfl rfl rfl rfl rfl rfl rfl rfl (addW_some hx rfl (s', i, v) h5) ?_
        refine wk ?_
        exact RetH.mk rfl (Weak.eq (by show pint D.step.1 = _; rw [h3])) ⟨⟨_, rfl, WeakL.eq (by simp [dB, addW, hx])⟩, ⟨_, rfl, WeakL.eq (by simp [dC, addW, hx])⟩, trivial⟩ ⟨⟨rfl, rfl⟩, trivial⟩
      | none =>
        obtain ⟨b, hb⟩ := dget D.step.2 i (ki := ⟨1, false, .int .i64, [.val (.int .i64 0)], []⟩) (ei := ⟨1, false, .slice 53 64 64 (List.replicate 64 (.val (.int .u8 0))), [.nilsl], []⟩) rfl rfl
        rw [hx] at hb
        simp only [if_true] at hb
        refine wk ?_
        refine PWops.mputO rfl rfl rfl rfl rfl rfl rfl rfl rfl rfl rfl (addW_none hx rfl) ?_
        refine wk ?_
        exact RetH.mk rfl (Weak.eq (by show pint D.step.1 = _; rw [h3])) ⟨⟨_, rfl, WeakL.eq (by simp [dB, addW, hx])⟩, ⟨_, rfl, WeakL.eq (by simp [dC, addW, hx])⟩, trivial⟩ ⟨⟨rfl, rfl⟩, trivial⟩
    · have hr : D.write i s = D.step := by unfold DM.write; rw [if_pos h1, if_neg h3]
      rw [hr]
      refine wk ?_
      exact RetH.mk rfl (Weak.refl _) ⟨⟨_, rfl, WeakL.refl _⟩, ⟨_, rfl, WeakL.refl _⟩, trivial⟩ ⟨⟨rfl, rfl⟩, trivial⟩
  · have hr : D.write i s = (D.check i, D) := by unfold DM.write; rw [if_neg h1]
    rw [hr]
    refine wk ?_
    exact RetH.mk rfl (Weak.refl _) ⟨⟨_, rfl, WeakL.refl _⟩, ⟨_, rfl, WeakL.refl _⟩, trivial⟩ ⟨⟨rfl, rfl⟩, trivial⟩
end Go.Proofs.YtilcpcpmkklobaaDoor

/- The disk: Flip. -/
namespace Go.Proofs.YtilcpcpmkklobaaDoor
set_option linter.unusedSimpArgs false
set_option linter.unusedVariables false
set_option linter.unnecessarySimpa false
open Go.RowKit

/-- A bit of a byte becomes another one. -/
def xbyte (x b : Int) : Int := IntKind.u8.wrap (BitVec.ofInt IntKind.u8.bits x ^^^ BitVec.ofInt IntKind.u8.bits (IntKind.u8.wrap (1 * 2 ^ (min (b % 8).toNat IntKind.u8.bits)))).toNat
theorem wrap_u8 (z : Int) : 0 ≤ IntKind.u8.wrap z ∧ IntKind.u8.wrap z < 256 := by
  have h : IntKind.u8.wrap z = z % 256 := rfl
  rw [h]; omega
def flipSec (s : Sec) (b : Int) : Sec := ⟨s.1.set (b / 8).toNat (xbyte (s.1.getD (b / 8).toNat 0) b), by simp [s.2.1], fun x hx => by
  rcases List.mem_or_eq_of_mem_set hx with h | h
  · exact s.2.2 x h
  · subst h; exact wrap_u8 _⟩
def DCell.spoilt (c : DCell) : Bool := c.s.1 == zeroSec.1 && c.bad == true
def DCell.flip (c : DCell) (b : Int) : DCell := if c.spoilt then c else ⟨flipSec c.s b, c.bad⟩
def DM.flip (D : DM) (i b : Int) : Int × DM := if D.check i = 0 then (if b < 0 ∨ 512 ≤ b then (1, D) else (0, D.setc i ((D.cell i).flip b))) else (D.check i, D)

theorem peqs_app2 : ∀ {ks ls : List SK} {xs ys us vs : List PV} {a b : Bool}, peqs ks xs ys = some a → peqs ls us vs = some b → peqs (ks ++ ls) (xs ++ us) (ys ++ vs) = some (a && b)
  | [], ls, [], [], us, vs, a, b, h, h2 => by simp [peqs] at h; subst h; simpa using h2
  | [], ls, x :: xs, ys, us, vs, a, b, h, h2 => by simp [peqs] at h
  | [], ls, [], y :: ys, us, vs, a, b, h, h2 => by simp [peqs] at h
  | k :: ks, ls, [], ys, us, vs, a, b, h, h2 => by simp [peqs] at h
  | k :: ks, ls, x :: xs, [], us, vs, a, b, h, h2 => by cases x <;> simp [peqs] at h
  | k :: ks, ls, x :: xs, y :: ys, us, vs, a, b, h, h2 => by
    cases x <;> cases y <;> simp only [peqs, reduceCtorEq] at h
    rename_i x y
    cases h3 : veq k x y with
    | none => rw [h3] at h; simp at h
    | some r =>
      cases h4 : peqs ks xs ys with
      | none => rw [h3, h4] at h; simp at h
      | some s =>
        rw [h3, h4] at h
        simp only [Option.some.injEq] at h
        subst h
        simp only [List.cons_append, peqs, h3, peqs_app2 h4 h2, Bool.and_assoc]
theorem peqs_cell (c z : DCell) : peqs (List.replicate 64 .int ++ [.bool]) (dcellL c) (dcellL z) = some (c.s.1 == z.s.1 && c.bad == z.bad) := by
  refine peqs_app2 ?_ ?_
  · have := peqs_ints (k := .u8) c.s.1 z.s.1 (by rw [c.s.2.1, z.s.2.1])
    rw [c.s.2.1] at this; exact this
  · simp [peqs, pbool, veq]
theorem dcellL_byte (c : DCell) {q : Nat} (h : q < 64) : (dcellL c)[q]? = some (pbyte (c.s.1.getD q 0)) := by
  rw [dcellL, List.getElem?_append_left (by rw [secL_len]; exact h), secL, List.getElem?_map]
  have : q < c.s.1.length := by rw [c.s.2.1]; exact h
  simp [List.getElem?_eq_getElem this]
theorem dcellL_flip (c : DCell) (b : Int) (h : (b / 8).toNat < 64) : dcellL ⟨flipSec c.s b, c.bad⟩ = (dcellL c).set (b / 8).toNat (pbyte (xbyte (c.s.1.getD (b / 8).toNat 0) b)) := by
  rw [dcellL, dcellL, List.set_append_left _ _ (by rw [secL_len]; exact h)]
  simp [secL, flipSec, List.map_set]

end Go.Proofs.YtilcpcpmkklobaaDoor

/- The disk: Sync. -/
namespace Go.Proofs.YtilcpcpmkklobaaDoor
set_option linter.unusedSimpArgs false
set_option linter.unusedVariables false
set_option linter.unnecessarySimpa false
open Go.RowKit

section
variable {P : Program} {T : Tab} {σ : PS} {o : Oper} {i base : Nat} {ops : Array Oper} {ok : Nat → Nat → Bool} {rest : List (Nat × Oper)} {K : PS → Prop}
/-- A struct of which one field, an array or a struct, is given. -/
theorem PWops.bldA {d f off n : Nat} {cs out : List PV} {x : Operand} {t : TypeId} {ti : TyI} {l : List (Nat × Nat × Bool)} (hg : pguard ops σ o = some true) (hd : o.dst = some d) (hop : o.op = .build t #[(f, x)]) (hx : pev σ x = .agg cs) (ht : T.at t = some ti) (hk : ti.kind = .struct l) (hf : (l[f]?).map (fun x => (x.1, x.2.1)) = some (off, n)) (hb : σ.freeB (base + i) = true) (hl : cs.length = n) (hz : Nat.ble (off + n) ti.zero.length = true) (ho : cs.all PV.one = true) (hr : cs.map PV.bare = cs) (hout : splice ti.zero off cs = out)
    (kn : PWops P T ops base ok rest K (σ.put d (.agg out))) : PWops P T ops base ok ((i, o) :: rest) K σ := by
  refine PWops.valEq hg hd (p := .agg out) ?_ rfl hb kn
  have hz' := Nat.le_of_ble_eq_true hz
  have hs := splF_eq ti.zero off cs (by omega)
  rw [hout] at hs
  simp only [hop, presE, pvalA, pval, ht, pbuild, hk, List.map_cons, List.map_nil, pev_only, hx, pfill, hf, pcells, ho, if_true, hr, hl, hz', and_self, hs, Option.map_some]
/-- Over a map. -/
theorem PWops.rng {d mid clock kt et : Nat} {x : Operand} {t : TypeId} {es : List (Nat × PV × PV)} {ti : TyI} (hg : pguard ops σ o = some true) (hd : o.dst = some d) (hop : o.op = .range t x) (hx : pev σ x = .mref mid) (hm : (σ.only (ok i)).m mid = some (.map es clock)) (ht : T.at t = some ti) (hk : ti.kind = .map kt et) (hb : σ.freeB (base + i) = true)
    (kn : PWops P T ops base ok rest K ((σ.setm (base + i) (.iter mid clock [] clock)).put d (.ptr (base + i) 0))) : PWops P T ops base ok ((i, o) :: rest) K σ := by
  refine PWops.stepM hg (E := ⟨.ptr (base + i) 0, [], none, [(base + i, .iter mid clock [] clock)]⟩) ?_ hb (by rw [hd]; exact kn)
  have h1 : (σ.only (ok i)).b (base + i) = none ∧ (σ.only (ok i)).m (base + i) = none := by
    obtain ⟨q1, q2⟩ := PS.freeB_spec hb
    simp only [PS.only, q1, q2]
    constructor <;> split <;> rfl
  simp only [hop, presM, ht, pev_only, hx, mapOf, hm, h1.1, h1.2, hk]
/-- The entry at which an iterator stands. -/
theorem PWops.ent {d it mid since last s clock : Nat} {x : Operand} {seen : List Nat} {es : List (Nat × PV × PV)} {e : Nat × PV × PV} (hg : pguard ops σ o = some true) (hd : o.dst = some d) (hop : o.op = .entry x) (hx : pev σ x = .ptr it 0) (hi : (σ.only (ok i)).m it = some (.iter mid since (seen ++ [s]) last)) (hm : (σ.only (ok i)).m mid = some (.map es clock)) (hcl : clock = last) (hf : es.find? (fun e => e.1 == s) = some e) (hb : σ.freeB (base + i) = true)
    (kn : PWops P T ops base ok rest K (σ.put d (.tup [e.2.1.bare, e.2.2.bare]))) : PWops P T ops base ok ((i, o) :: rest) K σ := by
  refine PWops.valEq hg hd (p := .tup [e.2.1.bare, e.2.2.bare]) ?_ rfl hb kn
  simp only [hop, presE, pvalA, pval, pvalX, pentryAt, pev_only, hx, hi, hm, hcl, if_true, List.getLast?_concat, hf, Option.map_some]
theorem find_stamp : ∀ {es : List (Nat × PV × PV)} {e : Nat × PV × PV}, (es.map (·.1)).Nodup → e ∈ es → es.find? (fun x => x.1 == e.1) = some e
  | [], e, hn, h => by simp at h
  | x :: es, e, hn, h => by
    simp only [List.map_cons, List.nodup_cons] at hn
    rcases List.mem_cons.1 h with rfl | h
    · simp
    · have hne : (x.1 == e.1) = false := by
        rw [beq_eq_false_iff_ne]
        intro e1
        exact hn.1 (by rw [e1]; exact List.mem_map_of_mem h)
      rw [List.find?_cons, hne]
      exact find_stamp hn.2 h
end

def opFind (i : Int) : List (Nat × Int × List Sec) → Option (List Sec)
  | [] => none
  | (_, k, l) :: r => if i = k then some l else opFind i r
def synced (cells : List DCell) (op : List (Nat × Int × List Sec)) : List DCell := (List.range cells.length).map fun j => match opFind (j : Nat) op with
  | some l => ⟨lastS l, false⟩
  | none => cells.getD j default
def DM.synced (D : DM) : DM := { D with cells := Go.Proofs.YtilcpcpmkklobaaDoor.synced D.cells D.op, op := [] }
def DM.sync (D : DM) : Int × DM := if D.check 0 = 0 then (if D.step.1 = 0 then (0, D.step.2.synced) else D.step) else (D.check 0, D)

/-- The open writes of a disk are as they ought to be. -/
def opOK (n : Nat) (op : List (Nat × Int × List Sec)) : Prop := (op.map (·.2.1)).Nodup ∧ ∀ e ∈ op, 0 ≤ e.2.1 ∧ e.2.1 < n ∧ 0 < e.2.2.length ∧ e.2.2.length ≤ 1000000000

theorem opIdx_mem {i : Int} : ∀ {op : List (Nat × Int × List Sec)} {n j : Nat} {s : Nat} {l : List Sec}, (op.map (·.2.1)).Nodup → op[j]? = some (s, i, l) → opIdx i op n = some (n + j)
  | [], n, j, s, l, hn, h => by simp at h
  | (a, k, b) :: op, n, 0, s, l, hn, h => by
    simp at h
    obtain ⟨rfl, rfl, rfl⟩ := h
    simp [opIdx]
  | (a, k, b) :: op, n, j + 1, s, l, hn, h => by
    simp only [List.map_cons, List.nodup_cons] at hn
    simp only [List.getElem?_cons_succ] at h
    have hne : i ≠ k := by
      rintro rfl
      exact hn.1 (List.mem_map.2 ⟨_, List.mem_of_getElem? h, rfl⟩)
    simp only [opIdx, if_neg hne]
    rw [opIdx_mem hn.2 h]
    congr 1; omega
theorem erase_map {α β : Type} (f : α → β) : ∀ (l : List α) (j : Nat), (l.map f).eraseIdx j = (l.eraseIdx j).map f
  | [], j => by simp
  | a :: l, 0 => by simp
  | a :: l, j + 1 => by simp [erase_map f l j]
theorem splice_sec (s : Sec) (b : Bool) : splice (List.replicate 64 (.val (.int .u8 0)) ++ [pbool b]) 0 (secL s) = dcellL ⟨s, b⟩ := by
  unfold splice
  rw [List.take_zero, List.nil_append, Nat.zero_add, secL_len]
  rfl
theorem dcellL_cells (c : DCell) : pcells (.agg (dcellL c)) = some (dcellL c) := by simp only [pcells, dcellL_one, if_true, dcellL_bare]
theorem opFind_none {i : Int} : ∀ {op : List (Nat × Int × List Sec)}, i ∉ op.map (·.2.1) → opFind i op = none
  | [], h => rfl
  | (a, k, b) :: op, h => by
    simp only [List.map_cons, List.mem_cons, not_or] at h
    simp only [opFind, if_neg h.1]
    exact opFind_none h.2
theorem opFind_erase {i k : Int} : ∀ {op : List (Nat × Int × List Sec)} {j s : Nat} {l : List Sec}, (op.map (·.2.1)).Nodup → op[j]? = some (s, k, l) → opFind i (op.eraseIdx j) = if i = k then none else opFind i op
  | [], j, s, l, hn, h => by simp at h
  | (a, c, b) :: op, 0, s, l, hn, h => by
    simp at h
    obtain ⟨rfl, rfl, rfl⟩ := h
    simp only [List.map_cons, List.nodup_cons] at hn
    simp only [List.eraseIdx_cons_zero, opFind]
    split
    · rename_i e; subst e; exact opFind_none hn.1
    · rfl
  | (a, c, b) :: op, j + 1, s, l, hn, h => by
    simp only [List.map_cons, List.nodup_cons] at hn
    simp only [List.getElem?_cons_succ] at h
    have hne : k ≠ c := by
      rintro rfl
      exact hn.1 (List.mem_map.2 ⟨_, List.mem_of_getElem? h, rfl⟩)
    simp only [List.eraseIdx_cons_succ, opFind, opFind_erase hn.2 h]
    by_cases e : i = c
    · subst e; rw [if_pos rfl, if_pos rfl, if_neg (fun e => hne e.symm)]
    · rw [if_neg e, if_neg e]
theorem opFind_at {k : Int} : ∀ {op : List (Nat × Int × List Sec)} {j s : Nat} {l : List Sec}, (op.map (·.2.1)).Nodup → op[j]? = some (s, k, l) → opFind k op = some l
  | [], j, s, l, hn, h => by simp at h
  | (a, c, b) :: op, 0, s, l, hn, h => by
    simp at h
    obtain ⟨rfl, rfl, rfl⟩ := h
    simp [opFind]
  | (a, c, b) :: op, j + 1, s, l, hn, h => by
    simp only [List.map_cons, List.nodup_cons] at hn
    simp only [List.getElem?_cons_succ] at h
    have hne : k ≠ c := by
      rintro rfl
      exact hn.1 (List.mem_map.2 ⟨_, List.mem_of_getElem? h, rfl⟩)
    simp only [opFind, if_neg hne]
    exact opFind_at hn.2 h
theorem synced_step {cells : List DCell} {op : List (Nat × Int × List Sec)} {j s : Nat} {k : Int} {l : List Sec} (hn : (op.map (·.2.1)).Nodup) (h : op[j]? = some (s, k, l)) (h0 : 0 ≤ k) (h1 : k < cells.length) : synced (cells.set k.toNat ⟨lastS l, false⟩) (op.eraseIdx j) = synced cells op := by
  unfold synced
  rw [List.length_set]
  refine List.map_congr_left fun q hq => ?_
  rw [opFind_erase hn h]
  by_cases e : (q : Int) = k
  · subst e
    rw [if_pos rfl, opFind_at hn h]
    have : q < cells.length := by omega
    simp [this]
  · rw [if_neg e]
    have : k.toNat ≠ q := by omega
    simp [List.getElem?_set_ne this]
theorem synced_nil (cells : List DCell) : synced cells [] = cells := by
  unfold synced
  apply List.ext_getElem?
  intro q
  simp only [opFind, List.getElem?_map]
  by_cases h : q < cells.length
  · simp [h]
  · simp [h]
theorem opOK_erase {n : Nat} {op : List (Nat × Int × List Sec)} (h : opOK n op) (j : Nat) : opOK n (op.eraseIdx j) :=
  ⟨h.1.sublist ((List.eraseIdx_sublist ..).map _), fun e he => h.2 e (List.mem_of_mem_eraseIdx he)⟩
theorem nodup_erase_at {op : List Nat} {j x : Nat} (hn : op.Nodup) (h : op[j]? = some x) : x ∉ op.eraseIdx j := by
  induction op generalizing j with
  | nil => simp at h
  | cons a op ih =>
    cases j with
    | zero => simp at h; subst h; simpa using (List.nodup_cons.1 hn).1
    | succ j =>
      simp only [List.getElem?_cons_succ] at h
      simp only [List.eraseIdx_cons_succ, List.mem_cons, not_or]
      refine ⟨?_, ih (List.nodup_cons.1 hn).2 h⟩
      rintro rfl
      exact (List.nodup_cons.1 hn).1 (List.mem_of_getElem? h)

set_option maxRecDepth 10000 in
set_option maxHeartbeats 2000000 in
theorem dc_Sync (D : DM) (h : 0 ≤ D.steps ∧ D.steps ≤ 1000000000 ∧ -1 ≤ D.after) (h2 : D.after ≤ 9223372036854775807) (hsz : D.cells.length ≤ 1000000000) (hop : opOK D.cells.length D.op) : DCalls 42 [] D (pint D.sync.1) D.sync.2 := by
  refine dcalls_of_pw Tryd.func42 rfl rfl (by simp) (by simp) (Nat.le_of_ble_eq_true rfl) (.val _) ?_
  have hck := dc_check D 0 1000001 1000002 1000003 (by decide)
  have hst := dc_step D h h2 1000001 1000002 1000003 (by decide)
  by_cases h1 : D.check 0 = 0
  · obtain ⟨hd, hi0, hi1⟩ := check0 h1
    by_cases h3 : D.step.1 = 0
    · have hr : D.sync = (0, D.step.2.synced) := by unfold DM.sync; rw [if_pos h1, if_pos h3]
      rw [hr]
      have hsop : D.step.2.op = D.op := by unfold DM.step; split <;> rfl
      have hscl : D.step.2.cells = D.cells := by unfold DM.step; split <;> rfl
      generalize hD1 : D.step.2 = D1 at hst hsop hscl ⊢
      rw [← hsop, ← hscl] at hop
      rw [← hscl] at hi1 hsz
      refine wk ?_
      refine PWops.rng rfl rfl rfl rfl rfl rfl rfl rfl ?_
      refine wk ?_
      refine PW.stamps (id := 1000003) rfl (fun hs => ?_)
      refine PW.loop (fun p : DM × List Nat => ((((((bot.setb 1000001 (dB 1000002 1000003 p.1)).setb 1000002 (dC p.1)).setm 1000003 (dM p.1)).setm 6004 (.iter 1000003 D1.clock p.2 D1.clock)).put 0 (.ptr 1000001 0)).put 2 (pint 0)).put 19 (.ptr 6004 0))
        (fun p => p.1.cells.length = D1.cells.length ∧ p.1.clock = D1.clock ∧ p.1.synced = D1.synced ∧ opOK D1.cells.length p.1.op ∧ (∀ e ∈ p.1.op, e.1 ∉ p.2) ∧ (p.1.op.map (·.1)).Nodup ∧ ∀ e ∈ p.1.op, e.1 < D1.clock) (fun p => p.1.op.length) (D1, []) ?_ ?_ ?_
      · refine ⟨rfl, rfl, rfl, hop, by simp, ?_, fun e he => ?_⟩
        · have := hs.1
          rw [List.map_map] at this; exact this
        · exact hs.2 _ (List.mem_map_of_mem he)
      · have hl := dC_low D1
        have hlm := dM_low D1
        exact sb
      · rintro ⟨⟨cells, op, clock, steps, after, dead⟩, seen⟩ ⟨i1, i2, i3, i4, i5, i6, i7⟩
        dsimp only at i1 i2 i3 i4 i5 i6 i7
        subst i2
        refine PW.seq ?_
        refine PWnext typeTab_ok (it := 6004) (mid := 1000003) (es := op.map dE) (clock := D1.clock) rfl rfl rfl (by decide) rfl ?_ ?_ ?_
        · cases hsn : op with
          | nil => exact .inr (.inl rfl)
          | cons e r =>
            refine .inr (.inr ⟨dE e, by simp, ?_⟩)
            exact i7 e (by rw [hsn]; simp)
        · intro hno
          have hn0 : op = [] := by
            cases hsn : op with
            | nil => rfl
            | cons e r =>
              exfalso
              have hm : e ∈ op := by rw [hsn]; simp
              exact i5 e hm (hno (dE e) (List.mem_map_of_mem hm) (i7 e hm))
          refine wk ?_
          have hD : D1.synced = ⟨cells, [], D1.clock, steps, after, dead⟩ := by
            rw [← i3, hn0]
            unfold DM.synced
            simp only [synced_nil]
          rw [hD]
          exact RetH.mk rfl (Weak.refl _) ⟨⟨_, rfl, WeakL.refl _⟩, ⟨_, rfl, WeakL.refl _⟩, trivial⟩ ⟨⟨rfl, by subst hn0; rfl⟩, trivial⟩
        · intro e' he' hns
          obtain ⟨e, he, rfl⟩ := List.mem_map.1 he'
          obtain ⟨j, hj⟩ := List.getElem?_of_mem he
          obtain ⟨q1, q2, q3, q4⟩ := i4.2 e he
          have hfs := find_stamp (es := op.map dE) (e := dE e) (by rw [List.map_map]; exact i6) he'
          have hix : opIdx e.2.1 op 0 = some j := by rw [opIdx_mem i4.1 hj, Nat.zero_add]
          have hll : (e.2.2 : List Sec).length ≤ 1000000000 := q4
          refine wk ?_
          refine PWops.ent (seen := seen) (s := e.1) rfl rfl rfl rfl rfl rfl rfl hfs rfl ?_
          refine wk ?_
          refine PWops.bldA (cs := secL (lastS e.2.2)) (out := dcellL ⟨lastS e.2.2, false⟩) rfl rfl rfl rfl rfl rfl rfl rfl (secL_len _) rfl (secL_one _) (secL_bare _) (splice_sec _ _) ?_
          refine wk ?_
          refine PWops.stBR (v := ⟨lastS e.2.2, false⟩) rfl rfl rfl rfl rfl (by exact dcellL_cells ⟨lastS e.2.2, false⟩) rfl rfl rfl dcellL_len (by (first | omega | (dsimp only ; omega))) rfl ?_
          refine wk ?_
          have hdel : mdel ⟨1, false, .int .i64, [.val (.int .i64 0)], []⟩ (op.map dE) D1.clock (.int .i64 e.2.1) = some (.map ((op.eraseIdx j).map dE) D1.clock) := by
            unfold mdel
            simp only [keyOK, skT, decide_true, if_true]
            rw [opIdx_find, hix]
            simp only [erase_map]
          refine PWops.mdel rfl rfl rfl rfl rfl rfl rfl rfl rfl rfl hdel ?_
          refine wk ?_
          refine loopP (⟨cells.set e.2.1.toNat ⟨lastS e.2.2, false⟩, op.eraseIdx j, D1.clock, steps, after, dead⟩, seen ++ [e.1]) ⟨?_, rfl, ?_, opOK_erase i4 j, ?_, ?_, ?_⟩ ?_ ?_
          · show (cells.set _ _).length = _
            rw [List.length_set]; exact i1
          · rw [← i3]
            unfold DM.synced
            simp only [synced_step i4.1 hj q1 (by rw [i1]; exact q2)]
          · intro x hx
            have hx' := List.mem_of_mem_eraseIdx hx
            rw [List.mem_append, List.mem_singleton, not_or]
            refine ⟨i5 x hx', fun e1 => ?_⟩
            have h5 : (op.map (·.1))[j]? = some e.1 := by rw [List.getElem?_map, hj]; rfl
            have h6 := nodup_erase_at i6 h5
            rw [erase_map] at h6
            exact h6 (by rw [← e1]; exact List.mem_map_of_mem hx)
          · show ((op.eraseIdx j).map _).Nodup
            exact i6.sublist ((List.eraseIdx_sublist ..).map _)
          · exact fun x hx => i7 x (List.mem_of_mem_eraseIdx hx)
          · show (op.eraseIdx j).length < op.length
            have := (List.getElem?_eq_some_iff.1 hj).1
            rw [List.length_eraseIdx]
            split <;> omega
          · have hdB : dB 1000002 1000003 ⟨cells.set e.2.1.toNat ⟨lastS e.2.2, false⟩, op.eraseIdx j, D1.clock, steps, after, dead⟩ = dB 1000002 1000003 ⟨cells, op, D1.clock, steps, after, dead⟩ := by simp [dB]
            have hl := dC_low ⟨cells.set e.2.1.toNat ⟨lastS e.2.2, false⟩, op.eraseIdx j, D1.clock, steps, after, dead⟩
            have hlm := dM_low ⟨cells.set e.2.1.toNat ⟨lastS e.2.2, false⟩, op.eraseIdx j, D1.clock, steps, after, dead⟩
            dsimp only
            rw [hdB]
            exact sb
    · have hr : D.sync = D.step := by unfold DM.sync; rw [if_pos h1, if_neg h3]
      rw [hr]
      refine wk ?_
      exact RetH.mk rfl (Weak.refl _) ⟨⟨_, rfl, WeakL.refl _⟩, ⟨_, rfl, WeakL.refl _⟩, trivial⟩ ⟨⟨rfl, rfl⟩, trivial⟩
  · have hr : D.sync = (D.check 0, D) := by unfold DM.sync; rw [if_neg h1]
    rw [hr]
    refine wk ?_
    exact RetH.mk rfl (Weak.refl _) ⟨⟨_, rfl, WeakL.refl _⟩, ⟨_, rfl, WeakL.refl _⟩, trivial⟩ ⟨⟨rfl, rfl⟩, trivial⟩
end Go.Proofs.YtilcpcpmkklobaaDoor

/- The disk: New. -/
namespace Go.Proofs.YtilcpcpmkklobaaDoor
set_option linter.unusedSimpArgs false
set_option linter.unusedVariables false
set_option linter.unnecessarySimpa false
open Go.RowKit

section
variable {P : Program} {T : Tab} {σ : PS} {o : Oper} {i base : Nat} {ops : Array Oper} {ok : Nat → Nat → Bool} {rest : List (Nat × Oper)} {K : PS → Prop}
/-- A new slice of a length that is not written out. -/
theorem PWops.mkS {d e k by_ : Nat} {x : Int} {kx ky : IntKind} {out zr : List PV} {X Y : Operand} {t : TypeId} {ti : TyI} (hg : pguard ops σ o = some true) (hd : o.dst = some d) (hop : o.op = .makeSlice t X Y) (hx : pev σ X = .val (.int kx x)) (hy : pev σ Y = .val (.int ky x)) (ht : T.at t = some ti) (hk : ti.kind = .slice e k by_ zr) (hb : σ.freeB (base + i) = true) (hc : 0 ≤ x ∧ (by_ : Int) * x ≤ 281474976710656 ∧ x ≤ 9223372036854775807) (hout : (List.replicate x.toNat zr).flatten = out)
    (kn : PWops P T ops base ok rest K ((σ.setb (base + i) out).put d (.msl (base + i) 0 x.toNat k))) : PWops P T ops base ok ((i, o) :: rest) K σ := by
  refine PWops.step hg (E := ⟨.msl (base + i) 0 x.toNat k, [(base + i, out)], none, []⟩) ?_ hb (by rw [hd]; exact kn)
  have h1 : (σ.only (ok i)).b (base + i) = none ∧ (σ.only (ok i)).m (base + i) = none := by
    obtain ⟨q1, q2⟩ := PS.freeB_spec hb
    simp only [PS.only, q1, q2]
    constructor <;> split <;> rfl
  have h2 : 0 ≤ x ∧ x = x ∧ (by_ : Int) * x ≤ 281474976710656 ∧ x ≤ 9223372036854775807 := ⟨hc.1, rfl, hc.2.1, hc.2.2⟩
  have h3 : pmake k by_ zr x x = some (x.toNat, out) := by unfold pmake; rw [if_pos h2, hout]
  simp only [hop, presE, ht, pev_only, hx, hy, h1.1, h1.2, hk, h3]
/-- A new map. -/
theorem PWops.mkM {d : Nat} {t : TypeId} (hg : pguard ops σ o = some true) (hd : o.dst = some d) (hop : o.op = .makeMap t none) (hb : σ.freeB (base + i) = true)
    (kn : PWops P T ops base ok rest K ((σ.setm (base + i) (.map [] 0)).put d (.mref (base + i)))) : PWops P T ops base ok ((i, o) :: rest) K σ := by
  refine PWops.stepM hg (E := ⟨.mref (base + i), [], none, [(base + i, .map [] 0)]⟩) ?_ hb (by rw [hd]; exact kn)
  have h1 : (σ.only (ok i)).b (base + i) = none ∧ (σ.only (ok i)).m (base + i) = none := by
    obtain ⟨q1, q2⟩ := PS.freeB_spec hb
    simp only [PS.only, q1, q2]
    constructor <;> split <;> rfl
  simp only [hop, presM, h1.1, h1.2]
end

def newD (n : Nat) : DM := ⟨List.replicate n ⟨zeroSec, false⟩, [], 0, 0, -1, false⟩
theorem newD_cells (n : Nat) : (List.replicate n (List.replicate 64 (.val (.int .u8 0)) ++ [pbool false])).flatten = dC (newD n) := by
  unfold dC newD
  have : (List.replicate 64 (.val (.int .u8 0)) ++ [pbool false] : List PV) = dcellL ⟨zeroSec, false⟩ := rfl
  rw [this]
  generalize (⟨zeroSec, false⟩ : DCell) = z
  show _ = (List.replicate n z).flatMap dcellL
  induction n with
  | zero => rfl
  | succ n ih => rw [List.replicate_succ, List.replicate_succ, List.flatten_cons, List.flatMap_cons, ih]

set_option maxRecDepth 10000 in
set_option maxHeartbeats 1000000 in
theorem dc_New0 (n : Int) (h : n < 1 ∨ 65536 < n) : HCalls Tryd.prog 10 [pint n] [] [] (.val (.pointer none)) [] [] := by
  refine hcalls_of_pw typeTab_ok Tryd.func10 rfl rfl (by simp [pint, PV.ownB]) (Nat.le_of_ble_eq_true rfl) (by simp [ResIds]) (by simp [ResIds]) ⟨by intro p hp; simp at hp; subst hp; exact .val _, by simp, by simp, .val _, by simp, by simp, by simp, by simp⟩ ?_
  by_cases h1 : n < 1
  · refine wk ?_
    exact ⟨_, rfl, Weak.refl _, trivial, trivial⟩
  · have h2 : 65536 < n := by omega
    refine wk ?_
    exact ⟨_, rfl, Weak.refl _, trivial, trivial⟩

set_option maxRecDepth 10000 in
set_option maxHeartbeats 1000000 in
theorem dc_New1 (n : Int) (h : 1 ≤ n ∧ n ≤ 65536) : HCalls Tryd.prog 10 [pint n] [] [] (.ptr 3004 0) (dG 3004 3001 3002 (newD n.toNat)) (dMs 3002 (newD n.toNat)) := by
  refine hcalls_of_pw typeTab_ok Tryd.func10 rfl rfl (by simp [pint, PV.ownB]) (Nat.le_of_ble_eq_true rfl) (by simp [ResIds]) (by simp [ResIds]) ⟨by intro p hp; simp at hp; subst hp; exact .val _, by simp, by simp, .ptr _ _ (by simp [ResIds, dG]), fun x hx => ?_, fun x hx => ?_, by simp, by simp⟩ ?_
  · simp only [dG, List.mem_cons, List.not_mem_nil, or_false] at hx
    rcases hx with rfl | rfl
    · exact dB_lowI (by simp [ResIds, dG]) (by simp [ResIds, dMs]) _
    · exact fun p hp => (dC_low _ p hp).lowI
  · simp only [dMs, List.mem_cons, List.not_mem_nil, or_false] at hx
    subst hx
    exact fun e he => ⟨(dM_low _ e he).1.lowI, (dM_low _ e he).2.lowI⟩
  refine wk ?_
  refine PWops.mkS (out := dC (newD n.toNat)) rfl rfl rfl rfl rfl rfl rfl rfl ?_ (newD_cells _) ?_
  · refine ⟨by omega, ?_, by omega⟩
    omega
  refine wk ?_
  refine PWops.mkM rfl rfl rfl rfl ?_
  refine wk ?_
  exact RetH.mk rfl (Weak.refl _) ⟨⟨_, rfl, WeakL.eq (by simp [dB, newD]; exact ⟨rfl, rfl, rfl⟩)⟩, ⟨_, rfl, WeakL.refl _⟩, trivial⟩ ⟨⟨rfl, rfl⟩, trivial⟩

def newIds (d c m i : Nat) : Nat := if i = 3004 then d else if i = 3001 then c else if i = 3002 then m else i
theorem dc_New (n : Int) (h : 1 ≤ n ∧ n ≤ 65536) (d c m : Nat) (hnd : (ids3 d c m).Nodup) : HCalls Tryd.prog 10 [pint n] [] [] (.ptr d 0) (dG d c m (newD n.toNat)) (dMs m (newD n.toNat)) := by
  have r3 : ResIds (dG 3004 3001 3002 (newD n.toNat)) (dMs 3002 (newD n.toNat)) = [3004, 3001, 3002] := rfl
  refine (dc_New1 n h).ren (newIds d c m) (by simp) (by simp) ?_ (.cons (.low _ (.val _)) .nil) .nil .nil (.ptr 3004 0 (by rw [r3]; decide)) (.cons 3004 _ _ _ _ (.cons (.msl 3001 0 _ _ (by rw [r3]; decide)) (.cons (.mref 3002 (by rw [r3]; decide)) (.cons (.low _ (.val _)) (.cons (.low _ (.val _)) (.cons (.low _ (.val _)) .nil))))) (.cons 3001 _ _ _ _ (.low (dC_low _)) .nil)) (.cons 3002 _ _ _ _ (.low (dM_low _)) .nil)
  rw [r3]
  simp only [ids3, List.nodup_cons, List.mem_cons, List.not_mem_nil, or_false, not_or, List.nodup_nil, and_true, not_false_eq_true] at hnd
  obtain ⟨⟨n1, n2⟩, n3⟩ := hnd
  intro i hi j hj e
  simp only [List.mem_cons, List.not_mem_nil, or_false] at hi hj
  rcases hi with rfl | rfl | rfl <;> rcases hj with rfl | rfl | rfl <;> simp [newIds] at e ⊢ <;> first | exact absurd e n1 | exact absurd e n2 | exact absurd e n3 | exact absurd e.symm n1 | exact absurd e.symm n2 | exact absurd e.symm n3
end Go.Proofs.YtilcpcpmkklobaaDoor

/- The disk that does not fail: what is read after writes, syncs, rot. -/
namespace Go.Proofs.YtilcpcpmkklobaaDoor
set_option linter.unusedSimpArgs false
set_option linter.unusedVariables false
set_option linter.unnecessarySimpa false
open Go.RowKit

/-- A disk of n sectors that is up and is not armed. -/
structure OkD (n : Nat) (k : Nat) (D : DM) : Prop where
  dead : D.dead = false
  after : D.after = -1
  len : D.cells.length = n
  steps : 0 ≤ D.steps ∧ D.steps ≤ k
  op : opOK n D.op
  room : ∀ e ∈ D.op, e.2.2.length ≤ k
theorem OkD.mono {n k k' : Nat} {D : DM} (h : OkD n k D) (hk : k ≤ k') : OkD n k' D := ⟨h.dead, h.after, h.len, by have := h.steps; omega, h.op, fun e he => by have := h.room e he; omega⟩
theorem OkD.check {n k : Nat} {D : DM} (h : OkD n k D) (i : Int) : D.check i = if i < 0 ∨ (n : Int) ≤ i then 1 else 0 := by
  unfold DM.check
  rw [h.dead, h.len]; rfl
theorem OkD.check0 {n k : Nat} {D : DM} (h : OkD n k D) {i : Int} (h0 : 0 ≤ i) (h1 : i < n) : D.check i = 0 := by rw [h.check, if_neg (by omega)]
theorem OkD.step {n k : Nat} {D : DM} (h : OkD n k D) : D.step = (0, { D with steps := D.steps + 1 }) := by
  unfold DM.step
  rw [h.after]
  simp
theorem opIdx_none {i : Int} : ∀ {op : List (Nat × Int × List Sec)} {n : Nat}, opIdx i op n = none → i ∉ op.map (·.2.1)
  | [], n, h => by simp
  | (a, k, b) :: op, n, h => by
    simp only [opIdx] at h
    split at h
    · cases h
    · rename_i hne
      simp only [List.map_cons, List.mem_cons, not_or]
      exact ⟨hne, opIdx_none h⟩
theorem opFind_idx {i : Int} : ∀ (op : List (Nat × Int × List Sec)) (n : Nat), opFind i op = match opIdx i op n with
    | some j => some (op.getD (j - n) default).2.2
    | none => none
  | [], n => rfl
  | (a, k, b) :: op, n => by
    simp only [opFind, opIdx]
    by_cases h : i = k
    · simp [h]
    · rw [if_neg h, if_neg h, opFind_idx op (n + 1)]
      cases hj : opIdx i op (n + 1) with
      | none => rfl
      | some j =>
        have := (opIdx_lt hj).1
        simp only
        rw [show j - n = (j - (n + 1)) + 1 by omega]; rfl
theorem get_find (D : DM) (i : Int) : D.get i = (opFind i D.op).getD [] := by
  rw [DM.get, opFind_idx D.op 0]
  cases opIdx i D.op 0 <;> rfl
theorem opFind_append {i : Int} : ∀ {op : List (Nat × Int × List Sec)} {e : Nat × Int × List Sec}, opFind i (op ++ [e]) = match opFind i op with
    | some l => some l
    | none => if i = e.2.1 then some e.2.2 else none
  | [], (a, k, b) => rfl
  | (a, k, b) :: op, e => by
    simp only [List.cons_append, opFind]
    split
    · rfl
    · exact opFind_append
theorem opFind_set {i c : Int} : ∀ {op : List (Nat × Int × List Sec)} {j s : Nat} {l l' : List Sec}, (op.map (·.2.1)).Nodup → op[j]? = some (s, c, l) → opFind i (op.set j (s, c, l')) = if i = c then some l' else opFind i op
  | [], j, s, l, l', hn, h => by simp at h
  | (a, k, b) :: op, 0, s, l, l', hn, h => by
    simp at h
    obtain ⟨rfl, rfl, rfl⟩ := h
    simp only [List.set_cons_zero, opFind]
    split <;> rfl
  | (a, k, b) :: op, j + 1, s, l, l', hn, h => by
    simp only [List.map_cons, List.nodup_cons] at hn
    simp only [List.getElem?_cons_succ] at h
    have hne : c ≠ k := by
      rintro rfl
      exact hn.1 (List.mem_map.2 ⟨_, List.mem_of_getElem? h, rfl⟩)
    simp only [List.set_cons_succ, opFind, opFind_set hn.2 h]
    by_cases e : i = k
    · subst e; rw [if_pos rfl, if_neg (fun e => hne e.symm), if_pos rfl]
    · rw [if_neg e, if_neg e]
/-- The open writes behind a write. -/
theorem get_addW {n k : Nat} {D : DM} (h : OkD n k D) (i : Int) (s : Sec) (q : Int) : (addW D i s).get q = if q = i then D.get i ++ [s] else D.get q := by
  rw [get_find, get_find, get_find]
  unfold addW
  cases hj : opIdx i D.op 0 with
  | none =>
    simp only
    rw [opFind_append, opFind_none (opIdx_none hj)]
    by_cases e : q = i
    · subst e; rw [opFind_none (opIdx_none hj)]; simp
    · simp only [if_neg e]
      cases opFind q D.op <;> rfl
  | some j =>
    obtain ⟨-, h2, s', v, h3⟩ := opIdx_lt hj
    simp only [Nat.sub_zero] at h3
    simp only [List.getD_eq_getElem?_getD, h3, Option.getD_some]
    rw [opFind_set h.op.1 h3, opFind_at h.op.1 h3]
    by_cases e : q = i
    · subst e; simp
    · simp [e]
theorem addW_cells (D : DM) (i : Int) (s : Sec) : (addW D i s).cells = D.cells ∧ (addW D i s).steps = D.steps ∧ (addW D i s).after = D.after ∧ (addW D i s).dead = D.dead := by
  unfold addW; split <;> exact ⟨rfl, rfl, rfl, rfl⟩
theorem addW_op {n k : Nat} {D : DM} (h : OkD n k D) {i : Int} (h0 : 0 ≤ i) (h1 : i < n) (hk : k < 1000000000) (s : Sec) : opOK n (addW D i s).op ∧ ∀ e ∈ (addW D i s).op, e.2.2.length ≤ k + 1 := by
  unfold addW
  cases hj : opIdx i D.op 0 with
  | none =>
    refine ⟨⟨?_, ?_⟩, ?_⟩
    · simp only [List.map_append, List.map_cons, List.map_nil, List.nodup_append, List.nodup_cons, List.not_mem_nil, not_false_eq_true, List.nodup_nil, and_true, List.mem_cons, or_false, true_and]
      refine ⟨h.op.1, fun a ha b hb => ?_⟩
      subst hb
      rintro rfl
      exact opIdx_none hj ha
    · intro e he
      rcases List.mem_append.1 he with he | he
      · exact h.op.2 e he
      · simp at he; subst he; exact ⟨h0, h1, by simp, by simp⟩
    · intro e he
      rcases List.mem_append.1 he with he | he
      · have := h.room e he; omega
      · simp at he; subst he; simp
  | some j =>
    obtain ⟨-, h2, s', v, h3⟩ := opIdx_lt hj
    simp only [Nat.sub_zero] at h3
    have hm := List.mem_of_getElem? h3
    have hb := h.op.2 _ hm
    have hr := h.room _ hm
    simp only at hb hr
    simp only [List.getD_eq_getElem?_getD, h3, Option.getD_some]
    refine ⟨⟨?_, ?_⟩, ?_⟩
    · have : (D.op.set j (s', i, v ++ [s])).map (·.2.1) = D.op.map (·.2.1) := by
        rw [List.map_set]
        apply List.ext_getElem?
        intro q
        rw [List.getElem?_set]
        split
        · rename_i e; subst e; rw [List.getElem?_map, h3]; simp [(List.getElem?_eq_some_iff.1 h3).1]
        · rfl
      rw [this]; exact h.op.1
    · intro e he
      rcases List.mem_or_eq_of_mem_set he with he | rfl
      · exact h.op.2 e he
      · exact ⟨h0, h1, by simp, by simp; omega⟩
    · intro e he
      rcases List.mem_or_eq_of_mem_set he with he | rfl
      · have := h.room e he; omega
      · simp; omega

/-- A write. -/
theorem OkD.write {n k : Nat} {D : DM} (h : OkD n k D) {i : Int} (h0 : 0 ≤ i) (h1 : i < n) (hk : k < 1000000000) (s : Sec) : (D.write i s).1 = 0 ∧ OkD n (k + 1) (D.write i s).2 ∧ (D.write i s).2.steps = D.steps + 1 := by
  have hs : OkD n k { D with steps := D.steps } := h
  have e : D.write i s = (0, addW { D with steps := D.steps + 1 } i s) := by
    rw [DM.write, if_pos (h.check0 h0 h1), h.step]; rfl
  rw [e]
  have hg : ∀ t, addW { D with steps := t } i s = { addW D i s with steps := t } := by
    intro t
    unfold addW
    simp only
    split <;> rfl
  rw [hg]
  obtain ⟨c1, c2, c3, c4⟩ := addW_cells D i s
  obtain ⟨o1, o2⟩ := addW_op h h0 h1 hk s
  have := h.steps
  exact ⟨rfl, ⟨c4.trans h.dead, c3.trans h.after, by rw [← h.len]; exact congrArg List.length c1, by simp only; omega, o1, o2⟩, rfl⟩

/-- What is read of a sector. -/
theorem OkD.read {n k : Nat} {D : DM} (h : OkD n k D) {q : Int} (h0 : 0 ≤ q) (h1 : q < n) : D.read q = if 0 < (D.get q).length then (lastS (D.get q), 0) else if (D.cell q).bad then (zeroSec, 221) else ((D.cell q).s, 0) := by
  rw [DM.read, if_pos (h.check0 h0 h1)]
theorem lastS_snoc (l : List Sec) (s : Sec) : lastS (l ++ [s]) = s := by
  unfold lastS
  rw [show ((((l ++ [s]).length : Nat) : Int) - 1).toNat = l.length by simp]
  simp [List.getD_eq_getElem?_getD]
theorem OkD.read_write {n k : Nat} {D : DM} (h : OkD n k D) {i : Int} (h0 : 0 ≤ i) (h1 : i < n) (hk : k < 1000000000) (s : Sec) {q : Int} (q0 : 0 ≤ q) (q1 : q < n) : (D.write i s).2.read q = if q = i then (s, 0) else D.read q := by
  have hw := h.write h0 h1 hk s
  rw [hw.2.1.read q0 q1, h.read q0 q1]
  have e : D.write i s = (0, addW { D with steps := D.steps + 1 } i s) := by
    rw [DM.write, if_pos (h.check0 h0 h1), h.step]; rfl
  have hg : ∀ t, addW { D with steps := t } i s = { addW D i s with steps := t } := by
    intro t
    unfold addW
    simp only
    split <;> rfl
  have g1 : (D.write i s).2.get q = if q = i then D.get i ++ [s] else D.get q := by
    rw [e]; simp only; rw [hg]; exact get_addW h i s q
  have g2 : (D.write i s).2.cell q = D.cell q := by
    rw [e]; simp only; rw [hg]; unfold DM.cell; rw [← (addW_cells D i s).1]
  rw [g1, g2]
  by_cases hq : q = i
  · rw [if_pos hq, if_pos hq, if_pos (by simp), lastS_snoc]
  · rw [if_neg hq, if_neg hq]

/-- A sync. -/
theorem OkD.sync {n k : Nat} {D : DM} (h : OkD n k D) (hn : 0 < n) : D.sync = (0, { D with steps := D.steps + 1, cells := synced D.cells D.op, op := [] }) := by
  rw [DM.sync, if_pos (h.check0 (by omega) (by omega)), h.step]; rfl
theorem synced_len (cells : List DCell) (op : List (Nat × Int × List Sec)) : (synced cells op).length = cells.length := by simp [synced]
theorem OkD.sync_ok {n k : Nat} {D : DM} (h : OkD n k D) (hn : 0 < n) : D.sync.1 = 0 ∧ OkD n (k + 1) D.sync.2 ∧ D.sync.2.steps = D.steps + 1 ∧ D.sync.2.op = [] := by
  rw [h.sync hn]
  have := h.steps
  exact ⟨rfl, ⟨h.dead, h.after, by simp only [synced_len]; exact h.len, by simp only; omega, ⟨by simp, by simp⟩, by simp⟩, rfl, rfl⟩
theorem OkD.read_sync {n k : Nat} {D : DM} (h : OkD n k D) (hn : 0 < n) {q : Int} (q0 : 0 ≤ q) (q1 : q < n) : D.sync.2.read q = D.read q := by
  rw [(h.sync_ok hn).2.1.read q0 q1, h.read q0 q1, h.sync hn]
  have g1 : ({ D with steps := D.steps + 1, cells := synced D.cells D.op, op := [] } : DM).get q = [] := by rw [get_find]; rfl
  rw [g1, if_neg (by simp), get_find]
  have hc : ({ D with steps := D.steps + 1, cells := synced D.cells D.op, op := [] } : DM).cell q = match opFind q D.op with
      | some l => ⟨lastS l, false⟩
      | none => D.cell q := by
    unfold DM.cell synced
    have hl : q.toNat < D.cells.length := by rw [h.len]; omega
    simp only [List.getD_eq_getElem?_getD, List.getElem?_map, List.getElem?_range hl, Option.map_some, Option.getD_some]
    rw [Int.toNat_of_nonneg q0]
    all_goals (cases opFind q D.op <;> rfl)
  rw [hc]
  cases hf : opFind q D.op with
  | none => rfl
  | some l =>
    have hl : 0 < l.length := by
      rw [opFind_idx D.op 0] at hf
      cases hj : opIdx q D.op 0 with
      | none => rw [hj] at hf; cases hf
      | some j =>
        rw [hj] at hf
        obtain ⟨-, h2, s', v, h3⟩ := opIdx_lt hj
        simp only [Nat.sub_zero, List.getD_eq_getElem?_getD] at h3 hf
        rw [h3] at hf
        simp at hf
        subst hf
        exact (h.op.2 _ (List.mem_of_getElem? h3)).2.2.1
    simp [hl]
/-- Rot, where nothing is open. -/
theorem OkD.rot {n k : Nat} {D : DM} (h : OkD n k D) (i : Int) : OkD n k (D.rot i) ∧ (D.rot i).op = D.op ∧ (D.rot i).steps = D.steps := by
  unfold DM.rot
  split
  · exact ⟨⟨h.dead, h.after, by simp only [DM.setc, List.length_set]; exact h.len, h.steps, h.op, h.room⟩, rfl, rfl⟩
  · exact ⟨h, rfl, rfl⟩
theorem OkD.read_rot {n k : Nat} {D : DM} (h : OkD n k D) (ho : D.op = []) {i : Int} (h0 : 0 ≤ i) (h1 : i < n) {q : Int} (q0 : 0 ≤ q) (q1 : q < n) : (D.rot i).read q = if q = i then (zeroSec, 221) else D.read q := by
  obtain ⟨r1, r2, -⟩ := h.rot i
  have g : ∀ E : DM, E.op = [] → E.get q = [] := fun E hE => by rw [get_find, hE]; rfl
  rw [r1.read q0 q1, h.read q0 q1, g _ (r2.trans ho), g _ ho]
  simp only [List.length_nil, Nat.lt_irrefl, if_false]
  have hc : (D.rot i).cell q = if q = i then ⟨zeroSec, true⟩ else D.cell q := by
    unfold DM.rot DM.cell
    rw [if_pos (h.check0 h0 h1)]
    unfold DM.setc
    simp only [List.getD_eq_getElem?_getD, List.getElem?_set]
    have hl := h.len
    by_cases e : q = i
    · subst e; rw [if_pos rfl, if_pos rfl, if_pos (by omega)]; rfl
    · rw [if_neg e, if_neg (by omega)]
  rw [hc]
  by_cases e : q = i
  · rw [if_pos e, if_pos e]; rfl
  · rw [if_neg e, if_neg e]
theorem newD_ok (n : Nat) : OkD n 0 (newD n) := ⟨rfl, rfl, by simp [newD], by simp [newD], ⟨by simp [newD], by simp [newD]⟩, by simp [newD]⟩
end Go.Proofs.YtilcpcpmkklobaaDoor

/- The disk: found. -/
namespace Go.Proofs.YtilcpcpmkklobaaDoor
set_option linter.unusedSimpArgs false
set_option linter.unusedVariables false
set_option linter.unnecessarySimpa false
open Go.RowKit

section
variable {P : Program} {T : Tab} {σ : PS} {o : Oper} {i base : Nat} {ops : Array Oper} {ok : Nat → Nat → Bool} {rest : List (Nat × Oper)} {K : PS → Prop}
/-- What remains. -/
theorem PWops.remY {d : Nat} {k : IntKind} {x y z : Int} {X Y : Operand} {t yt : TypeId} (hg : pguard ops σ o = some true) (hd : o.dst = some d) (hop : o.op = .binOp .rem t X Y yt) (hx : pev σ X = .val (.int k x)) (hy : pev σ Y = .val (.int k y)) (hb : σ.freeB (base + i) = true) (h0 : y ≠ 0) (hz : x.tmod y = z) (kn : PWops P T ops base ok rest K (σ.put d (.val (.int k z)))) : PWops P T ops base ok ((i, o) :: rest) K σ := by
  refine PWops.valEq hg hd (p := .val (.int k z)) ?_ rfl hb kn
  rw [← hz]
  simp [hop, presE, pvalA, pval, pev_only, hx, hy, pbin, h0]
end
theorem dcellL_sec (c : DCell) : ((dcellL c).drop 0).take 64 = secL c.s := by
  rw [List.drop_zero, dcellL, List.take_append_of_le_length (by rw [secL_len]; exact Nat.le_refl _), List.take_of_length_le (by rw [secL_len]; exact Nat.le_refl _)]
theorem retP2 {T : Tab} {σ : PS} {rs : List ResultVar} {post : PV → Prop} {r : PV} (h1 : presult T σ rs = some r) (h2 : Low r) (h3 : post r) : RetP T rs post .ret σ := ⟨r, h1, h2, h3⟩
theorem tmod_lo (x n : Int) (h : 0 < n) : -n < x.tmod n ∧ x.tmod n < n ∧ (x.tmod n + n).tmod n = x % n := by
  have h1 := Int.tmod_lt_of_pos x h
  have h2 := Int.lt_tmod_of_pos x h
  refine ⟨h2, h1, ?_⟩
  rw [Int.tmod_eq_emod_of_nonneg (by omega), Int.add_emod_right]
  rw [Int.tmod_def, Int.sub_mul_emod_self_left]

/-- What is found of a sector with open writes. -/
def mixS (a b : Sec) : Sec := ⟨a.1.take 32 ++ b.1.drop 32, by simp [a.2.1, b.2.1], fun x hx => by
  rcases List.mem_append.1 hx with h | h
  · exact a.2.2 x (List.mem_of_mem_take h)
  · exact b.2.2 x (List.mem_of_mem_drop h)⟩
def beforeS (c : DCell) (l : List Sec) : Sec := if 1 < l.length then l.getD (l.length - 2) default else c.s
def foundR (l : List Sec) (x : Int) : Int := x % (l.length + 3)
def found (c : DCell) (l : List Sec) (x : Int) : DCell :=
  if foundR l x = 0 then c
  else if foundR l x ≤ l.length then ⟨l.getD (foundR l x - 1).toNat default, false⟩
  else if foundR l x = l.length + 1 then ⟨zeroSec, true⟩
  else if (beforeS c l).1 = (lastS l).1 then ⟨lastS l, false⟩ else ⟨mixS (lastS l) (beforeS c l), false⟩

theorem secL_half (b : Sec) : (((secL b).drop 32).take 32).map PV.bare = (secL b).drop 32 := by
  rw [List.take_of_length_le (by rw [List.length_drop, secL_len]; exact Nat.le_refl _), List.map_drop, secL_bare]
theorem copy_half {m : Nat → Option (List PV)} {id : Nat} (b : Sec) (h : m id = some (secL b) := by rfl) : copySrc m 1 (.msl id 32 32 1) = some (32, (secL b).drop 32) := by
  have h1 : 32 + 32 * 1 ≤ (secL b).length := by rw [secL_len]; decide
  show (if (1 : Nat) = 1 then _ else none) = _
  rw [if_pos rfl, h]
  show (if 32 + 32 * 1 ≤ (secL b).length then some (32, (((secL b).drop 32).take (32 * 1)).map PV.bare) else none) = _
  rw [if_pos h1, secL_half]
theorem splice_half (a b : Sec) : splice (secL a) 32 (((secL b).drop 32).take 32) = secL (mixS a b) := by
  rw [List.take_of_length_le (by rw [List.length_drop, secL_len]; exact Nat.le_refl _)]
  have h1 : (secL a).drop (32 + ((secL b).drop 32).length) = [] := by
    refine List.drop_of_length_le ?_
    rw [List.length_drop, secL_len, secL_len]; decide
  unfold splice
  rw [h1, List.append_nil]
  simp only [secL, mixS, List.map_append, List.map_take, List.map_drop]

set_option maxRecDepth 10000 in
set_option maxHeartbeats 2000000 in
theorem pw_found (c : DCell) (l : List Sec) (x : Int) (hl : 0 < l.length ∧ l.length ≤ 1000000000) (hx : -9223372036854775808 ≤ x ∧ x ≤ 9223372036854775807) : PCalls Tryd.prog 37 [.agg (dcellL c), psecs l none, pint x] (· = .agg (dcellL (found c l x))) := by
  have hlow : Low (.agg (dcellL c)) := .agg _ (dcellL_low c)
  have hlow2 : Low (psecs l none) := psecs_low _ _
  refine pcalls_of_pw typeTab_ok Tryd.func37 rfl (by kernel_rfl) (by intro p hp; simp at hp; rcases hp with rfl | rfl | rfl; exact hlow; exact hlow2; exact .val _) (by simp [psecs, pint, PV.ownB]) (by rw [Tryd.ntmps37]; simp) ?_
  rw [Tryd.ntmps37, Tryd.results37]
  refine wk ?_
  obtain ⟨k1, k2, k3⟩ := tmod_lo x (l.length + 3) (by omega)
  generalize hr0 : x.tmod (l.length + 3) = r0 at k1 k2 k3
  refine PWops.remY (z := r0) rfl rfl rfl rfl rfl rfl (by show ((l.length : Int) + 3) ≠ 0; omega) hr0 ?_
  refine wk ?_
  have hfr : foundR l x = x % (l.length + 3) := rfl
  have hf : (r0 + l.length + 3) % ((l.length : Int) + 3) = foundR l x := by
    rw [hfr, ← k3, Int.tmod_eq_emod_of_nonneg (by omega)]; congr 1; omega
  rw [hf]
  have hf0 : 0 ≤ foundR l x ∧ foundR l x < l.length + 3 := by rw [hfr]; exact ⟨Int.emod_nonneg _ (by omega), Int.emod_lt_of_pos _ (by omega)⟩
  unfold found
  generalize foundR l x = r at hf0 ⊢
  by_cases c0 : r = 0
  · rw [if_pos c0]
    refine wk ?_
    exact retP2 (presult1 (pres_cell rfl rfl rfl (by (first | rfl | exact secL_len _ | exact dcellL_len _ | exact putL_len _ | exact len_map (by assumption) | exact len_map rfl)) (by (first | rfl | exact secL_bare _ | exact dcellL_bare _ | exact putL_bare _ | exact bare_map (fun _ => rfl) _)))) hlow rfl
  · rw [if_neg c0]
    by_cases c1 : r ≤ l.length
    · rw [if_pos c1]
      refine wk ?_
      refine PWops.bldA (cs := secL (l.getD (r - 1).toNat default)) (out := dcellL ⟨l.getD (r - 1).toNat default, false⟩) rfl rfl rfl rfl rfl rfl rfl rfl (secL_len _) rfl (secL_one _) (secL_bare _) (splice_sec _ _) ?_
      refine wk ?_
      exact retP2 (presult1 (pres_cell rfl rfl rfl (by (first | rfl | exact secL_len _ | exact dcellL_len _ | exact putL_len _ | exact len_map (by assumption) | exact len_map rfl)) (by (first | rfl | exact secL_bare _ | exact dcellL_bare _ | exact putL_bare _ | exact bare_map (fun _ => rfl) _)))) (.agg _ (dcellL_low _)) rfl
    · rw [if_neg c1]
      by_cases c2 : r = l.length + 1
      · rw [if_pos c2]
        refine wk ?_
        exact retP2 (presult1 (pres_cell (cs := dcellL ⟨zeroSec, true⟩) rfl rfl rfl (by (first | rfl | exact secL_len _ | exact dcellL_len _ | exact putL_len _ | exact len_map (by assumption) | exact len_map rfl)) (by (first | rfl | exact secL_bare _ | exact dcellL_bare _ | exact putL_bare _ | exact bare_map (fun _ => rfl) _)))) (.agg _ (dcellL_low _)) rfl
      · rw [if_neg c2]
        refine wk ?_
        refine PWops.ldBA (row := secL c.s) rfl rfl rfl rfl rfl rfl rfl ?_ (by rw [dcellL_sec, secL_bare]) ?_
        · show 0 + 0 + 64 ≤ (dcellL c).length
          rw [dcellL_len]; omega
        refine wk ?_
        have hlast : l.getD ((l.length : Int) - 1).toNat default = lastS l := rfl
        by_cases h1 : 1 < l.length
        · have hb : beforeS c l = l.getD ((l.length : Int) - 2).toNat default := by
            unfold beforeS; rw [if_pos h1]; congr 1; omega
          have hq := peqs_ints (k := .u8) (beforeS c l).1 (lastS l).1 (by rw [(beforeS c l).2.1, (lastS l).2.1])
          rw [hb] at hq ⊢
          refine wk ?_
          rw [(l.getD ((l.length : Int) - 2).toNat default).2.1] at hq
          refine PWops.eqA rfl rfl rfl rfl rfl rfl rfl rfl hq (.inl rfl) ?_
          by_cases he : (l.getD ((l.length : Int) - 2).toNat default).1 = (lastS l).1
          · rw [if_pos he]
            refine wk ?_
            refine PW.condT (by show PV.val (.bool ((l.getD ((l.length : Int) - 2).toNat default).1 == (lastS l).1)) = _; rw [he]; simp) ?_
            refine wk ?_
            refine PWops.bldA (cs := secL (lastS l)) (out := dcellL ⟨lastS l, false⟩) rfl rfl rfl rfl rfl rfl rfl rfl (secL_len _) rfl (secL_one _) (secL_bare _) (splice_sec _ _) ?_
            refine wk ?_
            exact retP2 (presult1 (pres_cell rfl rfl rfl (by (first | rfl | exact secL_len _ | exact dcellL_len _ | exact putL_len _ | exact len_map (by assumption) | exact len_map rfl)) (by (first | rfl | exact secL_bare _ | exact dcellL_bare _ | exact putL_bare _ | exact bare_map (fun _ => rfl) _)))) (.agg _ (dcellL_low _)) rfl
          · rw [if_neg he]
            refine wk ?_
            refine PW.condF (by show PV.val (.bool ((l.getD ((l.length : Int) - 2).toNat default).1 == (lastS l).1)) = _; rw [beq_eq_false_iff_ne.2 he]) ?_
            refine wk ?_
            refine PWops.copy (n2 := 32) (cs := (secL (l.getD ((l.length : Int) - 2).toNat default)).drop 32) (out := secL (mixS (lastS l) (l.getD ((l.length : Int) - 2).toNat default))) rfl rfl rfl rfl rfl ?_ rfl rfl rfl ?_ ?_ ?_ ?_
            · exact copy_half (l.getD ((l.length : Int) - 2).toNat default)
            · show 32 + min 32 32 * 1 ≤ (secL (lastS l)).length
              rw [secL_len]; decide
            · rw [List.length_drop, secL_len]; decide
            · exact splice_half (lastS l) (l.getD ((l.length : Int) - 2).toNat default)
            refine wk ?_
            refine PWops.bldA (cs := secL (mixS (lastS l) (l.getD ((l.length : Int) - 2).toNat default))) (out := dcellL ⟨mixS (lastS l) (l.getD ((l.length : Int) - 2).toNat default), false⟩) rfl rfl rfl rfl rfl rfl rfl rfl (secL_len _) rfl (secL_one _) (secL_bare _) (splice_sec _ _) ?_
            refine wk ?_
            exact retP2 (presult1 (pres_cell rfl rfl rfl (by (first | rfl | exact secL_len _ | exact dcellL_len _ | exact putL_len _ | exact len_map (by assumption) | exact len_map rfl)) (by (first | rfl | exact secL_bare _ | exact dcellL_bare _ | exact putL_bare _ | exact bare_map (fun _ => rfl) _)))) (.agg _ (dcellL_low _)) rfl
        · have hb : beforeS c l = c.s := by
            unfold beforeS; rw [if_neg h1]
          have hq := peqs_ints (k := .u8) (beforeS c l).1 (lastS l).1 (by rw [(beforeS c l).2.1, (lastS l).2.1])
          rw [hb] at hq ⊢
          refine wk ?_
          rw [c.s.2.1] at hq
          refine PWops.eqA rfl rfl rfl rfl rfl rfl rfl rfl hq (.inl rfl) ?_
          by_cases he : c.s.1 = (lastS l).1
          · rw [if_pos he]
            refine wk ?_
            refine PW.condT (by show PV.val (.bool (c.s.1 == (lastS l).1)) = _; rw [he]; simp) ?_
            refine wk ?_
            refine PWops.bldA (cs := secL (lastS l)) (out := dcellL ⟨lastS l, false⟩) rfl rfl rfl rfl rfl rfl rfl rfl (secL_len _) rfl (secL_one _) (secL_bare _) (splice_sec _ _) ?_
            refine wk ?_
            exact retP2 (presult1 (pres_cell rfl rfl rfl (by (first | rfl | exact secL_len _ | exact dcellL_len _ | exact putL_len _ | exact len_map (by assumption) | exact len_map rfl)) (by (first | rfl | exact secL_bare _ | exact dcellL_bare _ | exact putL_bare _ | exact bare_map (fun _ => rfl) _)))) (.agg _ (dcellL_low _)) rfl
          · rw [if_neg he]
            refine wk ?_
            refine PW.condF (by show PV.val (.bool (c.s.1 == (lastS l).1)) = _; rw [beq_eq_false_iff_ne.2 he]) ?_
            refine wk ?_
            refine PWops.copy (n2 := 32) (cs := (secL c.s).drop 32) (out := secL (mixS (lastS l) c.s)) rfl rfl rfl rfl rfl ?_ rfl rfl rfl ?_ ?_ ?_ ?_
            · exact copy_half c.s
            · show 32 + min 32 32 * 1 ≤ (secL (lastS l)).length
              rw [secL_len]; decide
            · rw [List.length_drop, secL_len]; decide
            · exact splice_half (lastS l) c.s
            refine wk ?_
            refine PWops.bldA (cs := secL (mixS (lastS l) c.s)) (out := dcellL ⟨mixS (lastS l) c.s, false⟩) rfl rfl rfl rfl rfl rfl rfl rfl (secL_len _) rfl (secL_one _) (secL_bare _) (splice_sec _ _) ?_
            refine wk ?_
            exact retP2 (presult1 (pres_cell rfl rfl rfl (by (first | rfl | exact secL_len _ | exact dcellL_len _ | exact putL_len _ | exact len_map (by assumption) | exact len_map rfl)) (by (first | rfl | exact secL_bare _ | exact dcellL_bare _ | exact putL_bare _ | exact bare_map (fun _ => rfl) _)))) (.agg _ (dcellL_low _)) rfl
end Go.Proofs.YtilcpcpmkklobaaDoor

/- Pure states: an append to nothing whose result may be written to: append([]T{}, l...). -/
namespace Go.Proofs.YtilcpcpmkklobaaDoor
set_option linter.unusedSimpArgs false
set_option linter.unusedVariables false
set_option linter.unnecessarySimpa false
open Go.RowKit

section
variable {Φ0 : Ent} {W : World} {M : Nat} {Φ : Imm} {μ : Nat → Option Nat} {ω : Nat → Option Who} {σ : PS} {a : Act} {w : World} {P : Program} {T : Tab}

/-- A variable is known by its first cells. -/
theorem RelG.boxTake (h : RelG Φ0 W M Φ μ ω σ a w) {id : Nat} {bs cs r : List PV} (hb : σ.b id = some bs) (hc : bs = cs ++ r) : RelG Φ0 W M Φ μ ω { σ with b := upd σ.b id (some cs) } a w := by
  subst hc
  refine { h with box := fun i bs' e => ?_, gone := fun i e em => ?_, kmu := fun i g e hi => ?_ }
  · by_cases hi : i = id
    · subst hi
      simp only [upd_if, if_true] at e
      cases e
      obtain ⟨g, cur, T, h1, h2, h3, h4, h5, h6, h7⟩ := h.box i _ hb
      refine ⟨g, cur, T, h1, h2, h3, h4, h5, by simp at h6; omega, fun j c hc => h7 j c ?_⟩
      rw [List.getElem?_append_left (List.getElem?_eq_some_iff.1 hc).1]; exact hc
    · simp only [upd_if, if_neg hi] at e; exact h.box i bs' e
  · by_cases hi : i = id
    · subst hi; simp only [upd_if, if_true] at e; cases e
    · simp only [upd_if, if_neg hi] at e; exact h.gone i e em
  · by_cases hi' : i = id
    · subst hi'; exact h.kmu i g e (.inl (by rw [hb]; simp))
    · simp only [upd_if, if_neg hi'] at hi; exact h.kmu i g e hi

/-- In place: the block becomes a variable. -/
theorem RelG.appendBox (h : RelG Φ0 W M Φ μ ω σ a w) {s d id : Nat} (hlow : id < 1000000) (hid : σ.b id = none) (hmid : σ.m id = none) (hd : d < M) {m k cap g : Nat} {ds : List PV} {e : TypeId} {cur : Array Value} {news : List Value}
    (hg : w.heap[g]? = some (.cells cur e (0, 0))) (hroom : m ≤ cap) (hcur : cur.size = cap * k) (hω : ω g = some (.tmp s)) (hfree : ∀ j, Φ g j = none) (hB : Mine Φ0 W g) (hcap : cap ≤ maxLen)
    (hds : ds.length = m * k) (hn : RepL Φ μ ds news) (hone : ∀ u ∈ news, u.oneCell' = true) (hno : ∀ c ∈ ds, c.ownB = false) :
    Rel Φ0 W M { t := upd (upd σ.t s (σ.t s).bare) d (.msl id 0 m k), b := upd σ.b id (some ds), m := σ.m } (a.put (some d) (.slice (some ⟨g, 0, none⟩) m cap)) (w.setRow g (news ++ cur.toList.drop news.length).toArray) := by
  have hd' : d < a.tmps.size := by rw [h.size]; exact hd
  have hlt : g < w.heap.size := (Array.getElem?_eq_some_iff.1 hg).1
  have hmk : m * k ≤ cap * k := Nat.mul_le_mul_right _ hroom
  have hnl := hn.1
  have hμ : ∀ i g', μ i = some g' → upd μ id (some g) i = some g' := by
    intro i g' e'
    simp only [upd_if]
    rw [if_neg (by rintro rfl; rw [h.gone _ hid hmid] at e'; cases e')]; exact e'
  have hω' : ∀ g' p, ω g' = some p → p ≠ .tmp s → upd ω g (some (.box id)) g' = some p := by
    intro g' p eg hp
    simp only [upd_if]
    rw [if_neg (by rintro rfl; rw [hω] at eg; cases eg; exact hp rfl)]
    exact eg
  have hstep : ∀ q n' k' E v, q ≠ .tmp s → OwnAt (Mine Φ0 W) Φ ω w q n' k' E v → OwnAt (Mine Φ0 W) Φ (upd ω g (some (.box id))) (w.setRow g (news ++ cur.toList.drop news.length).toArray) q n' k' E v := by
    intro q n' k' E v hq hh
    refine hh.step (fun g' eg => ?_)
    have hne : g' ≠ g := by rintro rfl; rw [hω] at eg; cases eg; exact hq rfl
    exact ⟨setRow_other w g g' _ hne, fun j => rfl, hω' g' q eg hq⟩
  refine ⟨Φ, upd μ id (some g), upd ω g (some (.box id)), ?_, h.defers, by simp [Act.put, h.size], ?_, h.old, fun t => ?_, fun t n' k' cs' E' et => ?_, fun i bs eb => ?_, ?_, ?_, h.gmu, ?_, h.ext, fun i X e' => (h.map i X e').step (fun _ _ _ e => e) hμ (fun q hq g' eg => ?_), fun g' p e' => ?_⟩
  · exact h.below.trans ⟨rfl, rfl, rfl, by simp, fun j hj => setRow_other w g j _ (hB.ne hj)⟩
  · intro b o u eu
    have hb : b ≠ g := by rintro rfl; rw [hfree] at eu; cases eu
    have := h.imm b o u eu
    simp only [World.cell?] at this ⊢
    rw [setRow_other w g b _ hb]; exact this
  · rw [getD_put _ _ _ _ hd']
    simp only [upd_if]
    by_cases ht : t = d
    · simp only [if_pos ht]
      exact .msl id 0 m k _ cap (fun _ => ⟨g, by simp [upd_if], rfl⟩) hroom hcap
    · simp only [if_neg ht]
      by_cases hts : t = s
      · subst hts; simp only [if_true]; exact ((h.tmps t).mono (fun _ _ _ e => e) hμ).bare
      · simp only [if_neg hts]; exact (h.tmps t).mono (fun _ _ _ e => e) hμ
  · rw [getD_put _ _ _ _ hd']
    simp only [upd_if] at et
    by_cases ht : t = d
    · simp only [if_pos ht] at et; cases et
    · simp only [if_neg ht] at et ⊢
      by_cases hts : t = s
      · simp only [if_pos hts] at et
        have := PV.bare_own (σ.t s); rw [et] at this; simp [PV.ownB] at this
      · simp only [if_neg hts] at et
        exact hstep _ _ _ _ _ (by simp [hts]) (h.own t n' k' cs' E' et)
  · by_cases hi : i = id
    · subst hi
      simp only [upd_if, if_true] at eb
      cases eb
      refine ⟨g, _, e, by simp [upd_if], setRow_heap w g cur _ e _ hg, hB, by simp [upd_if], hfree, by simp; omega, fun j c hc => ?_⟩
      obtain ⟨u, hu, hru⟩ := hn.get hc
      refine ⟨u, ?_, hone u (mem_of_get hu), hru.mono (fun _ _ _ e => e) hμ, fun n k cs E e' => ?_⟩
      · rw [List.getElem?_toArray, List.getElem?_append_left (List.getElem?_eq_some_iff.1 hu).1]; exact hu
      · have := hno c (mem_of_get hc)
        rw [e'] at this; simp [PV.ownB] at this
    · simp only [upd_if, if_neg hi] at eb
      obtain ⟨g2, cur', Ty, h1, h2', h3, h4, h5, h6, h7⟩ := h.box i bs eb
      have hne : g2 ≠ g := by rintro rfl; rw [hω] at h4; cases h4
      refine ⟨g2, cur', Ty, hμ _ _ h1, by rw [setRow_other w g g2 _ hne]; exact h2', h3, hω' g2 _ h4 (by simp), h5, h6, fun j c hc => ?_⟩
      obtain ⟨u, r1, r2, r3, r4⟩ := h7 j c hc
      exact ⟨u, r1, r2, r3.mono (fun _ _ _ e => e) hμ, fun n k cs E e => hstep _ _ _ _ _ (by simp) (r4 n k cs E e)⟩
  · intro i e' em
    by_cases hi : i = id
    · subst hi; simp [upd_if] at e'
    · simp only [upd_if, if_neg hi] at e' ⊢; exact h.gone i e' em
  · intro g' p eg
    simp only [upd_if] at eg
    split at eg
    · subst g'; simpa using hlt
    · simpa using h.lt g' p eg
  · intro i g' e' hi
    have hne : i ≠ id := by have := h.gmu i g' e'; omega
    simp only [upd_if, if_neg hne] at hi ⊢
    exact h.kmu i g' e' hi
  · have hne : g' ≠ g := by rintro rfl; rw [hω] at eg; cases eg; rcases hq with hq | ⟨j, hq⟩ <;> cases hq
    exact ⟨setRow_other w g g' _ hne, fun j => rfl, hω' g' q eg (by rintro rfl; rcases hq with hq | ⟨j, hq⟩ <;> cases hq)⟩
  · simp only [upd_if] at e'
    split at e'
    · subst g'; exact hB
    · exact h.mine g' p e'

/-- A new block becomes a variable. -/
theorem Rel.freshBox (h : RelG Φ0 W M Φ μ ω σ a w) {s d id : Nat} (hlow : id < 1000000) (hid : σ.b id = none) (hmid : σ.m id = none) (hd : d < M) {m k cap : Nat} {ds : List PV} {news : List Value} {rest : Array Value} (T : TypeId) (hroom : m ≤ cap) (hcap : cap ≤ maxLen) (hn : RepL Φ μ ds news) (hone : ∀ u ∈ news, u.oneCell' = true) (hone2 : ∀ u ∈ rest.toList, u.oneCell' = true) (hno : ∀ c ∈ ds, c.ownB = false) :
    Rel Φ0 W M { t := upd (upd σ.t s (σ.t s).bare) d (.msl id 0 m k), b := upd σ.b id (some ds), m := σ.m } (a.put (some d) (.slice (some ⟨w.heap.size, 0, none⟩) m cap)) (w.drew.alloc (.cells (news.toArray ++ rest) T)) := by
  have h1 := h.drew.newBox hlow hid hmid (bs := ds ++ List.replicate rest.size .undef) (us := news ++ rest.toList) ⟨by simp [hn.1], fun j c u hc hu => by
    by_cases hj : j < ds.length
    · rw [List.getElem?_append_left hj] at hc
      rw [List.getElem?_append_left (by rw [hn.1]; exact hj)] at hu
      exact hn.2 j c u hc hu
    · rw [List.getElem?_append_right (by omega)] at hc
      rw [(List.mem_replicate.1 (List.mem_of_getElem? hc)).2]
      exact .undef _⟩ (fun u hu => by
        rcases List.mem_append.1 hu with hu | hu
        · exact hone u hu
        · exact hone2 u hu) (fun c hc => by
        rcases List.mem_append.1 hc with hc | hc
        · exact hno c hc
        · rw [(List.mem_replicate.1 hc).2]; rfl) T
  have h2 := h1.boxTake (id := id) (cs := ds) (bs := ds ++ List.replicate rest.size .undef) (r := List.replicate rest.size .undef) (by simp [upd_if]) rfl
  have h3 := h2.strip s
  have h4 := h3.put hd (p := .msl id 0 m k) (v := .slice (some ⟨w.heap.size, 0, none⟩) m cap) (.msl id 0 m k _ cap (fun _ => ⟨w.heap.size, by simp [upd_if], rfl⟩) hroom hcap) rfl
  have e : (news ++ rest.toList).toArray = news.toArray ++ rest := by simp
  have e2 : upd (upd σ.b id (some (ds ++ List.replicate rest.size .undef))) id (some ds) = upd σ.b id (some ds) := by
    funext j; simp only [upd_if]; by_cases hj : j = id <;> simp [hj]
  rw [e] at h4
  have : ({ t := upd (upd σ.t s (σ.t s).bare) d (.msl id 0 m k), b := upd σ.b id (some ds), m := σ.m } : PS) = PS.put { σ with t := upd σ.t s (σ.t s).bare, b := upd (upd σ.b id (some (ds ++ List.replicate rest.size .undef))) id (some ds) } d (.msl id 0 m k) := by
    rw [e2]; rfl
  rw [this]
  exact ⟨_, _, _, h4⟩

/-- An append to nothing. -/
theorem appN_does (hT : T = tabOf P) (h : RelG Φ0 W M Φ μ ω σ a w) (o : Oper) {d s id : Nat} (hlow : id < 1000000) (hid : σ.b id = none) (hmid : σ.m id = none) (hd : o.dst = some d) (hM : d < M) {x : Operand} {t : TypeId} (hop : o.op = .call { callee := .builtin .append, args := #[.tmp s, x], argTypes := #[t, t] })
    {ti : TyI} (ht : T.at t = some ti) {m e k by_ : Nat} {ds zr : List PV} {own : Option TypeId} (hk : ti.kind = .slice e k by_ zr) (hs : σ.t s = .nilsl ∨ σ.t s = .sl 0 k [] (some e)) (he : e < 1000000) (hx : pev σ x = .sl m k ds own) (c1 : m * by_ ≤ 140737488355328) (c2 : m ≤ 140737488355328) (h0 : 0 < m) (c3 : ds.all PV.one = true) (hno : ∀ c ∈ ds, c.ownB = false) :
    Does P Φ0 W M a w o { t := upd (upd σ.t s (σ.t s).bare) d (.msl id 0 m k), b := upd σ.b id (some ds), m := σ.m } := by
  have ht' : tyI P t = some ti := by rw [hT] at ht; exact tab_at rfl ht
  obtain ⟨hu, i, z, e1, e2, e3, e4, e5, e6, e7, -⟩ := slice_get ht' hk
  have hrun : ∀ v' w', (Builtin.append_ #[t, t] o.type #[a.eval (.tmp s), a.eval x]).run P w = .ok v' w' → (execOp a.eval o).run P w = .ok (.value v') w' := by
    intro v' w' hr
    simp only [execOp, hop, resolve, invoke, builtin, Sem.run_bind, Sem.run_pure, Result.andThen_ok, List.map_toArray, List.map_cons, List.map_nil, hr]
  have hml : m ≤ maxLen := by unfold maxLen; omega
  have hxx : ∃ ad cx news, a.eval x = .slice ad m cx ∧ (0 < m → ∃ adr, ad = some adr ∧ ∀ j u, news[j]? = some u → w.cell? (adr.add j) = some u) ∧ RepL Φ μ ds news ∧ (∀ u ∈ news, u.oneCell' = true) ∧ ds.length = m * k := by
    have hxr := h.ev x
    rw [hx] at hxr
    obtain ⟨ad, b, off, cap, us, hv, q1, q2, q3, q4, q5, q6⟩ := hxr.sl_inv
    have hrl := repL_of_us ds us q6
    refine ⟨ad, cap, _, hv, fun hpos => ⟨_, q4 hpos, ?_⟩, hrl, repL_one hrl c3, q3⟩
    intro j u hj
    rw [Addr.add_lit]
    have hjl : j < ds.length := by have := (List.getElem?_eq_some_iff.1 hj).1; simpa using this
    simp [hjl] at hj
    subst hj
    exact h.imm _ _ _ (q5 j hjl)
  obtain ⟨ad, cx, news, hxv, hxa, hxr, hxo, hdl⟩ := hxx
  have hnl : news.length = m * k := by rw [hxr.1, hdl]
  obtain ⟨adr, rfl, hcells⟩ := hxa h0
  have hz : ∀ q, ∀ u ∈ (Builtin.zeroCells z.cells q).toList, u.oneCell' = true := by
    intro q u hu
    have hpos : 0 < z.cells.size := by rw [e5]; exact e6
    simp only [Builtin.zeroCells, Array.toList_map, List.mem_map] at hu
    obtain ⟨j, -, rfl⟩ := hu
    have hj : j % z.cells.size < z.cells.size := Nat.mod_lt _ hpos
    rw [getElem!_pos z.cells _ hj]
    exact e7 _ (Array.getElem_mem_toList hj)
  have nilc : a.eval (.tmp s) = .slice none 0 0 → Does P Φ0 W M a w o { t := upd (upd σ.t s (σ.t s).bare) d (.msl id 0 m k), b := upd σ.b id (some ds), m := σ.m } := by
    intro hs0
    have hr := run_append_nil (P := P) w t o.type e i z hu e1 e2 adr m cx news (by rw [hnl, e3]) hcells (by omega) (by omega) (by rw [e4]; omega)
    refine ⟨_, _, _, hrun _ _ (by rw [hs0, hxv]; exact hr), .inl rfl, ?_⟩
    rw [hd]
    exact Rel.freshBox h hlow hid hmid hM e (grownCap_ge w m 0 e) (grownCap_le_maxLen w m 0 e (by omega)) hxr hxo (hz _) hno
  have grow : ∀ (ad2 : Addr) cap, a.eval (.tmp s) = .slice (some ad2) 0 cap → cap ≤ maxLen → ¬ (m ≤ cap) → Does P Φ0 W M a w o { t := upd (upd σ.t s (σ.t s).bare) d (.msl id 0 m k), b := upd σ.b id (some ds), m := σ.m } := by
    intro ad2 cap hsv hcapm hroom
    have hr := run_append_grow (P := P) w t o.type e i z hu e1 e2 ad2 0 cap [] (by simp) (fun j u hj => by simp at hj) adr m cx news (by rw [hnl, e3]) hcells (by omega) (by omega) (growslice_fits (by omega) (by rw [e4, Nat.zero_add]; exact c1))
    refine ⟨_, _, _, hrun _ _ (by rw [hsv, hxv]; exact hr), .inl rfl, ?_⟩
    rw [hd]
    have := Rel.freshBox h (s := s) hlow hid hmid hM (k := k) (rest := Builtin.zeroCells z.cells (grownCap w (0 + m) cap e - (0 + m))) e (Nat.le_trans (Nat.le_of_eq (Nat.zero_add m).symm) (grownCap_ge w (0 + m) cap e)) (grownCap_le_maxLen w (0 + m) cap e (by omega)) hxr hxo (hz _) hno
    simpa using this
  rcases hs with hs | hs
  · have := h.tmps s
    rw [hs] at this
    exact nilc this.nilsl_inv
  · rcases h.own s 0 k [] e hs with ⟨hnil, -⟩ | ⟨g, cap, cur, hv, hB, hg, q1, q2, q3, q4, q5⟩ | ⟨hfull, -⟩
    · exact nilc hnil
    · have hsv : a.eval (.tmp s) = .slice (some ⟨g, 0, none⟩) 0 cap := hv
      by_cases hroom : m ≤ cap
      · have hfit : 0 * i.size + news.length ≤ cur.size := by rw [hnl, q3, Nat.zero_mul, Nat.zero_add]; exact Nat.mul_le_mul_right _ hroom
        have hr := run_append_room (P := P) w t o.type e i hu e1 g 0 cap cur hg adr m cx news (by rw [hnl, e3]) hcells hxo (by omega) hfit
        refine ⟨_, _, _, hrun _ _ (by rw [hsv, hxv]; exact hr), .inl rfl, ?_⟩
        rw [hd]
        have := h.appendBox (s := s) hlow hid hmid hM hg hroom q3 q4 (fun j => q5.2 j (by rw [Nat.zero_mul]; omega)) hB q2 hdl hxr hxo hno
        simpa using this
      · exact grow _ cap hsv q2 hroom
    · exact absurd hfull (Nat.not_le.2 he)
end

section
variable {P : Program} {T : Tab} {σ : PS} {o : Oper} {i base : Nat} {ops : Array Oper} {ok : Nat → Nat → Bool} {rest : List (Nat × Oper)} {K : PS → Prop}
/-- string(b) of bytes that are a variable's. -/
theorem PWops.strM {d n e kk by_ id o' : Nat} {zr bs : List PV} {l : List Int} {s : ByteArray} {x : Operand} {ts td : TypeId} {si di ei : TyI} (hg : pguard ops σ o = some true) (hd : o.dst = some d) (hop : o.op = .convert ts td x) (hx : pev σ x = .msl id o' n 1) (hbs : (σ.only (ok i)).b id = some bs) (hs : T.at ts = some si) (ht : T.at td = some di) (hk1 : si.kind = .slice e kk by_ zr) (hk2 : di.kind = .str) (he : T.at e = some ei) (hke : ei.kind = .int .u8) (htd : Nat.beq td strT = true) (hb : σ.freeB (base + i) = true)
    (hle : o' + n ≤ bs.length) (hl : ((bs.drop o').take n).map PV.bare = l.map pbyte) (hr : strI l = s) (kn : PWops P T ops base ok rest K (σ.put d (pstr s))) : PWops P T ops base ok ((i, o) :: rest) K σ := by
  refine PWops.stepM hg (E := ⟨.val (.string (strI l)), [], none, []⟩) ?_ hb (by rw [hd, hr]; exact kn)
  have hl' : bytesOf (((bs.drop o').take n).map PV.bare) = some l := by rw [hl]; exact bytesOf_map l
  simp only [hop, presM, htd, if_true, hs, ht, pev_only, hx, pstrM, hk1, hk2, he, hbs, hke, hle, and_self, hl', Option.map_some]
/-- append([]T{}, l...) as a variable that may be written to. -/
theorem PWops.appN {d s m k e by_ : Nat} {ds zr : List PV} {own : Option TypeId} {x : Operand} {t : TypeId} {sz : Nat} {ag : Bool} {zz : List PV} {es : List SK} (hT : T = tabOf P) (hg : pguard ops σ o = some true) (hok : ∀ j id, ok j id = true) (hd : o.dst = some d) (hop : o.op = .call { callee := .builtin .append, args := #[.tmp s, x], argTypes := #[t, t] })
    (hs : σ.t s = .nilsl ∨ σ.t s = .sl 0 k [] (some e)) (hx : pev σ x = .sl m k ds own) (ht : T.at t = some ⟨sz, ag, .slice e k by_ zr, zz, es⟩) (hb : σ.freeB (base + i) = true) (hlow : Nat.blt (base + i) 1000000 = true) (he : Nat.blt e 1000000 = true) (h1 : m * by_ ≤ 140737488355328) (h2 : m ≤ 140737488355328) (h0 : 0 < m) (hone : ds.all PV.one = true) (hno : ds.all (fun c => !c.ownB) = true)
    (kn : PWops P T ops base ok rest K (((σ.put s (σ.t s).bare).setb (base + i) ds).put d (.msl (base + i) 0 m k))) : PWops P T ops base ok ((i, o) :: rest) K σ := by
  refine PWops.sem (E := ⟨.msl (base + i) 0 m k, [(base + i, ds)], some s, []⟩) hg hok ?_ (by rw [hd]; exact kn)
  intro Φ0 W M a w hM hrel
  obtain ⟨Φ, μ, ω, hr⟩ := hrel
  obtain ⟨q1, q2⟩ := PS.freeB_spec hb
  have := appN_does hT hr o (id := base + i) (by simpa [Nat.blt_eq] using hlow) q1 q2 hd (hM d hd) hop ht rfl hs (by simpa [Nat.blt_eq] using he) hx h1 h2 h0 hone (fun c hc => by simpa using List.all_eq_true.1 hno c hc)
  rw [hd]
  exact this
end
end Go.Proofs.YtilcpcpmkklobaaDoor

/- Pure states: a variable that will not be written to any more becomes a value; a new slice as a value. -/
namespace Go.Proofs.YtilcpcpmkklobaaDoor
set_option linter.unusedSimpArgs false
set_option linter.unusedVariables false
set_option linter.unnecessarySimpa false
open Go.RowKit

section
variable {Φ0 : Ent} {W : World} {M : Nat} {Φ : Imm} {μ : Nat → Option Nat} {ω : Nat → Option Who} {σ : PS} {a : Act} {w : World} {P : Program} {T : Tab}

/-- A block of one's own that nobody writes to any more. -/
theorem RelG.still (h : RelG Φ0 W M Φ μ ω σ a w) {g : Nat} {cur : Array Value} {Ty : TypeId} (hg : w.heap[g]? = some (.cells cur Ty (0, 0))) (hB : Mine Φ0 W g) (hω : ω g = none) (hΦ : ∀ j, Φ g j = none) : RelG Φ0 W M (immRow Φ g cur) μ ω σ a w := by
  refine h.grow h.below ?_ ?_ ?_ ?_ (Nat.le_refl _)
  · intro b o u e
    unfold immRow at e
    split at e
    · subst b; simp only [World.cell?, hg]; simpa using e
    · exact h.imm b o u e
  · intro b o hb; unfold immRow; rw [if_neg]; rintro rfl; exact hB.ne hb rfl
  · intro b o u e; unfold immRow; rw [if_neg]
    · exact e
    · rintro rfl; rw [hΦ] at e; cases e
  · intro g' p e
    refine ⟨rfl, fun j => ?_⟩
    unfold immRow; rw [if_neg]; rintro rfl; rw [hω] at e; cases e

/-- A slot is seen otherwise. -/
theorem RelG.see (h : RelG Φ0 W M Φ μ ω σ a w) {s : Nat} {p : PV} (hp : Rep Φ μ p (a.tmps.getD s undef)) (ho : p.ownB = false) : RelG Φ0 W M Φ μ ω (σ.put s p) a w := by
  refine { h with tmps := fun u => ?_, own := fun u n k cs E e => ?_ }
  · by_cases hu : u = s
    · subst hu; simp only [PS.put, upd_if, if_true]; exact hp
    · simp only [PS.put, upd_if, if_neg hu]; exact h.tmps u
  · by_cases hu : u = s
    · subst hu; simp only [PS.put, upd_if, if_true] at e; rw [e] at ho; simp [PV.ownB] at ho
    · simp only [PS.put, upd_if, if_neg hu] at e ⊢; exact h.own u n k cs E e

/-- A variable becomes a value: nothing else in what is kept of the state knows its number. -/
theorem Sub.freeze {σ' : PS} {id s n k : Nat} {cs : List PV} (hb : σ.b id = some cs) (hs : σ.t s = .msl id 0 n k) (hl : cs.length = n * k) (hlow : ∀ c ∈ cs, Low c) (hsub : SubR (fun i => i) (Kn σ') σ σ') (hid : σ'.freeB id = true) : Sub M σ (σ'.put s (.sl n k cs none)) := by
  rintro Φ0 W a w ⟨Φ, μ, ω, hg⟩
  have h1 := hsub.rel (fun i hi => hi.spec) (fun i j _ _ e => e) (fun i _ _ => rfl) hg
  obtain ⟨g, cur, Ty, b1, b2, b3, b4, b5, b6, b7⟩ := hg.box id cs hb
  have hun : unren (fun i => i) (Kn σ') (ω g) = none := by
    rw [b4]
    unfold unren
    split
    · rename_i h2; cases h2
    · split
      · rename_i hh
        obtain ⟨q, ⟨i, hi, hq⟩, e⟩ := hh
        exfalso
        rcases hq with rfl | ⟨j, rfl⟩
        · simp only [renW, Option.some.injEq, Who.box.injEq] at e
          subst e
          rw [Kn, hid] at hi; cases hi
        · simp [renW] at e
      · rfl
  have h2 := h1.still b2 b3 hun b5
  refine ⟨_, _, _, h2.see ?_ rfl⟩
  have hv := hg.tmps s
  rw [hs] at hv
  obtain ⟨ad, cap, hvv, c1, c2, c4⟩ := hv.msl_inv
  rw [hvv]
  rcases Nat.eq_zero_or_pos n with h0 | h0
  · subst h0
    have : cs = [] := List.eq_nil_of_length_eq_zero (by simpa using hl)
    subst this
    exact .sl0 _ _ _ _ (by assumption)
  · obtain ⟨g', hg', rfl⟩ := c4 h0
    rw [b1] at hg'; cases hg'
    refine .sl n k cs none g 0 cap (fun j => cur.getD j undef) hl (by assumption) (by assumption) (fun j hj => ?_) (fun j c hc => ?_)
    · unfold immRow
      rw [if_pos rfl, Nat.zero_add, Array.getD_eq_getD_getElem?]
      rw [Array.getElem?_eq_getElem (by omega)]; rfl
    · obtain ⟨u, r1, r2, r3, -⟩ := b7 j c hc
      rw [Array.getD_eq_getD_getElem?, r1]
      refine Rep.mono (Φ := Φ) (fun b o u e => ?_) (fun _ _ e => e) (r3.low (hlow c (mem_of_get hc)))
      unfold immRow
      rw [if_neg]
      · exact e
      · rintro rfl; rw [b5] at e; cases e
theorem PW.freeze {σ' : PS} {id s n k : Nat} {cs : List PV} {c : Code} {Q : Exit → PS → Prop} (hb : σ.b id = some cs) (hs : σ.t s = .msl id 0 n k) (hl : cs.length = n * k) (hlow : ∀ c ∈ cs, Low c) (hsub : SubR (fun i => i) (Kn σ') σ σ') (hid : σ'.freeB id = true) (h : PW P M c Q (σ'.put s (.sl n k cs none))) : PW P M c Q σ :=
  h.sub (Sub.freeze hb hs hl hlow hsub hid)

end
section
variable {P : Program} {T : Tab} {σ : PS} {o : Oper} {i base : Nat} {ops : Array Oper} {ok : Nat → Nat → Bool} {rest : List (Nat × Oper)} {K : PS → Prop}
/-- make([]T, n) as a value, in any region. -/
theorem PWops.mkJ {d e k by_ : Nat} {x : Int} {kx ky : IntKind} {out zr : List PV} {X Y : Operand} {t : TypeId} {ti : TyI} (hg : pguard ops σ o = some true) (hd : o.dst = some d) (hop : o.op = .makeSlice t X Y) (hx : pev σ X = .val (.int kx x)) (hy : pev σ Y = .val (.int ky x)) (ht : T.at t = some ti) (hk : ti.kind = .slice e k by_ zr) (he : Nat.blt e 1000000 = true) (hb : σ.freeB (base + i) = true) (hc : 0 ≤ x ∧ (by_ : Int) * x ≤ 281474976710656 ∧ x ≤ 9223372036854775807) (hout : (List.replicate x.toNat zr).flatten = out)
    (kn : PWops P T ops base ok rest K (σ.put d (.sl x.toNat k out (some e)))) : PWops P T ops base ok ((i, o) :: rest) K σ := by
  refine PWops.stepM hg (E := ⟨.sl x.toNat k out (some e), [], none, []⟩) ?_ hb (by rw [hd]; exact kn)
  have he' : e < 1000000 := by simpa [Nat.blt_eq] using he
  simp only [hop, presM, ht, pev_only, hx, hy, hk, pmakeI]
  rw [if_pos ⟨trivial, hc.1, hc.2.1, hc.2.2, he'⟩, hout]
  rfl
/-- make([]T, n) as a value of one's own. -/
theorem PWops.mkI {d e k by_ : Nat} {x : Int} {kx ky : IntKind} {out zr : List PV} {X Y : Operand} {t : TypeId} {ti : TyI} (hT : T = tabOf P) (hg : pguard ops σ o = some true) (hok : ∀ j id, ok j id = true) (hd : o.dst = some d) (hop : o.op = .makeSlice t X Y) (hx : pev σ X = .val (.int kx x)) (hy : pev σ Y = .val (.int ky x)) (ht : T.at t = some ti) (hk : ti.kind = .slice e k by_ zr) (he : Nat.blt e 1000000 = true) (hc : 0 ≤ x ∧ (by_ : Int) * x ≤ 281474976710656 ∧ x ≤ 9223372036854775807) (hout : (List.replicate x.toNat zr).flatten = out)
    (kn : PWops P T ops base ok rest K (σ.put d (.sl x.toNat k out (some e)))) : PWops P T ops base ok ((i, o) :: rest) K σ := by
  refine PWops.sem (E := ⟨.sl x.toNat k out (some e), [], none, []⟩) hg hok ?_ (by rw [hd]; exact kn)
  intro Φ0 W M a w hM hrel
  obtain ⟨Φ, μ, ω, hr⟩ := hrel
  have := mkI_does hT hr o hd (hM d hd) hop ht hk hx hy hc (by simpa [Nat.blt_eq] using he) hout
  rw [hd]
  exact this
end
end Go.Proofs.YtilcpcpmkklobaaDoor

/- Pure states: a slice of numbers of one's own becomes a variable (it may then be written to). -/
namespace Go.Proofs.YtilcpcpmkklobaaDoor
set_option linter.unusedSimpArgs false
set_option linter.unusedVariables false
set_option linter.unnecessarySimpa false
open Go.RowKit

/-- A value that leans on no memory that will not change. -/
inductive FlatV : PV → Prop
  | undef : FlatV .undef
  | val (v : Value) : FlatV (.val v)
  | nilsl : FlatV .nilsl
  | ptr (id off : Nat) : FlatV (.ptr id off)
  | msl (id off n k : Nat) : FlatV (.msl id off n k)
  | mref (id : Nat) : FlatV (.mref id)
  | agg (cs : List PV) (h : ∀ c ∈ cs, FlatV c) : FlatV (.agg cs)
  | tup (cs : List PV) (h : ∀ c ∈ cs, FlatV c) : FlatV (.tup cs)
  | fn (f : FuncId) (cs : List PV) (h : ∀ c ∈ cs, FlatV c) : FlatV (.fn f cs)
theorem Rep.flatV {Φ Φ' : Imm} {μ μ' : Nat → Option Nat} (hμ : ∀ i g, μ i = some g → μ' i = some g) {p : PV} {v : Value} (h : Rep Φ μ p v) (hl : FlatV p) : Rep Φ' μ' p v := by
  induction h with
  | undef v => exact .undef v
  | val v h => exact .val v h
  | nilsl => exact .nilsl
  | sl0 => cases hl
  | sl => cases hl
  | ptr id off g h => exact .ptr id off g (hμ _ _ h)
  | msl id off n k a cap h h2 h3 => exact .msl id off n k a cap (fun hn => by obtain ⟨g, h1, h4⟩ := h hn; exact ⟨g, hμ _ _ h1, h4⟩) h2 h3
  | ep => cases hl
  | fn f cs us hr ih => cases hl with | fn _ _ hl => exact .fn f cs us (fun j c hj => ih j c hj (hl c (mem_of_get hj)))
  | agg cs us hr ih => cases hl with | agg _ hl => exact .agg cs us (fun j c hj => ih j c hj (hl c (mem_of_get hj)))
  | tup cs us hr ih => cases hl with | tup _ hl => exact .tup cs us (fun j c hj => ih j c hj (hl c (mem_of_get hj)))
  | mref id g h => exact .mref id g (hμ _ _ h)

/-- A value that leans at most on a block of its own. -/
def Stands (c : PV) : Prop := FlatV c ∨ ∃ n k cs E, c = .sl n k cs (some E) ∧ E < 1000000 ∧ ∀ x ∈ cs, FlatV x
structure StandsS (σ : PS) : Prop where
  t : ∀ t, Stands (σ.t t)
  b : ∀ i bs, σ.b i = some bs → ∀ c ∈ bs, Stands c
  m : ∀ i es clock, σ.m i = some (.map es clock) → ∀ e ∈ es, FlatV e.2.1 ∧ Stands e.2.2

theorem Stands.rep {c : PV} (hs : Stands c) {B : Nat → Prop} {Φ Φ' : Imm} {μ μ' : Nat → Option Nat} {ω : Nat → Option Who} {w : World} {q : Who} {v : Value} (hμ : ∀ i g, μ i = some g → μ' i = some g) (hr : Rep Φ μ c v) (ho : ∀ n k cs E, c = .sl n k cs (some E) → OwnAt B Φ ω w q n k E v) (hΦ : ∀ g, ω g = some q → ∀ j, Φ' g j = Φ g j) : Rep Φ' μ' c v := by
  rcases hs with hs | ⟨n, k, cs, E, rfl, hE, hf⟩
  · exact hr.flatV hμ hs
  · have h0 : ∀ ad cap, cap ≤ maxLen → n = 0 → v = .slice ad 0 cap → Rep Φ' μ' (.sl n k cs (some E)) v := by
      intro ad cap hc hn hv
      obtain ⟨_, _, _, _, _, _, _, _, q3, _⟩ := hr.sl_inv
      subst hn hv
      obtain rfl : cs = [] := List.eq_nil_of_length_eq_zero (by omega)
      exact .sl0 _ _ _ _ hc
    rcases ho n k cs E rfl with ⟨h1, h2⟩ | ⟨g, cap, cur, h1, h2, h3, h4, h5, h6, h7, h8⟩ | ⟨h1, -⟩
    · exact h0 none 0 (by unfold maxLen; omega) h2 h1
    · rcases Nat.eq_zero_or_pos n with hn | hn
      · exact h0 _ cap h5 hn (by rw [h1, hn])
      · obtain ⟨a, b, off, cap', us, hv, q1, q2, q3, q4, q5, q6⟩ := hr.sl_inv
        rw [h1] at hv
        cases hv
        have e := q4 hn
        cases e
        rw [h1]
        refine .sl n k cs _ _ _ _ us q3 q1 q2 (fun j hj => ?_) (fun j c hc => (q6 j c hc).flatV hμ (hf c (mem_of_get hc)))
        rw [hΦ g h7]; exact q5 j hj
    · exact absurd h1 (Nat.not_le.2 hE)

section
variable {Φ0 : Ent} {W : World} {M : Nat} {Φ : Imm} {μ : Nat → Option Nat} {ω : Nat → Option Who} {σ : PS} {a : Act} {w : World} {P : Program} {T : Tab}

open Classical in
theorem Sub.thaw {σ' : PS} {id s n : Nat} {l : List Int} {E : TypeId} (hs : σ.t s = .sl n 1 (l.map pint) (some E)) (hE : E < 1000000) (hn : 0 < n) (hsub : SubR (fun i => i) (Kn σ') σ σ') (hid : σ'.freeB id = true) (hlow : id < 1000000) (hs' : σ'.t s = .undef) (hst : StandsS σ') : Sub M σ ((σ'.setb id (l.map pint)).put s (.msl id 0 n 1)) := by
  rintro Φ0 W a w ⟨Φ, μ, ω, hg⟩
  have h1 := hsub.rel (fun i hi => hi.spec) (fun i j _ _ e => e) (fun i _ _ => rfl) hg
  obtain ⟨q1, q2⟩ := PS.freeB_spec hid
  have hv := hg.tmps s
  rw [hs] at hv
  rcases hg.own s n 1 _ E hs with ⟨-, h0⟩ | ⟨g, cap, cur, k1, k2, k3, k4, k5, k6, k7, k8⟩ | ⟨h0, -⟩
  · omega
  rotate_left
  · exact absurd h0 (Nat.not_le.2 hE)
  rw [k1] at hv
  obtain ⟨a0, b0, off, cap', us, hvv, p1, p2, p3, p4, p5, p6⟩ := hv.sl_inv
  cases hvv
  have e := p4 hn
  cases e
  have hlen : l.length = n := by simpa using p3
  -- the cells
  have hcell : ∀ j, j < n → ∃ z, l[j]? = some z ∧ us j = .int .i64 z ∧ cur[j]? = some (.int .i64 z) := by
    intro j hj
    have hj' : j < l.length := by omega
    have r1 := p6 j (pint l[j]) (by simp [hj'])
    obtain ⟨r2, -⟩ := r1.val_inv
    have r3 := hg.imm _ _ _ (p5 j (by simpa using hj'))
    simp only [World.cell?, k3, Nat.zero_add] at r3
    refine ⟨l[j], by simp [hj'], r2, ?_⟩
    rw [← r2]; simpa using r3
  have hwho : (fun g => unren (fun i => i) (Kn σ') (ω g)) g = some (.tmp s) := by show unren _ _ (ω g) = _; rw [k7]; rfl
  generalize hμ1 : (fun i => if Kn σ' i then μ ((fun i => i) i) else none) = μ1 at h1
  generalize hω1 : (fun g => unren (fun i => i) (Kn σ') (ω g)) = ω1 at h1 hwho
  let Φ' : Imm := fun b o => if b = g then none else Φ b o
  have hoth : ∀ b j, b ≠ g → Φ' b j = Φ b j := fun b j hb => if_neg hb
  have hself : ∀ j, Φ' g j = none := fun j => if_pos rfl
  have hμ : ∀ i g', μ1 i = some g' → upd μ1 id (some g) i = some g' := by
    intro i g' e'
    simp only [upd_if]
    rw [if_neg (by rintro rfl; rw [h1.gone _ q1 q2] at e'; cases e')]; exact e'
  have hω : ∀ q g', q ≠ .tmp s → ω1 g' = some q → g' ≠ g ∧ upd ω1 g (some (.box id)) g' = some q := by
    intro q g' hq e'
    have hne : g' ≠ g := by rintro rfl; rw [hwho] at e'; cases e'; exact hq rfl
    exact ⟨hne, by simp only [upd_if, if_neg hne]; exact e'⟩
  have hΦq : ∀ q, q ≠ .tmp s → ∀ g', ω1 g' = some q → ∀ j, Φ' g' j = Φ g' j := fun q hq g' e' j => hoth g' j (hω q g' hq e').1
  have hown : ∀ q n' k' E' v, q ≠ .tmp s → OwnAt (Mine Φ0 W) Φ ω1 w q n' k' E' v → OwnAt (Mine Φ0 W) Φ' (upd ω1 g (some (.box id))) w q n' k' E' v := by
    intro q n' k' E' v hq hh
    exact hh.step (fun g' e' => ⟨rfl, hΦq q hq g' e', (hω q g' hq e').2⟩)
  refine ⟨Φ', upd μ1 id (some g), upd ω1 g (some (.box id)), h1.below, h1.defers, h1.size, ?_, ?_, fun t => ?_, fun t n' k' cs' E' et => ?_, fun i bs eb => ?_, fun i e' em => ?_, fun g' p e' => ?_, h1.gmu, fun i g' e' hi => ?_, fun b o u e' => ?_, fun i X e' => ?_, fun g' p e' => ?_⟩
  · intro b o u e'
    by_cases hb : b = g
    · subst hb; rw [hself] at e'; cases e'
    · rw [hoth b o hb] at e'; exact h1.imm b o u e'
  · intro b o hb
    rw [hoth b o (k2.ne hb)]; exact h1.old b o hb
  · simp only [PS.put, PS.setb, upd_if]
    by_cases ht : t = s
    · subst ht
      simp only [if_true]
      rw [k1]
      exact .msl id 0 n 1 _ cap (fun _ => ⟨g, by simp [upd_if], rfl⟩) p1 p2
    · simp only [if_neg ht]
      exact (hst.t t).rep hμ (h1.tmps t) (fun n k cs E e' => h1.own t n k cs E e') (hΦq (.tmp t) (by simp [ht]))
  · simp only [PS.put, PS.setb, upd_if] at et
    by_cases ht : t = s
    · simp only [if_pos ht] at et; cases et
    · simp only [if_neg ht] at et
      exact hown _ _ _ _ _ (by simp [ht]) (h1.own t n' k' cs' E' et)
  · simp only [PS.put, PS.setb, upd_if] at eb
    by_cases hi : i = id
    · subst hi
      simp only [if_true] at eb
      cases eb
      refine ⟨g, cur, E, by simp [upd_if], k3, k2, by simp [upd_if], hself, by simp; omega, fun j c hc => ?_⟩
      have hj : j < n := by have := (List.getElem?_eq_some_iff.1 hc).1; simp at this; omega
      obtain ⟨z, z1, -, z3⟩ := hcell j hj
      rw [List.getElem?_map, z1] at hc
      simp only [Option.map_some, Option.some.injEq] at hc
      subst hc
      exact ⟨_, z3, rfl, .val _ rfl, fun n k cs E e' => by cases e'⟩
    · simp only [if_neg hi] at eb
      obtain ⟨g2, cur', Ty, r1, r2, r3, r4, r5, r6, r7⟩ := h1.box i bs eb
      obtain ⟨hne, hw2⟩ := hω (.box i) g2 (by simp) r4
      refine ⟨g2, cur', Ty, hμ _ _ r1, r2, r3, hw2, fun j => by rw [hoth g2 j hne]; exact r5 j, r6, fun j c hc => ?_⟩
      obtain ⟨u, s1, s2, s3, s4⟩ := r7 j c hc
      exact ⟨u, s1, s2, (hst.b i bs eb c (mem_of_get hc)).rep hμ s3 s4 (hΦq (.cell i j) (by simp)), fun n k cs E e' => hown _ _ _ _ _ (by simp) (s4 n k cs E e')⟩
  · simp only [PS.put, PS.setb, upd_if] at e' em
    by_cases hi : i = id
    · subst hi; simp at e'
    · simp only [if_neg hi] at e'
      simp only [upd_if, if_neg hi]
      exact h1.gone i e' em
  · simp only [upd_if] at e'
    split at e'
    · subst g'; exact (Array.getElem?_eq_some_iff.1 k3).1
    · exact h1.lt g' p e'
  · have hne : i ≠ id := by have := h1.gmu i g' e'; omega
    simp only [PS.put, PS.setb, upd_if, if_neg hne] at hi ⊢
    exact h1.kmu i g' e' hi
  · obtain ⟨e1, e2⟩ := h1.ext b o u e'
    refine ⟨?_, e2⟩
    rw [hoth b o]
    · exact e1
    · rintro rfl
      rcases k2 with hm | hm
      · omega
      · have hfl := Φ0.fl _ _ _ hm e'
        by_cases ho : o < n
        · have h5 := p5 o (by simp; omega)
          rw [Nat.zero_add, e1] at h5
          cases h5
          obtain ⟨z, -, z2, -⟩ := hcell o ho
          rw [z2] at hfl; cases hfl
        · rw [k8.2 o (by omega)] at e1; cases e1
  · simp only [PS.put, PS.setb] at e'
    obtain ⟨g2, r1, r2, r3, r4, r5⟩ := h1.map i X e'
    obtain ⟨hne, hw2⟩ := hω (.box i) g2 (by simp) r3
    refine ⟨g2, hμ _ _ r1, r2, hw2, fun j => by rw [hoth g2 j hne]; exact r4 j, ?_⟩
    cases X with
    | map es clock =>
      obtain ⟨t0, ents, t1, t2, t3⟩ := r5
      refine ⟨t0, ents, t1, t2, fun j st k c hj => ?_⟩
      obtain ⟨en, f1, f2, f3, f4, f5⟩ := t3 j st k c hj
      have hh := hst.m i es clock e' _ (mem_of_get hj)
      exact ⟨en, f1, f2, f3.flatV hμ hh.1, hh.2.rep hμ f4 f5 (hΦq (.cell i st) (by simp)), fun n kk cs E ec => hown _ _ _ _ _ (by simp) (f5 n kk cs E ec)⟩
    | iter mid since seen last =>
      obtain ⟨gm, t1, t2⟩ := r5
      exact ⟨gm, hμ _ _ t1, t2⟩
  · simp only [upd_if] at e'
    split at e'
    · subst g'; exact k2
    · exact h1.mine g' p e'
theorem PW.thaw {σ' : PS} {id s n : Nat} {l : List Int} {E : TypeId} {c : Code} {Q : Exit → PS → Prop} (hs : σ.t s = .sl n 1 (l.map pint) (some E)) (hE : E < 1000000) (hn : 0 < n) (hsub : SubR (fun i => i) (Kn σ') σ σ') (hid : σ'.freeB id = true) (hlow : id < 1000000) (hs' : σ'.t s = .undef) (hst : StandsS σ') (h : PW P M c Q ((σ'.setb id (l.map pint)).put s (.msl id 0 n 1))) : PW P M c Q σ :=
  h.sub (Sub.thaw hs hE hn hsub hid hlow hs' hst)
end
end Go.Proofs.YtilcpcpmkklobaaDoor

/- slices.Sort of a variable's numbers, over pure states. -/
namespace Go.Proofs.YtilcpcpmkklobaaDoor
set_option linter.unusedSimpArgs false
set_option linter.unusedVariables false
set_option linter.unnecessarySimpa false
open Go.RowKit Go.Sort

def sortI (l : List Int) : List Int := l.mergeSort fun x y => decide (x ≤ y)
theorem sortI_length (l : List Int) : (sortI l).length = l.length := List.length_mergeSort ..
theorem sortI_perm (l : List Int) : (sortI l).Perm l := List.mergeSort_perm ..
theorem sortI_sorted (l : List Int) : (sortI l).Pairwise (fun a b => a ≤ b) := by
  have := List.pairwise_mergeSort (le := fun x y : Int => decide (x ≤ y)) (fun a b c h1 h2 => by simp at *; omega) (fun a b => by simp; omega) l
  unfold sortI; simpa using this

theorem hc_sort (l : List Int) (hn : 0 < l.length ∧ l.length ≤ 1000000000) (id : Nat) : HCalls Tryd.prog 45 [.msl id 0 l.length 1] [(id, l.map pint)] [] (.tup []) [(id, (sortI l).map pint)] [] := by
  refine ⟨by kernel_rfl, fun Φ μ ω w vs himm hgl hrep hgb _ hlt => ?_⟩
  have hl1 := hrep.1
  match vs, hl1 with
  | [v], _ =>
  have hv := hrep.2 0 _ v rfl rfl
  obtain ⟨a, cap, rfl, c1, c2, c3⟩ := hv.msl_inv
  obtain ⟨g, hg, rfl⟩ := c3 hn.1
  obtain ⟨g', cur, T, b1, b2, -, b4, b5, b6, b7⟩ := hgb (id, l.map pint) (by simp)
  simp only at b1 b4 b6 b7
  rw [hg] at b1
  cases b1
  have hlt' := (Array.getElem?_eq_some_iff.1 b2).1
  have hsz : l.length ≤ cur.size := by simpa using b6
  have hcur : ∀ j, j < l.length → cur[j]? = some (.int .i64 (l.getD j 0)) := by
    intro j hj
    obtain ⟨u, r1, -, r3, -⟩ := b7 j (pint l[j]) (by simp [hj])
    obtain ⟨r4, -⟩ := r3.val_inv
    rw [r1, r4]; simp [hj]
  have ht : cur.toList.take l.length = l.map (Value.int .i64) := by
    apply List.ext_getElem?
    intro j
    by_cases hj : j < l.length
    · rw [List.getElem?_take_of_lt hj, Array.getElem?_toList, hcur j hj]
      simp [hj]
    · rw [List.getElem?_take_eq_none (by omega), List.getElem?_eq_none (by simp; omega)]
  refine (Tryd.slices_Sort_int g 0 cap l w (holds_of_blockI b2 ht) hlt' (by omega)).mono ?_
  rintro e w' ⟨rfl, n, os, hw⟩
  have hgr := grownBy_sortedI (w := w) (g := g) (n := n) (os := os) (sortI l).toArray
  have hheap := heap_sortedI (n := n) (os := os) (sortI l).toArray b2
  unfold sortI at hgr hheap
  rw [← hw] at hgr hheap
  rw [show (l.mergeSort fun x y => decide (x ≤ y)) = sortI l from rfl] at hheap
  have hgiv : Giv ω (ResIds [(id, l.map pint)] []) g := ⟨id, by simp [ResIds], .box id, .inl rfl, b4⟩
  have hoth : ∀ k, k < w.heap.size → k ≠ g → w'.heap[k]? = w.heap[k]? := fun k hk hne => hgr.block k hk (by simpa using hne)
  refine ⟨_, Φ, fun i => if i = id then μ i else none, fun g' => if g' = g then some (.box id) else none, rfl, RepL.nil.tup, fun b o u e => ?_, fun _ _ _ e => e, fun _ _ _ _ => rfl, ⟨hgr.os, hgr.tape, hgr.output, hgr.size, fun k hk => hoth k hk.1 (by rintro rfl; exact hk.2 hgiv)⟩, fun i hi => ?_, fun i g' e => ?_, fun x hx => ?_, fun x hx => by simp at hx, fun g' p e => ?_, fun n k cs E e => by cases e⟩
  · have h0 := himm b o u e
    have hne : b ≠ g := by rintro rfl; rw [b5] at e; cases e
    have hb := World.block_lt_of_cell? _ _ h0
    simp only [World.cell?] at h0 ⊢
    rw [hoth b hb hne]; exact h0
  · simp [ResIds] at hi; subst hi; simp
  · by_cases hi : i = id
    · subst hi; simp [ResIds]
    · simp [hi] at e
  · simp at hx
    subst hx
    refine ⟨g, _, T, by simpa using hg, hheap, .inr hgiv, by simp, b5, by simp [putCells, sortI_length]; omega, fun j c hc => ?_⟩
    have hj : j < l.length := by have := (List.getElem?_eq_some_iff.1 hc).1; simpa [sortI_length] using this
    have hj2 : j < (sortI l).length := by rw [sortI_length]; exact hj
    have htk := take_putCellsI cur (sortI l) (by rw [sortI_length]; exact hsz)
    have h3 : ((putCells (Value.int .i64) 0 (sortI l).toArray cur).toList.take (sortI l).length)[j]? = ((sortI l).map (Value.int .i64))[j]? := by rw [htk]
    rw [List.getElem?_take_of_lt hj2, Array.getElem?_toList] at h3
    simp only [List.getElem?_map, List.getElem?_eq_getElem hj2, Option.map_some, Option.some.injEq] at hc h3
    subst hc
    exact ⟨_, h3, rfl, .val _ rfl, fun n k cs E e => by cases e⟩
  · by_cases hg' : g' = g
    · subst hg'
      exact ⟨Nat.lt_of_lt_of_le hlt' hgr.size, .inr hgiv⟩
    · simp [hg'] at e
theorem pc_sort0 : PCalls Tryd.prog 45 [.sl 0 1 [] none] (· = .tup []) := by
  refine ⟨by kernel_rfl, fun Φ μ w vs himm hgl hrep => ?_⟩
  have hl1 := hrep.1
  match vs, hl1 with
  | [v], _ =>
  obtain ⟨a, -, -, cap, -, rfl, -⟩ := (hrep.2 0 _ v rfl rfl).sl_inv
  refine (Tryd.slices_Sort_int_none a cap w).mono ?_
  rintro e w' ⟨rfl, rfl⟩
  exact ⟨.tup [], _, Φ, rfl, rfl, RepL.nil.tup, himm, fun _ _ _ => rfl, Below.refl _ _, fun n k cs E e => by cases e⟩
end Go.Proofs.YtilcpcpmkklobaaDoor

/- The disk: the sectors with open writes, in order. -/
namespace Go.Proofs.YtilcpcpmkklobaaDoor
set_option linter.unusedSimpArgs false
set_option linter.unusedVariables false
set_option linter.unnecessarySimpa false
open Go.RowKit

def keysR (op : List (Nat × Int × List Sec)) : List Int := op.map (·.2.1)
def DM.keys (D : DM) : List Int := sortI (keysR D.op)

theorem stamp_inj {α : Type} {op : List (Nat × α)} (hn : (op.map (·.1)).Nodup) {e e' : Nat × α} (he : e ∈ op) (he' : e' ∈ op) (h : e.1 = e'.1) : e = e' := by
  induction op with
  | nil => simp at he
  | cons x op ih =>
    simp only [List.map_cons, List.nodup_cons] at hn
    rcases List.mem_cons.1 he with h1 | h1 <;> rcases List.mem_cons.1 he' with h2 | h2
    · rw [h1, h2]
    · exact (hn.1 (List.mem_map.2 ⟨e', h2, by rw [← h, h1]⟩)).elim
    · exact (hn.1 (List.mem_map.2 ⟨e, h1, by rw [h, h2]⟩)).elim
    · exact ih hn.2 h1 h2
theorem nodup_sub_len {l : List Nat} : ∀ {l' : List Nat}, l.Nodup → (∀ x ∈ l, x ∈ l') → l.length ≤ l'.length := by
  induction l with
  | nil => intro l' _ _; simp
  | cons a l ih =>
    intro l' hn h
    rw [List.nodup_cons] at hn
    have h1 := h a (by simp)
    have h2 := ih (l' := l'.erase a) hn.2 (fun x hx => (List.mem_erase_of_ne (by rintro rfl; exact hn.1 hx)).2 (h x (by simp [hx])))
    rw [List.length_erase_of_mem h1] at h2
    have h3 := List.length_pos_of_mem h1
    simp; omega

/-- All stamps have been seen, each once: the keys are those of the map. -/
theorem perm_seen {op : List (Nat × Int × List Sec)} (hn : (op.map (·.1)).Nodup) : ∀ {p : List (Nat × Int)}, (p.map (·.1)).Nodup → (∀ x ∈ p, ∃ e ∈ op, e.1 = x.1 ∧ e.2.1 = x.2) → (∀ e ∈ op, e.1 ∈ p.map (·.1)) → (p.map (·.2)).Perm (keysR op) := by
  intro p hp h1 h2
  have h3 : p.Perm (op.map fun e => (e.1, e.2.1)) := by
    rw [List.perm_ext_iff_of_nodup]
    · rintro ⟨s, k⟩
      constructor
      · intro hx
        obtain ⟨e, he, e1, e2⟩ := h1 _ hx
        exact List.mem_map.2 ⟨e, he, by rw [e1, e2]⟩
      · intro hx
        obtain ⟨e, he, e1⟩ := List.mem_map.1 hx
        cases e1
        obtain ⟨⟨s', k'⟩, hy, e2⟩ := List.mem_map.1 (h2 e he)
        simp only at e2
        subst e2
        obtain ⟨e', he', f1, f2⟩ := h1 _ hy
        simp only at f1 f2
        have : e' = e := stamp_inj hn he' he f1
        subst this
        rw [f2]; exact hy
    · exact (List.Pairwise.of_map (S := (· ≠ ·)) (fun x => x.1) (fun _ _ h e => h (by rw [e])) hp)
    · refine List.Pairwise.of_map (S := (· ≠ ·)) (fun x => x.1) (fun _ _ h e => h (by rw [e])) ?_
      rw [List.map_map]; exact hn
  have h4 := h3.map (·.2)
  rw [List.map_map] at h4
  exact h4
theorem sortI_eq {l l' : List Int} (h : l.Perm l') : sortI l = sortI l' := by
  have h1 := sortI_sorted l
  have h2 := sortI_sorted l'
  exact ((sortI_perm l).trans (h.trans (sortI_perm l').symm)).eq_of_pairwise (fun a b _ _ h1 h2 => by omega) h1 h2
theorem nodup_len {op : List (Nat × Int × List Sec)} {p : List (Nat × Int)} (hp : (p.map (·.1)).Nodup) (h1 : ∀ x ∈ p, ∃ e ∈ op, e.1 = x.1 ∧ e.2.1 = x.2) : p.length ≤ op.length := by
  have := nodup_sub_len (l' := op.map (·.1)) hp (fun s hs => by
    obtain ⟨x, hx, rfl⟩ := List.mem_map.1 hs
    obtain ⟨e, he, e1, -⟩ := h1 x hx
    exact List.mem_map.2 ⟨e, he, e1⟩)
  simpa using this

theorem dsf_stands (D : DM) : StandsS (((bot.setb 1000001 (dB 1000002 1000003 D)).setb 1000002 (dC D)).setm 1000003 (dM D)) := by
  refine ⟨fun t => .inl .undef, fun i bs e c hc => ?_, fun i es clock e x hx => ?_⟩
  · simp only [PS.setm, PS.setb, bot, upd_if] at e
    split at e
    · cases e
      obtain ⟨x, -, hx⟩ := List.mem_flatMap.1 hc
      rcases List.mem_append.1 hx with h | h
      · obtain ⟨z, -, rfl⟩ := List.mem_map.1 h; exact .inl (.val _)
      · simp at h; subst h; exact .inl (.val _)
    · split at e
      · cases e
        simp only [dB, List.mem_cons, List.not_mem_nil, or_false] at hc
        rcases hc with rfl | rfl | rfl | rfl | rfl
        · exact .inl (.msl ..)
        · exact .inl (.mref _)
        · exact .inl (.val _)
        · exact .inl (.val _)
        · exact .inl (.val _)
      · cases e
  · simp only [PS.setm, PS.setb, bot, upd_if] at e
    split at e
    · cases e
      obtain ⟨y, -, rfl⟩ := List.mem_map.1 hx
      refine ⟨.val _, .inr ⟨_, _, _, _, rfl, by decide, fun p hp => ?_⟩⟩
      obtain ⟨s, -, hs⟩ := List.mem_flatMap.1 hp
      obtain ⟨z, -, rfl⟩ := List.mem_map.1 hs
      exact .val _
    · cases e

set_option maxRecDepth 10000 in
set_option maxHeartbeats 2000000 in
theorem dc_sectors (D : DM) (hop : D.op.length ≤ 1000000000) : DCalls 36 [] D (pints D.keys) D := by
  refine dcalls_of_pw Tryd.func36 rfl rfl (by simp) (by simp) (Nat.le_of_ble_eq_true rfl) (by exact lw) ?_
  refine wk ?_
  refine PWops.rng rfl rfl rfl rfl rfl rfl rfl rfl ?_
  refine wk ?_
  refine PW.stamps (id := 1000003) rfl (fun hs => ?_)
  have hst : (D.op.map (·.1)).Nodup := by
    have := hs.1
    rw [List.map_map] at this; exact this
  refine PW.loop (fun p : List (Nat × Int) => ((((((bot.setb 1000001 (dB 1000002 1000003 D)).setb 1000002 (dC D)).setm 1000003 (dM D)).setm 2004 (.iter 1000003 D.clock (p.map (·.1)) D.clock)).put 0 (.ptr 1000001 0)).put 9 (.ptr 2004 0)).put 3 (.sl p.length 1 ((p.map (·.2)).map pint) (some 3)))
    (fun p => (p.map (·.1)).Nodup ∧ ∀ x ∈ p, ∃ e ∈ D.op, e.1 = x.1 ∧ e.2.1 = x.2) (fun p => D.op.length - p.length) [] ?_ ?_ ?_
  · exact ⟨List.nodup_nil, by simp⟩
  · have hl := dC_low D
    have hlm := dM_low D
    exact sb
  · rintro p ⟨i1, i2⟩
    have hpl := nodup_len i1 i2
    refine PW.seq ?_
    refine PWnext typeTab_ok (it := 2004) (mid := 1000003) (es := D.op.map dE) (clock := D.clock) rfl rfl rfl (by decide) rfl ?_ ?_ ?_
    · cases hsn : D.op with
      | nil => exact .inr (.inl rfl)
      | cons e r =>
        refine .inr (.inr ⟨dE e, by simp, ?_⟩)
        exact hs.2 _ (List.mem_map_of_mem (f := dE) (show e ∈ D.op by rw [hsn]; simp))
    · intro hno
      have hall : ∀ e ∈ D.op, e.1 ∈ p.map (·.1) := fun e he => hno (dE e) (List.mem_map_of_mem he) (hs.2 _ (List.mem_map_of_mem he))
      have hperm := perm_seen hst i1 i2 hall
      have hkeys : D.keys = sortI (p.map (·.2)) := by unfold DM.keys; exact (sortI_eq hperm).symm
      refine wg ?_
      rcases Nat.eq_zero_or_pos p.length with h0 | h0
      · obtain rfl : p = [] := List.eq_nil_of_length_eq_zero h0
        have hk0 : D.keys = [] := by rw [hkeys]; simp [sortI]
        rw [hk0]
        have hsort := pc_sort0
        refine wk ?_
        exact RetH.mk rfl (Weak.refl _) ⟨⟨_, rfl, WeakL.refl _⟩, ⟨_, rfl, WeakL.refl _⟩, trivial⟩ ⟨⟨rfl, rfl⟩, trivial⟩
      · have hsort := hc_sort (p.map (·.2)) ⟨by simpa using h0, by simp; omega⟩ 900001
        rw [← hkeys] at hsort
        have hkl : D.keys.length = p.length := by rw [hkeys, sortI_length, List.length_map]
        rw [List.length_map] at hsort
        refine PW.thaw (s := 3) (id := 900001) (σ' := ((bot.setb 1000001 (dB 1000002 1000003 D)).setb 1000002 (dC D)).setm 1000003 (dM D)) rfl (by decide) h0 ?_ rfl (by decide) rfl (dsf_stands D) ?_
        · have hl := dC_low D
          have hlm := dM_low D
          exact sbr0
        refine PW.region typeTab_ok (by kernel_rfl) ?_
        refine wg ?_
        refine PW.freeze (s := 3) (id := 900001) (σ' := ((bot.setb 1000001 (dB 1000002 1000003 D)).setb 1000002 (dC D)).setm 1000003 (dM D)) rfl rfl (by rw [List.length_map, hkl, Nat.mul_one]) (fun c hc => by obtain ⟨z, -, rfl⟩ := List.mem_map.1 hc; exact .val _) ?_ rfl ?_
        · have hl := dC_low D
          have hlm := dM_low D
          exact sbr0
        rw [← hkl]
        refine wk ?_
        exact RetH.mk rfl (Weak.refl _) ⟨⟨_, rfl, WeakL.refl _⟩, ⟨_, rfl, WeakL.refl _⟩, trivial⟩ ⟨⟨rfl, rfl⟩, trivial⟩
    · intro e' he' hns
      obtain ⟨e, he, rfl⟩ := List.mem_map.1 he'
      have hfs := find_stamp (es := D.op.map dE) (e := dE e) hs.1 he'
      have hlt : p.length < D.op.length := by
        have h1 := nodup_len (op := D.op) (p := p ++ [(e.1, e.2.1)]) (by
          rw [List.map_append, List.nodup_append]
          exact ⟨i1, by simp, fun x hx y hy => by simp at hy; subst hy; rintro rfl; exact hns hx⟩) (fun x hx => by
          rcases List.mem_append.1 hx with h | h
          · exact i2 x h
          · simp at h; subst h; exact ⟨e, he, rfl, rfl⟩)
        simp at h1; omega
      refine wk ?_
      refine PWops.ent (seen := p.map (·.1)) (s := e.1) rfl rfl rfl rfl rfl rfl rfl hfs rfl ?_
      refine wk ?_
      refine loopP (p ++ [(e.1, e.2.1)]) ⟨?_, ?_⟩ ?_ ?_
      · rw [List.map_append, List.nodup_append]
        exact ⟨i1, by simp, fun x hx y hy => by simp at hy; subst hy; rintro rfl; exact hns hx⟩
      · intro x hx
        rcases List.mem_append.1 hx with h | h
        · exact i2 x h
        · simp at h; subst h; exact ⟨e, he, rfl, rfl⟩
      · simp; omega
      · have hl := dC_low D
        have hlm := dM_low D
        try dsimp only
        have hp3 : Low (.sl (p.length + 1) 1 ((p.map (·.2)).map pint ++ [pint e.2.1]) (some 3)) := .sl _ _ _ _ (fun c hc => by
          rcases List.mem_append.1 hc with h | h
          · obtain ⟨z, -, rfl⟩ := List.mem_map.1 h; exact .val _
          · simp at h; subst h; exact .val _)
        rw [List.map_append, List.map_append, List.map_append, List.length_append]
        dsimp only [List.map_cons, List.map_nil, List.length_cons, List.length_nil, Nat.zero_add]
        exact sb
end Go.Proofs.YtilcpcpmkklobaaDoor

/- Pure states: contracts at other numbers, put together. -/
namespace Go.Proofs.YtilcpcpmkklobaaDoor
set_option linter.unusedSimpArgs false
set_option linter.unusedVariables false
set_option linter.unnecessarySimpa false
open Go.RowKit

/-- Numbers put otherwise, by a list. -/
def renN : List (Nat × Nat) → Nat → Nat
  | [], i => i
  | (a, b) :: l, i => cond (Nat.beq i a) b (renN l i)
theorem renN_mem : ∀ {l : List (Nat × Nat)} {i : Nat}, i ∈ l.map (·.1) → (i, renN l i) ∈ l
  | [], i, h => by simp at h
  | (a, b) :: l, i, h => by
    unfold renN
    cases e : Nat.beq i a with
    | true =>
      have e' := Nat.eq_of_beq_eq_true e
      subst e'; exact List.mem_cons_self ..
    | false =>
      refine List.mem_cons_of_mem _ (renN_mem ?_)
      rcases List.mem_cons.1 h with rfl | h
      · rw [Nat.beq_refl] at e; cases e
      · exact h
theorem renN_inj {l : List (Nat × Nat)} (h2 : (l.map (·.2)).Nodup) : ∀ i ∈ l.map (·.1), ∀ j ∈ l.map (·.1), renN l i = renN l j → i = j := by
  intro i hi j hj e
  have h3 := renN_mem hi
  have h4 := renN_mem hj
  rw [e] at h3
  have key : ∀ {l : List (Nat × Nat)} {a b c : Nat}, (l.map (·.2)).Nodup → (a, c) ∈ l → (b, c) ∈ l → a = b := by
    intro l
    induction l with
    | nil => intro a b c _ h; simp at h
    | cons x l ih =>
      intro a b c hn ha hb
      simp only [List.map_cons, List.nodup_cons] at hn
      rcases List.mem_cons.1 ha with ha | ha <;> rcases List.mem_cons.1 hb with hb | hb
      · rw [← ha] at hb; cases hb; rfl
      · exact absurd (List.mem_map.2 ⟨_, hb, by rw [← ha]⟩) hn.1
      · exact absurd (List.mem_map.2 ⟨_, ha, by rw [← hb]⟩) hn.1
      · exact ih hn.2 ha hb
  exact key h2 h3 h4

section
variable {S : Nat → Prop}
theorem li_nil : ∀ p ∈ ([] : List PV), LowI S p := by simp
theorem li_cons {p : PV} {ps : List PV} (h : LowI S p) (hs : ∀ q ∈ ps, LowI S q) : ∀ q ∈ p :: ps, LowI S q := by
  intro q hq
  rcases List.mem_cons.1 hq with rfl | hq
  · exact h
  · exact hs q hq
theorem li_low {ps : List PV} (h : ∀ p ∈ ps, Low p) : ∀ p ∈ ps, LowI S p := fun p hp => (h p hp).lowI
theorem lb_nil : ∀ x ∈ ([] : List (Nat × List PV)), ∀ p ∈ x.2, LowI S p := by simp
theorem lb_cons {i : Nat} {bs : List PV} {l : List (Nat × List PV)} (h : ∀ p ∈ bs, LowI S p) (hs : ∀ x ∈ l, ∀ p ∈ x.2, LowI S p) : ∀ x ∈ (i, bs) :: l, ∀ p ∈ x.2, LowI S p := by
  intro x hx
  rcases List.mem_cons.1 hx with rfl | hx
  · exact h
  · exact hs x hx
theorem lm_nil : ∀ x ∈ ([] : List (Nat × PMap)), LowM S x.2 := by simp
theorem lm_cons {i : Nat} {es : List (Nat × PV × PV)} {c : Nat} {l : List (Nat × PMap)} (h : ∀ e ∈ es, Low e.2.1 ∧ Low e.2.2) (hs : ∀ x ∈ l, LowM S x.2) : ∀ x ∈ (i, PMap.map es c) :: l, LowM S x.2 := by
  intro x hx
  rcases List.mem_cons.1 hx with rfl | hx
  · exact fun e he => ⟨(h e he).1.lowI, (h e he).2.lowI⟩
  · exact hs x hx
end
section
variable {ρ : Nat → Nat} {S : Nat → Prop} {ps qs : List PV}
theorem ren_agg (h : RenL ρ S ps qs) : Ren ρ S (.agg ps) (.agg qs) := .agg _ _ h.1 h.2
theorem ren_fn {f : FuncId} (h : RenL ρ S ps qs) : Ren ρ S (.fn f ps) (.fn f qs) := .fn _ _ _ h.1 h.2
theorem ren_sl {n k : Nat} (h : RenL ρ S ps qs) : Ren ρ S (.sl n k ps none) (.sl n k qs none) := .sl _ _ _ _ h.1 h.2
end
/-- A contract at other numbers. -/
theorem HCalls.at {P : Program} {f : FuncId} {args args' : List PV} {given given' res res' : List (Nat × List PV)} {gm gm' rm rm' : List (Nat × PMap)} {r r' : PV} (h : HCalls P f args given gm r res rm) (L : List (Nat × Nat)) (hd : (L.map (·.2)).Nodup) (hs : ∀ i ∈ ResIds res rm, i ∈ L.map (·.1)) (hs1 : ∀ i ∈ given.map (·.1), i ∈ res.map (·.1)) (hs2 : ∀ i ∈ gm.map (·.1), i ∈ rm.map (·.1))
    (ha : RenL (renN L) (fun i => i ∈ ResIds given gm) args args') (hg : RenB (renN L) (fun i => i ∈ ResIds given gm) given given') (hm : RenMs (renN L) (fun i => i ∈ ResIds given gm) gm gm')
    (hr : Ren (renN L) (fun i => i ∈ ResIds res rm) r r') (hres : RenB (renN L) (fun i => i ∈ ResIds res rm) res res') (hrm : RenMs (renN L) (fun i => i ∈ ResIds res rm) rm rm') : HCalls P f args' given' gm' r' res' rm' :=
  h.ren (renN L) hs1 hs2 (fun i hi j hj e => renN_inj hd i (hs i hi) j (hs j hj) e) ha hg hm hr hres hrm
end Go.Proofs.YtilcpcpmkklobaaDoor

/- The disk: Crash. -/
namespace Go.Proofs.YtilcpcpmkklobaaDoor
set_option linter.unusedSimpArgs false
set_option linter.unusedVariables false
set_option linter.unnecessarySimpa false
open Go.RowKit

def keepAt (keep : List Int) (n : Nat) : Int := if keep = [] then 0 else keep.getD (n % keep.length) default
/-- The sectors after a failure: the first n of those with open writes are as they are found. -/
def crashL (D : DM) (keep : List Int) : Nat → List DCell
  | 0 => D.cells
  | n + 1 => (crashL D keep n).set (D.keys.getD n default).toNat (found (D.cell (D.keys.getD n default)) (D.get (D.keys.getD n default)) (keepAt keep n))
def DM.crash (D : DM) (keep : List Int) : DM := ⟨crashL D keep D.keys.length, [], 0, 0, -1, false⟩
theorem crashL_len (D : DM) (keep : List Int) : ∀ n, (crashL D keep n).length = D.cells.length
  | 0 => rfl
  | n + 1 => by rw [crashL, List.length_set]; exact crashL_len D keep n
theorem flat_bare {α : Type} {f : α → List PV} (h : ∀ x, (f x).map PV.bare = f x) (l : List α) : (l.flatMap f).map PV.bare = l.flatMap f := by
  rw [List.map_flatMap]; congr 1; funext x; exact h x
theorem dC_bare (D : DM) : (dC D).map PV.bare = dC D := flat_bare dcellL_bare _
theorem dC_len (D : DM) : (dC D).length = D.cells.length * 65 := flatMap_len dcellL_len _
theorem copy_cells {b : Nat → Option (List PV)} {id : Nat} (D : DM) (h : b id = some (dC D)) : copySrc b 65 (.msl id 0 D.cells.length 65) = some (D.cells.length, dC D) := by
  show (if (65 : Nat) = 65 then _ else none) = _
  rw [if_pos rfl, h]
  show (if 0 + D.cells.length * 65 ≤ (dC D).length then some (D.cells.length, (((dC D).drop 0).take (D.cells.length * 65)).map PV.bare) else none) = _
  rw [if_pos (by rw [dC_len]; omega), List.drop_zero, List.take_of_length_le (by rw [dC_len]; exact Nat.le_refl _), dC_bare]
theorem keys_len (D : DM) : D.keys.length = D.op.length := by unfold DM.keys keysR; rw [sortI_length, List.length_map]
theorem keys_mem {D : DM} {i : Int} : i ∈ D.keys ↔ i ∈ D.op.map (·.2.1) := by unfold DM.keys keysR; exact (sortI_perm _).mem_iff
theorem keys_at {D : DM} (hop : opOK D.cells.length D.op) {n : Nat} (hn : n < D.keys.length) : 0 ≤ D.keys.getD n default ∧ D.keys.getD n default < D.cells.length ∧ opIdx (D.keys.getD n default) D.op 0 ≠ none ∧ 0 < (D.get (D.keys.getD n default)).length ∧ (D.get (D.keys.getD n default)).length ≤ 1000000000 := by
  have hm : D.keys.getD n default ∈ D.keys := by
    rw [List.getD_eq_getElem?_getD, List.getElem?_eq_getElem hn]; exact List.getElem_mem hn
  generalize D.keys.getD n default = i at *
  obtain ⟨e, he, rfl⟩ := List.mem_map.1 (keys_mem.1 hm)
  obtain ⟨q1, q2, q3, q4⟩ := hop.2 e he
  obtain ⟨j, hj⟩ := List.getElem?_of_mem he
  have hix : opIdx e.2.1 D.op 0 = some j := by rw [opIdx_mem hop.1 hj, Nat.zero_add]
  have hget : D.get e.2.1 = e.2.2 := by
    unfold DM.get; rw [hix]
    simp only [List.getD_eq_getElem?_getD, hj, Option.getD_some]
  exact ⟨q1, q2, by rw [hix]; simp, by rw [hget]; exact q3, by rw [hget]; exact q4⟩

def crG (d c m d2 c2 m2 : Nat) (D D2 : DM) : List (Nat × List PV) := [(d, dB c m D), (c, dC D), (d2, dB c2 m2 D2), (c2, dC D2)]
def crM (m m2 : Nat) (D D2 : DM) : List (Nat × PMap) := [(m, dM D), (m2, dM D2)]

set_option maxRecDepth 10000 in
set_option maxHeartbeats 2000000 in
theorem dc_Crash1 (D : DM) (keep : List Int) (hsz : 1 ≤ D.cells.length ∧ D.cells.length ≤ 65536) (hop : opOK D.cells.length D.op) (hol : D.op.length ≤ 1000000000) (hk : keep.length ≤ 1000000000000000) (hki : ∀ x ∈ keep, -9223372036854775808 ≤ x ∧ x ≤ 9223372036854775807) :
    HCalls Tryd.prog 20 [.ptr 1000001 0, pints keep] (dG 1000001 1000002 1000003 D) (dMs 1000003 D) (.ptr 900005 0) (crG 1000001 1000002 1000003 900005 900006 900007 D (D.crash keep)) (crM 1000003 900007 D (D.crash keep)) := by
  have c1 := dC_low D
  have c2 := dM_low D
  have c3 := dC_low (D.crash keep)
  have c4 := dM_low (D.crash keep)
  have hsec := dc_sectors D hol 1000001 1000002 1000003 (by decide)
  have hnew := dc_New D.cells.length (by omega) 900005 900006 900007 (by decide)
  rw [Int.toNat_natCast] at hnew
  refine hcalls_of_pw typeTab_ok Tryd.func20 rfl rfl (by simp [PV.ownB, pints]) (Nat.le_of_ble_eq_true rfl) (by simp [ResIds, dG, dMs]) (by simp [ResIds, dG, dMs]) ⟨li_cons (.ptr _ _ (by first | simp [ResIds, dG, dMs, jG] | simp [ResIds, dG, dMs, crG, crM] | simp [ResIds, dG, dMs])) (li_cons (Low.lowI (by exact lw)) li_nil), by (repeat (first | exact li_nil | exact lb_nil | refine lb_cons ?_ ?_ | refine li_cons ?_ ?_ | exact dB_lowI (by first | simp [ResIds, dG, dMs, jG] | simp [ResIds, dG, dMs, crG, crM] | simp [ResIds, dG, dMs]) (by first | simp [ResIds, dG, dMs, jG] | simp [ResIds, dG, dMs, crG, crM] | simp [ResIds, dG, dMs]) _ | exact li_low (dC_low _) | exact LowI.ptr _ _ (by first | simp [ResIds, dG, dMs, jG] | simp [ResIds, dG, dMs, crG, crM] | simp [ResIds, dG, dMs]) | exact LowI.mref _ (by first | simp [ResIds, dG, dMs, jG] | simp [ResIds, dG, dMs, crG, crM] | simp [ResIds, dG, dMs]) | exact LowI.msl _ _ _ _ (by first | simp [ResIds, dG, dMs, jG] | simp [ResIds, dG, dMs, crG, crM] | simp [ResIds, dG, dMs]) | exact LowI.val _ | exact LowI.nilsl | exact Low.lowI (low_pputs _) | exact Low.lowI (psec_low _) | exact li_low (secL_low _) | exact li_low (by assumption) | refine LowI.agg _ ?_ | refine LowI.fn _ _ ?_ | refine LowI.tup _ ?_ | refine LowI.sl _ _ _ _ ?_)), lm_cons c2 lm_nil, .ptr _ _ (by simp [ResIds, crG, crM]), lb_cons (dB_lowI (by simp [ResIds, crG, crM]) (by simp [ResIds, crG, crM]) _) (lb_cons (li_low c1) (lb_cons (dB_lowI (by simp [ResIds, crG, crM]) (by simp [ResIds, crG, crM]) _) (lb_cons (li_low c3) lb_nil))), lm_cons c2 (lm_cons c4 lm_nil), by simp [crG, dG], by simp [crM, dMs]⟩ ?_
  have hnl : (newD D.cells.length).cells.length = D.cells.length := by simp [newD]
  have hnB : dB 900006 900007 (newD D.cells.length) = dB 900006 900007 (D.crash keep) := by simp [dB, newD, DM.crash, crashL_len]
  have hnM : dM (newD D.cells.length) = dM (D.crash keep) := rfl
  have hnC := dC_len (newD D.cells.length)
  rw [hnl] at hnC
  have hlk := keys_len D
  generalize hN : newD D.cells.length = N at *
  refine wk ?_
  refine PWops.copy (n2 := D.cells.length) (cs := dC D) (out := dC D) rfl rfl rfl rfl rfl ?_ rfl rfl rfl ?_ ?_ ?_ ?_
  · exact copy_cells D rfl
  · show 0 + min D.cells.length N.cells.length * 65 ≤ (dC N).length
    rw [hnC, hnl, Nat.min_self]; omega
  · rw [dC_len, hnl, Nat.min_self]; exact Nat.le_refl _
  · rw [hnl, Nat.min_self, ← dC_len D, List.take_length]
    unfold splice
    rw [List.take_zero, List.nil_append, Nat.zero_add, List.drop_of_length_le (by rw [hnC, dC_len]; exact Nat.le_refl _), List.append_nil]
  have hG : dG 900005 900006 900007 N = [(900005, dB 900006 900007 (D.crash keep)), (900006, dC N)] := by rw [← hnB]; rfl
  have hM : dMs 900007 N = [(900007, dM (D.crash keep))] := by rw [← hnM]; rfl
  rw [hG, hM, hnl, Nat.min_self]
  refine wk ?_
  refine PW.loop (fun n : Nat => (((((((((((bot.setb 1000001 (dB 1000002 1000003 D)).setb 1000002 (dC D)).setm 1000003 (dM D)).setb 900005 (dB 900006 900007 (D.crash keep))).setb 900006 ((crashL D keep n).flatMap dcellL)).setm 900007 (dM (D.crash keep))).put 0 (.ptr 1000001 0)).put 1 (pints keep)).put 5 (.ptr 900005 0)).put 25 (pints D.keys)).put 26 (pint D.keys.length)).put 27 (pint n))
    (fun n => n ≤ D.keys.length) (fun n => D.keys.length - n) 0 (Nat.zero_le _) ?_ ?_
  · exact sb
  · intro n hn
    by_cases hlt : n < D.keys.length
    · obtain ⟨k0, k1, k2, k3, k4⟩ := keys_at hop hlt
      obtain ⟨b, hb⟩ := dget D (D.keys.getD n default) (ki := ⟨1, false, .int .i64, [.val (.int .i64 0)], []⟩) (ei := ⟨1, false, .slice 53 64 64 (List.replicate 64 (.val (.int .u8 0))), [.nilsl], []⟩) rfl rfl
      rw [if_neg k2] at hb
      have hst : (crashL D keep (n + 1)) = (crashL D keep n).set (D.keys.getD n default).toNat (found (D.cell (D.keys.getD n default)) (D.get (D.keys.getD n default)) (keepAt keep n)) := rfl
      have hcl := crashL_len D keep n
      have hcc : (D.crash keep).cells.length = D.cells.length := crashL_len D keep _
      by_cases hk0 : keep = []
      · have hka : keepAt keep n = 0 := by rw [keepAt, if_pos hk0]
        have hf := pw_found (D.cell (D.keys.getD n default)) (D.get (D.keys.getD n default)) 0 ⟨k3, k4⟩ (by omega)
        rw [hka] at hst
        subst hk0
        refine wk ?_
        refine PWops.stBR (v := found (D.cell (D.keys.getD n default)) (D.get (D.keys.getD n default)) 0) rfl rfl rfl rfl rfl (by exact dcellL_cells _) rfl rfl rfl dcellL_len (by (first | omega | (dsimp only ; omega))) rfl ?_
        refine wk ?_
        refine loopP (n + 1) (by omega) (by omega) ?_
        try dsimp only
        rw [hst]
        have hlc : ∀ p ∈ ((crashL D [] n).set (D.keys.getD n default).toNat (found (D.cell (D.keys.getD n default)) (D.get (D.keys.getD n default)) 0)).flatMap dcellL, Low p := flat_low dcellL_low _
        exact sb
      · have hkl : 0 < keep.length := List.length_pos_iff.2 hk0
        have hka : keepAt keep n = keep.getD (n % keep.length) default := by rw [keepAt, if_neg hk0]
        have hkr : -9223372036854775808 ≤ keep.getD (n % keep.length) default ∧ keep.getD (n % keep.length) default ≤ 9223372036854775807 := by
          refine hki _ ?_
          rw [List.getD_eq_getElem?_getD, List.getElem?_eq_getElem (Nat.mod_lt _ hkl)]; exact List.getElem_mem _
        have hf := pw_found (D.cell (D.keys.getD n default)) (D.get (D.keys.getD n default)) _ ⟨k3, k4⟩ hkr
        rw [hka] at hst
        have hmod := Nat.mod_lt n hkl
        have hrem : ((n : Int)).tmod keep.length = ((n % keep.length : Nat) : Int) := rfl
        generalize n % keep.length = q at *
        refine wk ?_
        refine PWops.remY (z := (q : Int)) rfl rfl rfl rfl rfl rfl (by omega) hrem ?_
        refine wk ?_
        refine PWops.stBR (v := found (D.cell (D.keys.getD n default)) (D.get (D.keys.getD n default)) (keep.getD q default)) rfl rfl rfl rfl rfl (by exact dcellL_cells _) rfl rfl rfl dcellL_len (by (first | omega | (dsimp only ; omega))) rfl ?_
        refine wk ?_
        refine loopP (n + 1) (by omega) (by omega) ?_
        try dsimp only
        rw [hst]
        have hlc : ∀ p ∈ ((crashL D keep n).set (D.keys.getD n default).toNat (found (D.cell (D.keys.getD n default)) (D.get (D.keys.getD n default)) (keep.getD q default))).flatMap dcellL, Low p := flat_low dcellL_low _
        exact sb
    · obtain rfl : n = D.keys.length := by omega
      refine wk ?_
      exact RetH.mk rfl (Weak.refl _) ⟨⟨_, rfl, WeakL.refl _⟩, ⟨_, rfl, WeakL.refl _⟩, ⟨_, rfl, WeakL.refl _⟩, ⟨_, rfl, WeakL.refl _⟩, trivial⟩ ⟨⟨rfl, rfl⟩, ⟨rfl, rfl⟩, trivial⟩
theorem dc_Crash (D : DM) (keep : List Int) (hsz : 1 ≤ D.cells.length ∧ D.cells.length ≤ 65536) (hop : opOK D.cells.length D.op) (hol : D.op.length ≤ 1000000000) (hk : keep.length ≤ 1000000000000000) (hki : ∀ x ∈ keep, -9223372036854775808 ≤ x ∧ x ≤ 9223372036854775807) (d c m d2 c2 m2 : Nat) (hd : ([d, c, m, d2, c2, m2] : List Nat).Nodup) :
    HCalls Tryd.prog 20 [.ptr d 0, pints keep] (dG d c m D) (dMs m D) (.ptr d2 0) (crG d c m d2 c2 m2 D (D.crash keep)) (crM m m2 D (D.crash keep)) := by
  refine (dc_Crash1 D keep hsz hop hol hk hki).at [(1000001, d), (1000002, c), (1000003, m), (900005, d2), (900006, c2), (900007, m2)] (by simpa using hd) (by simp [ResIds, crG, crM]) (by simp [crG, dG]) (by simp [crM, dMs]) (.cons (.ptr _ _ (by first | simp [ResIds, dG, dMs, jG] | simp [ResIds, dG, dMs, crG, crM] | simp [ResIds, dG, dMs])) (.cons (.low _ (by exact lw)) .nil)) ?_ ?_ ?_ ?_ (.cons _ _ _ _ _ (RenM.low (dM_low _)) (.cons _ _ _ _ _ (RenM.low (dM_low _)) .nil)) <;> exact ren0
end Go.Proofs.YtilcpcpmkklobaaDoor

/- The disk that may fail: calls one after the other, up to the first error; what a failure leaves. -/
namespace Go.Proofs.YtilcpcpmkklobaaDoor
set_option linter.unusedSimpArgs false
set_option linter.unusedVariables false
set_option linter.unnecessarySimpa false
open Go.RowKit

theorem gset {α : Type} {l : List α} {i j : Nat} {v d : α} (hi : i < l.length) : (l.set i v).getD j d = if j = i then v else l.getD j d := by
  simp only [List.getD_eq_getElem?_getD, List.getElem?_set]
  by_cases h : i = j
  · subst h; simp [hi]
  · rw [if_neg h, if_neg (fun e => h e.symm)]
theorem opFind_get {n k : Nat} {D : DM} (h : OkD n k D) (q : Int) : opFind q D.op = if D.get q = [] then none else some (D.get q) := by
  rw [get_find]
  cases hf : opFind q D.op with
  | none => simp
  | some l =>
    have hl : 0 < l.length := by
      rw [opFind_idx D.op 0] at hf
      cases hj : opIdx q D.op 0 with
      | none => rw [hj] at hf; cases hf
      | some j =>
        rw [hj] at hf
        obtain ⟨-, h2, s', v, h3⟩ := opIdx_lt hj
        simp only [Nat.sub_zero, List.getD_eq_getElem?_getD] at h3 hf
        rw [h3] at hf
        simp at hf
        subst hf
        exact (h.op.2 _ (List.mem_of_getElem? h3)).2.2.1
    have : l ≠ [] := List.length_pos_iff.1 hl
    simp [this]
theorem crashL_at {n k : Nat} {D : DM} (h : OkD n k D) (keep : List Int) {q : Nat} (hq : q < n) : ∀ m, m ≤ D.keys.length → if (q : Int) ∈ D.keys.take m then ∃ x, (crashL D keep m).getD q default = found (D.cell q) (D.get q) x else (crashL D keep m).getD q default = D.cell q
  | 0, _ => by
    rw [List.take_zero, if_neg (by simp)]
    show D.cells.getD q default = D.cells.getD (q : Int).toNat default
    rw [Int.toNat_natCast]
  | m + 1, hm => by
    have ih := crashL_at h keep hq m (by omega)
    have hop : opOK D.cells.length D.op := by rw [h.len]; exact h.op
    obtain ⟨k1, k2, -⟩ := keys_at hop (n := m) (by omega)
    have ht : D.keys.take (m + 1) = D.keys.take m ++ [D.keys.getD m default] := by
      rw [List.take_add_one, List.getD_eq_getElem?_getD, List.getElem?_eq_getElem (by omega)]; rfl
    rw [ht, crashL, gset (by rw [crashL_len]; omega)]
    generalize D.keys.getD m default = key at *
    by_cases e : q = key.toNat
    · have e' : (q : Int) = key := by omega
      rw [if_pos e, if_pos (by rw [e']; simp), ← e']
      exact ⟨_, rfl⟩
    · have e' : (q : Int) ≠ key := by omega
      rw [if_neg e]
      by_cases c : (q : Int) ∈ D.keys.take m
      · rw [if_pos c] at ih
        rw [if_pos (List.mem_append.2 (.inl c))]
        exact ih
      · rw [if_neg c] at ih
        rw [if_neg (by simp only [List.mem_append, List.mem_singleton, not_or]; exact ⟨c, e'⟩)]
        exact ih
theorem get_key {n k : Nat} {D : DM} (h : OkD n k D) (q : Int) : q ∈ D.keys ↔ D.get q ≠ [] := by
  rw [keys_mem]
  have hf := opFind_get h q
  constructor
  · intro hm e
    obtain ⟨x, hx, rfl⟩ := List.mem_map.1 hm
    obtain ⟨j, hj⟩ := List.getElem?_of_mem hx
    rw [opFind_at h.op.1 hj, if_pos e] at hf
    cases hf
  · intro hne
    by_cases c : q ∈ D.op.map (·.2.1)
    · exact c
    · rw [opFind_none c, if_neg hne] at hf
      cases hf
theorem crash_cell {n k : Nat} {D : DM} (h : OkD n k D) (keep : List Int) {q : Nat} (hq : q < n) : if D.get q = [] then (D.crash keep).cell q = D.cell q else ∃ x, (D.crash keep).cell q = found (D.cell q) (D.get q) x := by
  have h1 := crashL_at h keep hq D.keys.length (Nat.le_refl _)
  rw [List.take_length] at h1
  have e : (D.crash keep).cell q = (crashL D keep D.keys.length).getD q default := by
    show (crashL D keep D.keys.length).getD (q : Int).toNat default = _
    rw [Int.toNat_natCast]
  rw [e]
  by_cases c : D.get q = []
  · rw [if_pos c]
    rw [if_neg (fun hm => (get_key h q).1 hm c)] at h1
    exact h1
  · rw [if_neg c]
    rw [if_pos ((get_key h q).2 c)] at h1
    exact h1
theorem opOK_len {n : Nat} {op : List (Nat × Int × List Sec)} (h : opOK n op) : op.length ≤ n := by
  have h1 : (op.map (·.2.1)).length ≤ ((List.range n).map (fun i : Nat => (i : Int))).length := by
    refine List.Nodup.length_le_of_subset h.1 (fun x hx => ?_)
    obtain ⟨e, he, rfl⟩ := List.mem_map.1 hx
    obtain ⟨q0, q1, -⟩ := h.2 e he
    exact List.mem_map.2 ⟨e.2.1.toNat, List.mem_range.2 (by omega), by omega⟩
  simpa using h1
theorem crash_ok {n k : Nat} {D : DM} (h : OkD n k D) (keep : List Int) : OkD n 0 (D.crash keep) :=
  ⟨rfl, rfl, by show (crashL D keep _).length = n; rw [crashL_len]; exact h.len, ⟨Int.le_refl _, Int.le_refl _⟩, ⟨List.nodup_nil, by simp [DM.crash]⟩, by simp [DM.crash]⟩
theorem crash_get (D : DM) (keep : List Int) (q : Int) : (D.crash keep).get q = [] := by rw [get_find]; rfl

/-- A disk's sectors and open writes, and nothing else. -/
def DM.base (D : DM) : DM := { D with dead := false, after := -1, steps := 0 }
theorem base_addW {D E : DM} (h : D.base = E.base) (i : Int) (s : Sec) : (addW D i s).base = (addW E i s).base := by
  obtain ⟨c, o, k, a, b, d⟩ := D
  obtain ⟨c', o', k', a', b', d'⟩ := E
  simp only [DM.base, DM.mk.injEq, and_true] at h
  obtain ⟨rfl, rfl, rfl⟩ := h
  unfold addW
  simp only
  split <;> rfl
theorem get_base {D E : DM} (h : D.base = E.base) (q : Int) : D.get q = E.get q := by
  show D.base.get q = E.base.get q
  rw [h]
theorem cell_base {D E : DM} (h : D.base = E.base) (q : Int) : D.cell q = E.cell q := by
  show D.base.cell q = E.base.cell q
  rw [h]
theorem OkD.base {n k : Nat} {D : DM} (h : OkD n k D) : OkD n k D.base := ⟨rfl, rfl, h.len, ⟨Int.le_refl _, by simp [DM.base]⟩, h.op, h.room⟩
theorem crashL_base (D : DM) (keep : List Int) : ∀ n, crashL D.base keep n = crashL D keep n
  | 0 => rfl
  | n + 1 => by
    rw [crashL, crashL, crashL_base D keep n]; rfl
theorem crash_base (D : DM) (keep : List Int) : D.base.crash keep = D.crash keep := by
  unfold DM.crash
  rw [crashL_base]; rfl
theorem read_base {D : DM} (h : D.dead = false) (q : Int) : D.base.read q = D.read q := by
  unfold DM.read
  have : D.base.check q = D.check q := by unfold DM.check DM.base; rw [h]
  rw [this]; rfl

/-- What is read where nothing is open, after a failure. -/
theorem crash_read {n k : Nat} {D : DM} (h : OkD n k D) (keep : List Int) {q : Int} (q0 : 0 ≤ q) (q1 : q < n) (hg : D.get q = []) : (D.crash keep).read q = D.read q := by
  obtain ⟨q, rfl⟩ : ∃ z : Nat, q = z := ⟨q.toNat, by omega⟩
  have hc := crash_cell h keep (q := q) (by omega)
  rw [if_pos hg] at hc
  rw [(crash_ok h keep).read q0 q1, h.read q0 q1, crash_get, hg, hc]
/-- What is read where one write is open, after a failure. -/
theorem crash_read1 {n k : Nat} {D : DM} (h : OkD n k D) (keep : List Int) {q : Int} (q0 : 0 ≤ q) (q1 : q < n) {g : Sec} (hg : D.get q = [g]) : (D.crash keep).read q = (if (D.cell q).bad then (zeroSec, 221) else ((D.cell q).s, 0)) ∨ (D.crash keep).read q = (zeroSec, 221) ∨ ∃ s : Sec, (D.crash keep).read q = (s, 0) ∧ s.1.take 32 = g.1.take 32 := by
  obtain ⟨q, rfl⟩ : ∃ z : Nat, q = z := ⟨q.toNat, by omega⟩
  have hc := crash_cell h keep (q := q) (by omega)
  rw [if_neg (by rw [hg]; simp)] at hc
  obtain ⟨x, hx⟩ := hc
  rw [(crash_ok h keep).read q0 q1, crash_get, if_neg (by simp), hx, hg]
  have hr : 0 ≤ foundR [g] x ∧ foundR [g] x < 4 := by
    unfold foundR
    simp only [List.length_cons, List.length_nil]
    omega
  unfold found
  by_cases c0 : foundR [g] x = 0
  · rw [if_pos c0]; exact .inl rfl
  rw [if_neg c0]
  by_cases c1 : foundR [g] x ≤ ([g] : List Sec).length
  · rw [if_pos c1]
    have e1 : foundR [g] x = 1 := by simp only [List.length_cons, List.length_nil] at c1; omega
    rw [e1]
    exact .inr (.inr ⟨g, rfl, rfl⟩)
  rw [if_neg c1]
  by_cases c2 : foundR [g] x = ([g] : List Sec).length + 1
  · rw [if_pos c2]; exact .inr (.inl rfl)
  rw [if_neg c2]
  have e2 : lastS [g] = g := rfl
  rw [e2]
  by_cases c3 : (beforeS (D.cell q) [g]).1 = g.1
  · rw [if_pos c3]; exact .inr (.inr ⟨g, rfl, rfl⟩)
  · rw [if_neg c3]
    refine .inr (.inr ⟨mixS g _, rfl, ?_⟩)
    show (g.1.take 32 ++ _).take 32 = _
    rw [List.take_append_of_le_length (by rw [List.length_take, g.2.1]; decide), List.take_take]; rfl

/-- A call that does a step. -/
inductive DOp where
  | w (i : Int) (s : Sec)
  | sync
def DOp.inD (n : Nat) : DOp → Prop
  | .w i _ => 0 ≤ i ∧ i < n
  | .sync => 0 < n
def DM.op1 (D : DM) : DOp → Int × DM
  | .w i s => D.write i s
  | .sync => D.sync
/-- Calls one after the other, up to the first error. -/
def DM.run (D : DM) : List DOp → Int × DM
  | [] => (0, D)
  | o :: os => if (D.op1 o).1 = 0 then DM.run (D.op1 o).2 os else D.op1 o
theorem run_append (D : DM) (a b : List DOp) : D.run (a ++ b) = if (D.run a).1 = 0 then (D.run a).2.run b else D.run a := by
  induction a generalizing D with
  | nil => rfl
  | cons o a ih =>
    rw [List.cons_append, DM.run, DM.run]
    by_cases h : (D.op1 o).1 = 0
    · rw [if_pos h, if_pos h, ih]
    · rw [if_neg h, if_neg h, if_neg h]
theorem run_one (D : DM) (o : DOp) : D.run [o] = D.op1 o := by
  rw [DM.run]
  by_cases h : (D.op1 o).1 = 0
  · rw [if_pos h, DM.run, ← h]
  · rw [if_neg h]
/-- What a call does to what is there, if the disk does not fail. -/
def DM.nx (D : DM) (o : DOp) : DM := (D.op1 o).2.base
def DM.nxs (D : DM) : List DOp → DM
  | [] => D
  | o :: os => DM.nxs (D.nx o) os
theorem nxs_append (D : DM) (a b : List DOp) : D.nxs (a ++ b) = (D.nxs a).nxs b := by
  induction a generalizing D with
  | nil => rfl
  | cons o a ih => rw [List.cons_append, DM.nxs, DM.nxs, ih]
theorem OkD.op1 {n k : Nat} {D : DM} (h : OkD n k D) {o : DOp} (ho : o.inD n) (hk : k < 1000000000) : (D.op1 o).1 = 0 ∧ OkD n (k + 1) (D.op1 o).2 := by
  cases o with
  | w i s => obtain ⟨a, b, -⟩ := h.write ho.1 ho.2 hk s; exact ⟨a, b⟩
  | sync => obtain ⟨a, b, -⟩ := h.sync_ok ho; exact ⟨a, b⟩
theorem OkD.nx {n k : Nat} {D : DM} (h : OkD n k D) {o : DOp} (ho : o.inD n) (hk : k < 1000000000) : OkD n (k + 1) (D.nx o) := (h.op1 ho hk).2.base
theorem OkD.run {n : Nat} : ∀ (l : List DOp) {k : Nat} {D : DM}, OkD n k D → (∀ o ∈ l, o.inD n) → k + l.length ≤ 1000000000 → (D.run l).1 = 0 ∧ OkD n (k + l.length) (D.run l).2
  | [], k, D, h, _, _ => ⟨rfl, h⟩
  | o :: l, k, D, h, hi, hk => by
    simp only [List.length_cons] at hk
    obtain ⟨a, b⟩ := h.op1 (hi o (List.mem_cons_self ..)) (by omega)
    rw [DM.run, if_pos a, List.length_cons, show k + (l.length + 1) = k + 1 + l.length by omega]
    exact OkD.run l b (fun q hq => hi q (List.mem_cons_of_mem _ hq)) (by omega)

/-- A disk of n sectors that may be armed, and may be down. -/
structure GoD (n k : Nat) (D : DM) : Prop where
  ok : OkD n k D.base
  steps : 0 ≤ D.steps ∧ D.steps ≤ k
  after : -1 ≤ D.after ∧ D.after ≤ 1000000
theorem GoD.mono {n k k' : Nat} {D : DM} (h : GoD n k D) (hk : k ≤ k') : GoD n k' D := ⟨h.ok.mono hk, by have := h.steps; omega, h.after⟩
theorem GoD.len {n k : Nat} {D : DM} (h : GoD n k D) : D.cells.length = n := h.ok.len
theorem GoD.op {n k : Nat} {D : DM} (h : GoD n k D) : opOK n D.op := h.ok.op
theorem GoD.room {n k : Nat} {D : DM} (h : GoD n k D) : ∀ e ∈ D.op, e.2.2.length ≤ k := h.ok.room
theorem OkD.go {n k : Nat} {D : DM} (h : OkD n k D) : GoD n k D := ⟨h.base, h.steps, by rw [h.after]; omega⟩
/-- What a call does: all of it, or nothing, and the disk is down. -/
structure Did (n k : Nat) (D B' : DM) (r : Int × DM) : Prop where
  go : GoD n k r.2
  res : (r.1 = 0 ∧ r.2.dead = D.dead ∧ r.2.base = B') ∨ (r.1 = 220 ∧ r.2.dead = true ∧ r.2.base = D.base)
theorem GoD.op1 {n k : Nat} {D : DM} (h : GoD n k D) {o : DOp} (ho : o.inD n) (hk : k < 1000000000) : Did n (k + 1) D (D.base.nx o) (D.op1 o) := by
  have hs := h.steps
  have ha := h.after
  have hB := h.ok.op1 ho hk
  by_cases hd : D.dead = true
  · have e : D.op1 o = (220, D) := by
      have hc : ∀ i, D.check i = 220 := fun i => by unfold DM.check; rw [if_pos hd]
      cases o with
      | w i s => show D.write i s = _; unfold DM.write; rw [hc, if_neg (by decide)]
      | sync => show D.sync = _; unfold DM.sync; rw [hc, if_neg (by decide)]
    rw [e]
    exact ⟨h.mono (by omega), .inr ⟨rfl, hd, rfl⟩⟩
  · have hd' : D.dead = false := by simpa using hd
    have hc : ∀ i : Int, 0 ≤ i → i < n → D.check i = 0 := fun i h0 h1 => by unfold DM.check; rw [if_neg hd, h.len, if_neg (by omega)]
    by_cases ha0 : D.after = 0
    · have es : D.step = (220, { D with dead := true }) := by unfold DM.step; rw [if_pos ha0]
      have e : D.op1 o = (220, { D with dead := true }) := by
        cases o with
        | w i s => show D.write i s = _; unfold DM.write; rw [hc i ho.1 ho.2, if_pos rfl, es]; rfl
        | sync => show D.sync = _; unfold DM.sync; rw [hc 0 (Int.le_refl _) (by have h0 : 0 < n := ho; omega), if_pos rfl, es]; rfl
      rw [e]
      exact ⟨⟨h.ok.mono (by omega), ⟨hs.1, by show D.steps ≤ _; omega⟩, ha⟩, .inr ⟨rfl, rfl, rfl⟩⟩
    · obtain ⟨a', es, ha'⟩ : ∃ a', D.step = (0, { D with steps := D.steps + 1, after := a' }) ∧ (-1 ≤ a' ∧ a' ≤ 1000000) := by
        unfold DM.step
        rw [if_neg ha0]
        exact ⟨_, rfl, by split <;> omega⟩
      cases o with
      | w i s =>
        have e : D.op1 (.w i s) = (0, addW { D with steps := D.steps + 1, after := a' } i s) := by
          show D.write i s = _; unfold DM.write; rw [hc i ho.1 ho.2, if_pos rfl, es, if_pos rfl]
        have eB : D.base.op1 (.w i s) = (0, addW { D.base with steps := D.base.steps + 1 } i s) := by
          show D.base.write i s = _
          rw [DM.write, if_pos (h.ok.check0 ho.1 ho.2), h.ok.step]; rfl
        have eb : (addW { D with steps := D.steps + 1, after := a' } i s).base = D.base.nx (.w i s) := by
          unfold DM.nx
          rw [eB]
          exact base_addW (D := { D with steps := D.steps + 1, after := a' }) (E := { D.base with steps := D.base.steps + 1 }) rfl i s
        obtain ⟨c1, c2, c3, c4⟩ := addW_cells { D with steps := D.steps + 1, after := a' } i s
        rw [e]
        refine ⟨⟨by rw [eb]; exact h.ok.nx ho hk, ?_, ?_⟩, .inl ⟨rfl, by rw [c4], eb⟩⟩
        · rw [c2]; show 0 ≤ D.steps + 1 ∧ D.steps + 1 ≤ _; omega
        · rw [c3]; exact ha'
      | sync =>
        have e : D.op1 .sync = (0, DM.synced { D with steps := D.steps + 1, after := a' }) := by
          show D.sync = _; unfold DM.sync; rw [hc 0 (Int.le_refl _) (by have h0 : 0 < n := ho; omega), if_pos rfl, es, if_pos rfl]
        have eb : (DM.synced { D with steps := D.steps + 1, after := a' }).base = D.base.nx .sync := by
          unfold DM.nx
          show _ = D.base.sync.2.base
          rw [h.ok.sync ho]; rfl
        rw [e]
        refine ⟨⟨by rw [eb]; exact h.ok.nx (o := .sync) ho hk, ?_, ha'⟩, .inl ⟨rfl, rfl, eb⟩⟩
        show 0 ≤ D.steps + 1 ∧ D.steps + 1 ≤ _; omega
/-- What calls do: all of them, or the first ones, and the disk is down. -/
theorem GoD.run {n : Nat} : ∀ (l : List DOp) {k : Nat} {D : DM}, GoD n k D → (∀ o ∈ l, o.inD n) → k + l.length ≤ 1000000000 → GoD n (k + l.length) (D.run l).2 ∧
    (((D.run l).1 = 0 ∧ (D.run l).2.dead = D.dead ∧ (D.run l).2.base = D.base.nxs l) ∨ ((D.run l).1 = 220 ∧ (D.run l).2.dead = true ∧ ∃ m, m ≤ l.length ∧ (D.run l).2.base = D.base.nxs (l.take m)))
  | [], k, D, h, _, _ => ⟨h, .inl ⟨rfl, rfl, rfl⟩⟩
  | o :: l, k, D, h, hi, hk => by
    simp only [List.length_cons] at hk
    obtain ⟨g, r⟩ := h.op1 (hi o (List.mem_cons_self ..)) (by omega)
    rcases r with ⟨r1, r2, r3⟩ | ⟨r1, r2, r3⟩
    · obtain ⟨i1, i2⟩ := GoD.run l g (fun q hq => hi q (List.mem_cons_of_mem _ hq)) (by omega)
      rw [DM.run, if_pos r1, List.length_cons, show k + (l.length + 1) = k + 1 + l.length by omega]
      refine ⟨i1, ?_⟩
      rw [r3] at i2
      rcases i2 with ⟨a, b, c⟩ | ⟨a, b, m, hm, c⟩
      · exact .inl ⟨a, b.trans r2, c⟩
      · exact .inr ⟨a, b, m + 1, by omega, c⟩
    · rw [DM.run, if_neg (by rw [r1]; decide)]
      exact ⟨g.mono (by rw [List.length_cons]; omega), .inr ⟨r1, r2, 0, by omega, r3⟩⟩
theorem OkD.nxs {n : Nat} : ∀ (l : List DOp) {k : Nat} {D : DM}, OkD n k D → (∀ o ∈ l, o.inD n) → k + l.length ≤ 1000000000 → OkD n (k + l.length) (D.nxs l)
  | [], k, D, h, _, _ => h
  | o :: l, k, D, h, hi, hk => by
    simp only [List.length_cons] at hk
    rw [DM.nxs, List.length_cons, show k + (l.length + 1) = k + 1 + l.length by omega]
    exact OkD.nxs l (h.nx (hi o (List.mem_cons_self ..)) (by omega)) (fun q hq => hi q (List.mem_cons_of_mem _ hq)) (by omega)
/-- What is read, and what is open, after a write, and after a sync. -/
theorem nx_w {n k : Nat} {D : DM} (h : OkD n k D) {i : Int} (h0 : 0 ≤ i) (h1 : i < n) (hk : k < 1000000000) (s : Sec) (q : Int) : (D.nx (.w i s)).get q = (if q = i then D.get i ++ [s] else D.get q) ∧ (D.nx (.w i s)).cell q = D.cell q ∧ (0 ≤ q → q < n → (D.nx (.w i s)).read q = if q = i then (s, 0) else D.read q) := by
  have e : D.write i s = (0, addW { D with steps := D.steps + 1 } i s) := by
    rw [DM.write, if_pos (h.check0 h0 h1), h.step]; rfl
  have hb : (D.nx (.w i s)).base = (addW D i s).base := by
    unfold DM.nx
    show (D.write i s).2.base = _
    rw [e]
    exact base_addW (D := { D with steps := D.steps + 1 }) (E := D) rfl i s
  refine ⟨?_, ?_, fun q0 q1 => ?_⟩
  · rw [get_base hb, get_addW h]
  · rw [cell_base hb]
    unfold DM.cell
    rw [(addW_cells D i s).1]
  · unfold DM.nx
    show (D.write i s).2.base.read q = _
    rw [read_base (h.write h0 h1 hk s).2.1.dead, h.read_write h0 h1 hk s q0 q1]
theorem nx_sync {n k : Nat} {D : DM} (h : OkD n k D) (hn : 0 < n) : (D.nx .sync).op = [] ∧ ∀ q : Int, 0 ≤ q → q < n → (D.nx .sync).read q = D.read q := by
  have hs := h.sync_ok hn
  refine ⟨hs.2.2.2, fun q q0 q1 => ?_⟩
  unfold DM.nx
  show D.sync.2.base.read q = _
  rw [read_base hs.2.1.dead, h.read_sync hn q0 q1]
theorem get_nil {D : DM} (h : D.op = []) (q : Int) : D.get q = [] := by rw [get_find, h]; rfl
end Go.Proofs.YtilcpcpmkklobaaDoor

/- Changes of several sectors: what is read behind them. -/
namespace Go.Proofs.YtilcpcpmkklobaaDoor
set_option linter.unusedSimpArgs false
set_option linter.unusedVariables false
set_option linter.unnecessarySimpa false
open Go.RowKit

structure PPut where
  sec : Int
  dat : Sec
instance : Inhabited PPut := ⟨⟨0, zeroSec⟩⟩
def putL (p : PPut) : List PV := pint p.sec :: secL p.dat
theorem putL_len (p : PPut) : (putL p).length = 65 := by simp [putL, secL_len]
theorem putL_low (p : PPut) : ∀ c ∈ putL p, Low c := by
  intro c hc
  rcases List.mem_cons.1 hc with rfl | hc
  · exact .val _
  · exact secL_low _ c hc
theorem putL_one (p : PPut) : (putL p).all PV.one = true := by rw [putL, List.all_cons, secL_one]; rfl
theorem putL_bare (p : PPut) : (putL p).map PV.bare = putL p := by rw [putL, List.map_cons, secL_bare]; rfl
def pputs (l : List PPut) : PV := .sl l.length 65 (l.flatMap putL) none
theorem low_pputs (l : List PPut) : Low (pputs l) := .sl _ _ _ _ (flat_low putL_low l)

/-- Writes one after the other. -/
def DM.puts (D : DM) : List PPut → DM
  | [] => D
  | p :: l => DM.puts (D.write p.sec p.dat).2 l
theorem puts_snoc (D : DM) (l : List PPut) (p : PPut) : D.puts (l ++ [p]) = ((D.puts l).write p.sec p.dat).2 := by
  induction l generalizing D with
  | nil => rfl
  | cons q l ih => rw [List.cons_append, DM.puts, DM.puts, ih]
theorem puts_append (D : DM) (l r : List PPut) : D.puts (l ++ r) = (D.puts l).puts r := by
  induction l generalizing D with
  | nil => rfl
  | cons q l ih => rw [List.cons_append, DM.puts, DM.puts, ih]
/-- The sectors of a change lie on the disk. -/
def InD (n : Nat) (l : List PPut) : Prop := ∀ p ∈ l, 0 ≤ p.sec ∧ p.sec < n
theorem OkD.puts {n : Nat} : ∀ (l : List PPut) {k : Nat} {D : DM}, OkD n k D → InD n l → k + l.length ≤ 1000000000 → OkD n (k + l.length) (D.puts l) ∧ (D.puts l).steps = D.steps + l.length
  | [], k, D, h, _, _ => ⟨h, by simp [DM.puts]⟩
  | p :: l, k, D, h, hi, hk => by
    simp only [List.length_cons] at hk
    obtain ⟨h0, h1⟩ := hi p (List.mem_cons_self ..)
    obtain ⟨w1, w2, w3⟩ := h.write h0 h1 (by omega) p.dat
    obtain ⟨i1, i2⟩ := OkD.puts l w2 (fun q hq => hi q (List.mem_cons_of_mem _ hq)) (by omega)
    rw [DM.puts]
    refine ⟨?_, by rw [i2, w3]; simp only [List.length_cons]; omega⟩
    rw [List.length_cons, show k + (l.length + 1) = k + 1 + l.length by omega]
    exact i1
/-- The last word on a sector. -/
def lastP (q : Int) : List PPut → Option Sec
  | [] => none
  | p :: l => match lastP q l with
    | some s => some s
    | none => if p.sec = q then some p.dat else none
theorem OkD.read_puts {n : Nat} : ∀ (l : List PPut) {k : Nat} {D : DM}, OkD n k D → InD n l → k + l.length ≤ 1000000000 → ∀ {q : Int}, 0 ≤ q → q < n → (D.puts l).read q = match lastP q l with
    | some s => (s, 0)
    | none => D.read q
  | [], k, D, h, _, _, q, _, _ => rfl
  | p :: l, k, D, h, hi, hk, q, q0, q1 => by
    simp only [List.length_cons] at hk
    obtain ⟨h0, h1⟩ := hi p (List.mem_cons_self ..)
    obtain ⟨w1, w2, w3⟩ := h.write h0 h1 (by omega) p.dat
    rw [DM.puts, OkD.read_puts l w2 (fun q hq => hi q (List.mem_cons_of_mem _ hq)) (by omega) q0 q1, lastP]
    cases lastP q l with
    | some s => rfl
    | none =>
      simp only
      rw [h.read_write h0 h1 (by omega) p.dat q0 q1]
      by_cases e : q = p.sec
      · rw [if_pos e, if_pos e.symm]
      · rw [if_neg e, if_neg (fun h => e h.symm)]
theorem lastP_none {q : Int} : ∀ {l : List PPut}, (∀ p ∈ l, p.sec ≠ q) → lastP q l = none
  | [], _ => rfl
  | p :: l, h => by rw [lastP, lastP_none (fun x hx => h x (List.mem_cons_of_mem _ hx))]; simp [h p (List.mem_cons_self ..)]

/-- How many sectors an area has. -/
def numbersI (n : Int) : Int := (n + 15) / 16
def roomI (m : Int) : Int := if m < 1 ∨ 1024 < m then 0 else 1 + numbersI m + m
/-- The bytes of a number of a sector. -/
def numB (z : Int) (k : Nat) : Int := IntKind.u8.wrap (z.fdiv (2 ^ (min (8 * k) 64)))
/-- A sector of numbers of sectors, after so many of them. -/
def setB (s : Sec) (j : Nat) (z : Int) : Sec := ⟨s.1.set j (IntKind.u8.wrap z), by
  rw [List.length_set]; exact s.2.1, fun x hx => by
    rcases List.mem_or_eq_of_mem_set hx with hx | rfl
    · exact s.2.2 x hx
    · rw [IntKind.wrap_u8]; omega⟩
end Go.Proofs.YtilcpcpmkklobaaDoor

/- The journal: its rooms; contracts of functions that are handed variables, put together. -/
namespace Go.Proofs.YtilcpcpmkklobaaDoor
set_option linter.unusedSimpArgs false
set_option linter.unusedVariables false
set_option linter.unnecessarySimpa false
open Go.RowKit

set_option maxRecDepth 10000 in
theorem pw_numbers (n : Int) (h0 : 0 ≤ n) (h : n ≤ 1000000000000) : PCalls Tryd.prog 38 [pint n] (· = pint (numbersI n)) := by
  refine pcalls_of_pw typeTab_ok Tryd.func38 rfl (by kernel_rfl) (by exact lw) (by simp [pint, PV.ownB]) (Nat.le_of_ble_eq_true rfl) ?_
  refine wk ?_
  refine retP rfl (by exact lw) ?_
  rw [numbersI, show n + 16 - 1 = n + 15 by omega]; rfl

set_option maxRecDepth 10000 in
theorem pw_room (m : Int) : PCalls Tryd.prog 24 [pint m] (· = pint (roomI m)) := by
  refine pcalls_of_pw typeTab_ok Tryd.func24 rfl (by kernel_rfl) (by exact lw) (by simp [pint, PV.ownB]) (Nat.le_of_ble_eq_true rfl) ?_
  by_cases h1 : m < 1
  · rw [roomI, if_pos (.inl h1)]
    refine wk ?_
    exact retP rfl (by exact lw) rfl
  · by_cases h2 : 1024 < m
    · rw [roomI, if_pos (.inr h2)]
      refine wk ?_
      exact retP rfl (by exact lw) rfl
    · rw [roomI, if_neg (by omega)]
      have hn := pw_numbers m (by omega) (by omega)
      have hb : 0 ≤ numbersI m ∧ numbersI m ≤ 1000 := by unfold numbersI; omega
      generalize numbersI m = q at *
      refine wk ?_
      exact retP rfl (by exact lw) rfl

/-- The journal's variable; all that it reaches. -/
def jB (d : Nat) (at_ most : Int) : List PV := [.ptr d 0, pint at_, pint most]
def jG (d c m j : Nat) (at_ most : Int) (D : DM) : List (Nat × List PV) := (j, jB d at_ most) :: dG d c m D
def ids4 (d c m j : Nat) : List (Nat × Nat) := [(1000001, d), (1000002, c), (1000003, m), (1000004, j)]
end Go.Proofs.YtilcpcpmkklobaaDoor

/- The journal: steps. -/
namespace Go.Proofs.YtilcpcpmkklobaaDoor
set_option linter.unusedSimpArgs false
set_option linter.unusedVariables false
set_option linter.unnecessarySimpa false
open Go.RowKit

/-- What sync returns: the disk's method, bound. -/
def syncF (d : Nat) : PV := .fn (42 + 1000000) [.ptr d 0]
set_option maxRecDepth 10000 in
set_option maxHeartbeats 1000000 in
theorem jc_sync1 (at_ most : Int) (D : DM) : HCalls Tryd.prog 31 [.ptr 1000004 0] (jG 1000001 1000002 1000003 1000004 at_ most D) (dMs 1000003 D) (.agg [syncF 1000001]) (jG 1000001 1000002 1000003 1000004 at_ most D) (dMs 1000003 D) := by
  refine hcalls_of_pw typeTab_ok Tryd.func31 rfl rfl (by simp [PV.ownB]) (Nat.le_of_ble_eq_true rfl) (by simp [ResIds, jG, dG, dMs]) (by simp [ResIds, jG, dG, dMs]) (by exact hok0) ?_
  refine wk ?_
  exact RetH.mk (presult1 (pres_cell rfl rfl rfl rfl rfl)) (Weak.refl _) ⟨⟨_, rfl, WeakL.refl _⟩, ⟨_, rfl, WeakL.refl _⟩, ⟨_, rfl, WeakL.refl _⟩, trivial⟩ ⟨⟨rfl, rfl⟩, trivial⟩
theorem jc_sync (at_ most : Int) (D : DM) (d c m j : Nat) (hd : ([d, c, m, j] : List Nat).Nodup) : HCalls Tryd.prog 31 [.ptr j 0] (jG d c m j at_ most D) (dMs m D) (.agg [syncF d]) (jG d c m j at_ most D) (dMs m D) := by
  refine (jc_sync1 at_ most D).at (ids4 d c m j) hd (by simp [ResIds, jG, dG, dMs, ids4]) (by simp [jG, dG]) (by simp [dMs]) ?_ ?_ ?_ ?_ ?_ ?_ <;> exact ren0

/-- What put returns. -/
def putF (bl bj : Nat) : PV := .fn 40 [.ptr bl 0, .ptr bj 0]
def putG (bl bj j : Nat) (l : List PPut) : List (Nat × List PV) := [(bj, [.ptr j 0]), (bl, [pputs l])]
set_option maxRecDepth 10000 in
set_option maxHeartbeats 1000000 in
theorem jc_put1 (at_ most : Int) (D : DM) (l : List PPut) : HCalls Tryd.prog 29 [.ptr 1000004 0, pputs l] (jG 1000001 1000002 1000003 1000004 at_ most D) (dMs 1000003 D) (.agg [putF 1 0]) ((0, [.ptr 1000004 0]) :: (1, [pputs l]) :: jG 1000001 1000002 1000003 1000004 at_ most D) (dMs 1000003 D) := by
  refine hcalls_of_pw typeTab_ok Tryd.func29 rfl rfl (by simp [PV.ownB, pputs]) (Nat.le_of_ble_eq_true rfl) (by simp [ResIds, jG, dG, dMs]) (by simp [ResIds, jG, dG, dMs]) (by exact hok0) ?_
  refine wk ?_
  exact RetH.mk (presult1 (pres_cell rfl rfl rfl rfl rfl)) (Weak.refl _) ⟨⟨_, rfl, WeakL.refl _⟩, ⟨_, rfl, WeakL.refl _⟩, ⟨_, rfl, WeakL.refl _⟩, ⟨_, rfl, WeakL.refl _⟩, ⟨_, rfl, WeakL.refl _⟩, trivial⟩ ⟨⟨rfl, rfl⟩, trivial⟩
theorem jc_put (at_ most : Int) (D : DM) (l : List PPut) (d c m j b0 b1 : Nat) (hd : ([d, c, m, j, b0, b1] : List Nat).Nodup) : HCalls Tryd.prog 29 [.ptr j 0, pputs l] (jG d c m j at_ most D) (dMs m D) (.agg [putF b1 b0]) ((b0, [.ptr j 0]) :: (b1, [pputs l]) :: jG d c m j at_ most D) (dMs m D) := by
  refine (jc_put1 at_ most D l).at (ids4 d c m j ++ [(0, b0), (1, b1)]) (by simpa [ids4] using hd) (by simp [ResIds, jG, dG, dMs, ids4]) (by simp [jG, dG]) (by simp [dMs]) ?_ ?_ ?_ ?_ ?_ ?_ <;> exact ren0

/-- What head returns. -/
def headF (b0 b1 b2 : Nat) : PV := .fn 43 [.ptr b1 0, .ptr b2 0, .ptr b0 0]
set_option maxRecDepth 10000 in
set_option maxHeartbeats 1000000 in
theorem jc_head1 (at_ most : Int) (D : DM) (n : Int) (G : List Int) (hG : G.length = 16) : HCalls Tryd.prog 32 [.ptr 1000004 0, pint n, .agg (G.map pbyte)] (jG 1000001 1000002 1000003 1000004 at_ most D) (dMs 1000003 D) (.agg [headF 0 1 2]) ((0, [.ptr 1000004 0]) :: (1, [pint n]) :: (2, G.map pbyte) :: jG 1000001 1000002 1000003 1000004 at_ most D) (dMs 1000003 D) := by
  have hl : ∀ c ∈ G.map pbyte, Low c := low_map (fun _ => Low.val _) _
  refine hcalls_of_pw typeTab_ok Tryd.func32 rfl rfl (by simp [PV.ownB, pint]) (Nat.le_of_ble_eq_true rfl) (by simp [ResIds, jG, dG, dMs]) (by simp [ResIds, jG, dG, dMs]) (by exact hok0) ?_
  refine wk ?_
  exact RetH.mk (presult1 (pres_cell rfl rfl rfl rfl rfl)) (Weak.refl _) ⟨⟨_, rfl, WeakL.refl _⟩, ⟨_, rfl, WeakL.refl _⟩, ⟨_, rfl, WeakL.refl _⟩, ⟨_, rfl, WeakL.refl _⟩, ⟨_, rfl, WeakL.refl _⟩, ⟨_, rfl, WeakL.refl _⟩, trivial⟩ ⟨⟨rfl, rfl⟩, trivial⟩
theorem jc_head (at_ most : Int) (D : DM) (n : Int) (G : List Int) (hG : G.length = 16) (d c m j b0 b1 b2 : Nat) (hd : ([d, c, m, j, b0, b1, b2] : List Nat).Nodup) : HCalls Tryd.prog 32 [.ptr j 0, pint n, .agg (G.map pbyte)] (jG d c m j at_ most D) (dMs m D) (.agg [headF b0 b1 b2]) ((b0, [.ptr j 0]) :: (b1, [pint n]) :: (b2, G.map pbyte) :: jG d c m j at_ most D) (dMs m D) := by
  have hl : ∀ c ∈ G.map pbyte, Low c := low_map (fun _ => Low.val _) _
  have hl2 : Low (.agg (G.map pbyte)) := .agg _ hl
  refine (jc_head1 at_ most D n G hG).at (ids4 d c m j ++ [(0, b0), (1, b1), (2, b2)]) (by simpa [ids4] using hd) (by simp [ResIds, jG, dG, dMs, ids4]) (by simp [jG, dG]) (by simp [dMs]) ?_ ?_ ?_ ?_ ?_ ?_
  · exact .cons (Ren.ptr _ _ (by first | simp [ResIds, dG, dMs, jG] | simp [ResIds, dG, dMs, crG, crM] | simp [ResIds, dG, dMs])) (.cons (.low _ (.val _)) (.cons (.low _ hl2) .nil))
  all_goals exact ren0

set_option maxRecDepth 10000 in
set_option maxHeartbeats 1000000 in
theorem jc_putS1 (at_ most : Int) {n k : Nat} {D : DM} (h : OkD n k D) (l : List PPut) (hi : InD n l) (hk : k + l.length ≤ 100000000) : HCalls Tryd.prog 40 [.ptr 1000006 0, .ptr 1000005 0] ((1000005, [.ptr 1000004 0]) :: (1000006, [pputs l]) :: jG 1000001 1000002 1000003 1000004 at_ most D) (dMs 1000003 D) (pint 0) ((1000005, [.ptr 1000004 0]) :: (1000006, [pputs l]) :: jG 1000001 1000002 1000003 1000004 at_ most (D.puts l)) (dMs 1000003 (D.puts l)) := by
  refine hcalls_of_pw typeTab_ok Tryd.func40 rfl rfl (by simp [PV.ownB]) (Nat.le_of_ble_eq_true rfl) (by simp [ResIds, jG, dG, dMs]) (by simp [ResIds, jG, dG, dMs]) (by exact hok0) ?_
  have hlow : ∀ i, ∀ c ∈ dC (D.puts (l.take i)), Low c := fun i => dC_low _
  have hlowm : ∀ i, ∀ e ∈ (D.puts (l.take i)).op.map dE, Low e.2.1 ∧ Low e.2.2 := fun i => dM_low _
  have h00 : D = D.puts (l.take 0) := rfl
  have hll := low_pputs l
  refine wk ?_
  refine PW.loop (fun i : Nat => ((((((((((bot.setb 1000005 [.ptr 1000004 0]).setb 1000006 [pputs l]).setb 1000004 (jB 1000001 at_ most)).setb 1000001 (dB 1000002 1000003 (D.puts (l.take i)))).setb 1000002 (dC (D.puts (l.take i)))).setm 1000003 (dM (D.puts (l.take i)))).put 0 (.ptr 1000006 0)).put 1 (.ptr 1000005 0)).put 6 (pputs l)).put 7 (pint l.length)).put 8 (pint i)) (fun i => i ≤ l.length) (fun i => l.length - i) 0 (by omega) ?_ ?_
  · have h1 := hlow 0
    have h2 := hlowm 0
    exact sb
  · intro i hil
    have hti : (l.take i).length = i := by rw [List.length_take]; omega
    obtain ⟨o1, o2⟩ := OkD.puts (l.take i) h (fun p hp => hi p (List.mem_of_mem_take hp)) (by omega)
    rw [hti] at o1
    by_cases hlt : i < l.length
    · have hnx : l.take (i + 1) = l.take i ++ [l.getD i default] := take_getD default hlt
      have hpm : l.getD i default ∈ l := by rw [List.getD_eq_getElem?_getD, List.getElem?_eq_getElem hlt]; exact List.getElem_mem hlt
      obtain ⟨p0, p1⟩ := hi _ hpm
      have hs := o1.steps
      obtain ⟨w1, w2, w3⟩ := o1.write p0 p1 (by omega) (l.getD i default).dat
      have hw := dc_Write (D.puts (l.take i)) (l.getD i default).sec (l.getD i default).dat ⟨by omega, by omega, by rw [o1.after]; omega⟩ (by rw [o1.after]; omega) (fun e he => by have := o1.room e he; omega) 1000001 1000002 1000003 (by decide)
      rw [w1] at hw
      have hD2 : D.puts (l.take (i + 1)) = ((D.puts (l.take i)).write (l.getD i default).sec (l.getD i default).dat).2 := by rw [hnx, puts_snoc]
      rw [← hD2] at hw
      have h1 := hlow (i + 1)
      have h2 := hlowm (i + 1)
      clear hlow hlowm hD2 w2 w3 o2 hnx
      generalize hE2 : D.puts (l.take (i + 1)) = D2 at *
      generalize D.puts (l.take i) = D1 at *
      refine wk ?_
      generalize l.getD i default = p at *
      refine PWops.ldBA (row := secL p.dat) rfl rfl rfl rfl rfl rfl rfl (by rw [putL_len]; decide) (by show List.map PV.bare (List.take 64 (secL p.dat)) = secL p.dat; rw [List.take_of_length_le (by rw [secL_len]; omega), secL_bare]) ?_
      refine wk ?_
      refine loopP (i + 1) (by show i + 1 ≤ l.length; omega) (by show l.length - (i + 1) < l.length - i; omega) ?_
      dsimp only
      rw [hE2]
      exact sb
    · have e : i = l.length := by omega
      subst e
      rw [List.take_length]
      refine wk ?_
      exact RetH.mk rfl (Weak.refl _) ⟨⟨_, rfl, WeakL.refl _⟩, ⟨_, rfl, WeakL.refl _⟩, ⟨_, rfl, WeakL.refl _⟩, ⟨_, rfl, WeakL.refl _⟩, ⟨_, rfl, WeakL.refl _⟩, trivial⟩ ⟨⟨rfl, rfl⟩, trivial⟩
end Go.Proofs.YtilcpcpmkklobaaDoor

/- The journal: the head. -/
namespace Go.Proofs.YtilcpcpmkklobaaDoor
set_option linter.unusedSimpArgs false
set_option linter.unusedVariables false
set_option linter.unnecessarySimpa false
open Go.RowKit

theorem jc_putS {n k : Nat} {D : DM} (at_ most : Int) (h : OkD n k D) (l : List PPut) (hi : InD n l) (hk : k + l.length ≤ 100000000) (d c m j b0 b1 : Nat) (hd : ([d, c, m, j, b0, b1] : List Nat).Nodup) : HCalls Tryd.prog 40 [.ptr b1 0, .ptr b0 0] ((b0, [.ptr j 0]) :: (b1, [pputs l]) :: jG d c m j at_ most D) (dMs m D) (pint 0) ((b0, [.ptr j 0]) :: (b1, [pputs l]) :: jG d c m j at_ most (D.puts l)) (dMs m (D.puts l)) := by
  refine (jc_putS1 at_ most h l hi hk).at (ids4 d c m j ++ [(1000005, b0), (1000006, b1)]) (by simpa [ids4] using hd) (by simp [ResIds, jG, dG, dMs, ids4]) (by simp [jG, dG]) (by simp [dMs]) ?_ ?_ ?_ ?_ ?_ ?_ <;> exact ren0

theorem ows_pb (G : List Int) : ∀ c ∈ G.map pbyte, OwnsOK c := by
  intro c hc
  obtain ⟨z, -, rfl⟩ := List.mem_map.1 hc
  exact owns_no rfl
/-- The head: a count, a digest. -/
def headI (n : Int) (G : List Int) : List Int := IntKind.u8.wrap n :: IntKind.u8.wrap (n / 256) :: (G ++ List.replicate 46 0)
def headSec (n : Int) (G : List Int) (hG : G.length = 16) (hr : ∀ x ∈ G, 0 ≤ x ∧ x < 256) : Sec := ⟨headI n G, by simp [headI, hG], by
  intro x hx
  rcases List.mem_cons.1 hx with rfl | hx
  · rw [IntKind.wrap_u8]; omega
  rcases List.mem_cons.1 hx with rfl | hx
  · rw [IntKind.wrap_u8]; omega
  rcases List.mem_append.1 hx with hx | hx
  · exact hr x hx
  · rw [(List.mem_replicate.1 hx).2]; omega⟩

theorem splice_head (n : Int) (G : List Int) (hG : G.length = 16) (hr : ∀ x ∈ G, 0 ≤ x ∧ x < 256) : splice (pbyte (IntKind.u8.wrap n) :: pbyte (IntKind.u8.wrap (n.fdiv (2 ^ min (Int.toNat 8) (IntKind.bits .i64)))) :: List.replicate 62 (pbyte 0)) 2 ((G.map pbyte).take 16) = secL (headSec n G hG hr) := by
  have e1 : (G.map pbyte).take 16 = G.map pbyte := List.take_of_length_le (by simp [hG])
  have e2 : (G.map pbyte).length = 16 := by simp [hG]
  have e3 : n.fdiv (2 ^ min (Int.toNat 8) (IntKind.bits .i64)) = n / 256 := by
    show n.fdiv 256 = n / 256
    exact Int.fdiv_eq_ediv_of_nonneg n (by decide)
  rw [e1, e3, splice, e2, secL]
  show _ = List.map pbyte (headI n G)
  rw [headI, List.map_cons, List.map_cons, List.map_append]
  show _ :: _ :: ([] ++ G.map pbyte ++ _) = _
  rw [List.nil_append]; rfl

set_option maxRecDepth 10000 in
set_option maxHeartbeats 1000000 in
theorem jc_headS1 (most : Int) {N k : Nat} {D : DM} (h : OkD N k D) (at_ n : Int) (h0 : 0 ≤ at_) (h1 : at_ < N) (hk : k < 100000000) (n0 : 0 ≤ n) (n1 : n < 65536) (G : List Int) (hG : G.length = 16) (hr : ∀ x ∈ G, 0 ≤ x ∧ x < 256) : HCalls Tryd.prog 43 [.ptr 1000006 0, .ptr 1000007 0, .ptr 1000005 0] ((1000005, [.ptr 1000004 0]) :: (1000006, [pint n]) :: (1000007, G.map pbyte) :: jG 1000001 1000002 1000003 1000004 at_ most D) (dMs 1000003 D) (pint 0) ((1000005, [.ptr 1000004 0]) :: (1000006, [pint n]) :: (1000007, G.map pbyte) :: jG 1000001 1000002 1000003 1000004 at_ most (D.write at_ (headSec n G hG hr)).2) (dMs 1000003 (D.write at_ (headSec n G hG hr)).2) := by
  have hlG : ∀ c ∈ G.map pbyte, Low c := low_map (fun _ => Low.val _) _
  have hl1 := dC_low D
  have hl2 := dM_low D
  have hl3 := dC_low (D.write at_ (headSec n G hG hr)).2
  have hl4 := dM_low (D.write at_ (headSec n G hG hr)).2
  have hoG := ows_pb G
  refine hcalls_of_pw typeTab_ok Tryd.func43 rfl rfl (by simp [PV.ownB]) (Nat.le_of_ble_eq_true rfl) (by simp [ResIds, jG, dG, dMs]) (by simp [ResIds, jG, dG, dMs]) (by exact hok0) ?_
  have hs := h.steps
  have w1 := (h.write h0 h1 (by omega) (headSec n G hG hr)).1
  have hw := dc_Write D at_ (headSec n G hG hr) ⟨by omega, by omega, by rw [h.after]; omega⟩ (by rw [h.after]; omega) (fun e he => by have := h.room e he; omega) 1000001 1000002 1000003 (by decide)
  rw [w1] at hw
  refine wg ?_
  refine PW.region typeTab_ok (by kernel_rfl) ?_
  refine wg ?_
  refine PW.region typeTab_ok (by kernel_rfl) ?_
  refine wg ?_
  refine PW.drawE typeTab_ok (by kernel_rfl) (by kernel_rfl) (by kernel_rfl) ?_
  refine wk ?_
  refine PWops.copy (n2 := 16) (cs := G.map pbyte) (out := secL (headSec n G hG hr)) rfl rfl rfl rfl rfl ?_ rfl rfl rfl ?_ ?_ ?_ ?_
  · show (if 0 + 0 * 1 + (16 - 0) * 1 ≤ (G.map pbyte).length then some (16 - 0, (((G.map pbyte).drop (0 + 0 * 1)).take ((16 - 0) * 1)).map PV.bare) else none) = _
    rw [if_pos (by simp [hG])]
    show some (16, List.map PV.bare (List.take 16 (G.map pbyte))) = _
    rw [List.take_of_length_le (by simp [hG]), List.map_map]; rfl
  · exact Nat.le_of_ble_eq_true rfl
  · rw [List.length_map, hG]; decide
  · exact splice_head n G hG hr
  generalize headSec n G hG hr = g at *
  refine wk ?_
  exact RetH.mk rfl (Weak.refl _) ⟨⟨_, rfl, WeakL.refl _⟩, ⟨_, rfl, WeakL.refl _⟩, ⟨_, rfl, WeakL.refl _⟩, ⟨_, rfl, WeakL.refl _⟩, ⟨_, rfl, WeakL.refl _⟩, ⟨_, rfl, WeakL.refl _⟩, trivial⟩ ⟨⟨rfl, rfl⟩, trivial⟩
theorem jc_headS {N k : Nat} {D : DM} (h : OkD N k D) (at_ most n : Int) (h0 : 0 ≤ at_) (h1 : at_ < N) (hk : k < 100000000) (n0 : 0 ≤ n) (n1 : n < 65536) (G : List Int) (hG : G.length = 16) (hr : ∀ x ∈ G, 0 ≤ x ∧ x < 256) (d c m j b0 b1 b2 : Nat) (hd : ([d, c, m, j, b0, b1, b2] : List Nat).Nodup) : HCalls Tryd.prog 43 [.ptr b1 0, .ptr b2 0, .ptr b0 0] ((b0, [.ptr j 0]) :: (b1, [pint n]) :: (b2, G.map pbyte) :: jG d c m j at_ most D) (dMs m D) (pint 0) ((b0, [.ptr j 0]) :: (b1, [pint n]) :: (b2, G.map pbyte) :: jG d c m j at_ most (D.write at_ (headSec n G hG hr)).2) (dMs m (D.write at_ (headSec n G hG hr)).2) := by
  have hl : ∀ c ∈ G.map pbyte, Low c := low_map (fun _ => Low.val _) _
  refine (jc_headS1 most h at_ n h0 h1 hk n0 n1 G hG hr).at (ids4 d c m j ++ [(1000005, b0), (1000006, b1), (1000007, b2)]) (by simpa [ids4] using hd) (by simp [ResIds, jG, dG, dMs, ids4]) (by simp [jG, dG]) (by simp [dMs]) ?_ ?_ ?_ ?_ ?_ ?_
  all_goals exact ren0
end Go.Proofs.YtilcpcpmkklobaaDoor

/- The journal: four steps one after the other. -/
namespace Go.Proofs.YtilcpcpmkklobaaDoor
set_option linter.unusedSimpArgs false
set_option linter.unusedVariables false
set_option linter.unnecessarySimpa false
open Go.RowKit

/-- The disk after the four steps of a part of an Apply. -/
def DM.four (D : DM) (at_ : Int) (l : List PPut) (g : Sec) : DM := ((D.puts l).sync.2.write at_ g).2.sync.2

/-- The same, after so many of them. -/
def DM.fourI (D : DM) (at_ : Int) (l : List PPut) (g : Sec) : Nat → DM
  | 0 => D
  | 1 => D.puts l
  | 2 => (D.puts l).sync.2
  | 3 => ((D.puts l).sync.2.write at_ g).2
  | _ => D.four at_ l g

/-- The four steps. -/
def stepsP (a b c d e f : Nat) : PV := .sl 4 1 [putF b a, syncF f, headF c d e, syncF f] none
theorem stepsP_ren {S : Nat → Prop} {a b c d e f : Nat} (h1 : S a) (h2 : S b) (h3 : S c) (h4 : S d) (h5 : S e) (h6 : S f) : Ren (fun i => i) S (stepsP a b c d e f) (stepsP a b c d e f) := by
  have k1 : RenL (fun i => i) S [.ptr b 0, .ptr a 0] [.ptr b 0, .ptr a 0] := .cons (.ptr _ _ h2) (.cons (.ptr _ _ h1) .nil)
  have k2 : RenL (fun i => i) S [.ptr f 0] [.ptr f 0] := .cons (.ptr _ _ h6) .nil
  have k3 : RenL (fun i => i) S [.ptr d 0, .ptr e 0, .ptr c 0] [.ptr d 0, .ptr e 0, .ptr c 0] := .cons (.ptr _ _ h4) (.cons (.ptr _ _ h5) (.cons (.ptr _ _ h3) .nil))
  have k : RenL (fun i => i) S [putF b a, syncF f, headF c d e, syncF f] [putF b a, syncF f, headF c d e, syncF f] := .cons (.fn _ _ _ k1.1 k1.2) (.cons (.fn _ _ _ k2.1 k2.2) (.cons (.fn _ _ _ k3.1 k3.2) (.cons (.fn _ _ _ k2.1 k2.2) .nil)))
  exact .sl _ _ _ _ k.1 k.2

set_option maxRecDepth 10000 in
set_option maxHeartbeats 2000000 in
theorem jc_all1 (most : Int) {N k : Nat} {D : DM} (h : OkD N k D) (at_ n : Int) (h0 : 0 ≤ at_) (h1 : at_ < N) (n0 : 0 ≤ n) (n1 : n < 65536) (G : List Int) (hG : G.length = 16) (hr : ∀ x ∈ G, 0 ≤ x ∧ x < 256) (l : List PPut) (hi : InD N l) (hk : k + l.length + 3 ≤ 100000000) (hNN : N ≤ 1000000000) : HCalls Tryd.prog 28 [stepsP 1000005 1000006 1000007 1000008 1000009 1000001]
    ((1000005, [.ptr 1000004 0]) :: (1000006, [pputs l]) :: (1000007, [.ptr 1000004 0]) :: (1000008, [pint n]) :: (1000009, G.map pbyte) :: jG 1000001 1000002 1000003 1000004 at_ most D) (dMs 1000003 D) (pint 0)
    ((1000005, [.ptr 1000004 0]) :: (1000006, [pputs l]) :: (1000007, [.ptr 1000004 0]) :: (1000008, [pint n]) :: (1000009, G.map pbyte) :: jG 1000001 1000002 1000003 1000004 at_ most (D.four at_ l (headSec n G hG hr))) (dMs 1000003 (D.four at_ l (headSec n G hG hr))) := by
  have hN : 0 < N := by omega
  obtain ⟨p1, -⟩ := OkD.puts l h hi (by omega)
  obtain ⟨s1, s2, -, -⟩ := p1.sync_ok hN
  obtain ⟨w1, w2, -⟩ := s2.write h0 h1 (by omega) (headSec n G hG hr)
  obtain ⟨t1, t2, -, -⟩ := w2.sync_ok hN
  have hput := jc_putS at_ most h l hi (by omega) 1000001 1000002 1000003 1000004 1000005 1000006 (by decide)
  have hhead := jc_headS s2 at_ most n h0 h1 (by omega) n0 n1 G hG hr 1000001 1000002 1000003 1000004 1000007 1000008 1000009 (by decide)
  have hlG : ∀ c ∈ G.map pbyte, Low c := low_map (fun _ => Low.val _) _
  have hll := low_pputs l
  have c1 := dC_low D
  have c2 := dM_low D
  have c3 := dC_low (D.four at_ l (headSec n G hG hr))
  have c4 := dM_low (D.four at_ l (headSec n G hG hr))
  have hoG := ows_pb G
  refine hcalls_of_pw typeTab_ok Tryd.func28 rfl rfl (by simp [PV.ownB, stepsP]) (Nat.le_of_ble_eq_true rfl) (by simp [ResIds, jG, dG, dMs]) (by simp [ResIds, jG, dG, dMs]) (by exact hok0) ?_
  have hy1 := dc_Sync (D.puts l) ⟨p1.steps.1, by have := p1.steps; omega, by rw [p1.after]; omega⟩ (by rw [p1.after]; omega) (by rw [p1.len]; omega) (by rw [p1.len]; exact p1.op) 1000001 1000002 1000003 (by decide)
  have hy2 := dc_Sync _ ⟨w2.steps.1, by have := w2.steps; omega, by rw [w2.after]; omega⟩ (by rw [w2.after]; omega) (by rw [w2.len]; omega) (by rw [w2.len]; exact w2.op) 1000001 1000002 1000003 (by decide)
  rw [s1] at hy1
  rw [t1] at hy2
  have f1 := fun i => dC_low (D.fourI at_ l (headSec n G hG hr) i)
  have f2 := fun i => dM_low (D.fourI at_ l (headSec n G hG hr) i)
  refine wk ?_
  refine PW.loop (fun i : Nat => (((((((((((bot.setb 1000005 [.ptr 1000004 0]).setb 1000006 [pputs l]).setb 1000007 [.ptr 1000004 0]).setb 1000008 [pint n]).setb 1000009 (G.map pbyte)).setb 1000004 (jB 1000001 at_ most)).setb 1000001 (dB 1000002 1000003 (D.fourI at_ l (headSec n G hG hr) i))).setb 1000002 (dC (D.fourI at_ l (headSec n G hG hr) i))).setm 1000003 (dM (D.fourI at_ l (headSec n G hG hr) i))).put 6 (stepsP 1000005 1000006 1000007 1000008 1000009 1000001)).put 7 (pint 4)).put 8 (pint i)) (fun i => i ≤ 4) (fun i => 4 - i) 0 (by omega) ?_ ?_
  · have g1 := f1 0
    have g2 := f2 0
    exact sb4
  · intro i hi
    have hq : i = 0 ∨ i = 1 ∨ i = 2 ∨ i = 3 ∨ i = 4 := by omega
    rcases hq with rfl | rfl | rfl | rfl | rfl
    · have g1 := f1 1
      have g2 := f2 1
      rw [show D.fourI at_ l (headSec n G hG hr) 0 = D from rfl]
      refine wk ?_
      refine loopP 1 (by omega) (by omega) ?_
      rw [show D.fourI at_ l (headSec n G hG hr) 1 = D.puts l from rfl] at g1 g2 ⊢
      exact sb4
    · have g1 := f1 2
      have g2 := f2 2
      rw [show D.fourI at_ l (headSec n G hG hr) 1 = D.puts l from rfl]
      clear hy2
      refine wk ?_
      refine loopP 2 (by omega) (by omega) ?_
      rw [show D.fourI at_ l (headSec n G hG hr) 2 = (D.puts l).sync.2 from rfl] at g1 g2 ⊢
      exact sb4
    · have g1 := f1 3
      have g2 := f2 3
      rw [show D.fourI at_ l (headSec n G hG hr) 2 = (D.puts l).sync.2 from rfl]
      refine wk ?_
      refine loopP 3 (by omega) (by omega) ?_
      rw [show D.fourI at_ l (headSec n G hG hr) 3 = ((D.puts l).sync.2.write at_ (headSec n G hG hr)).2 from rfl] at g1 g2 ⊢
      exact sb4
    · have g1 := f1 4
      have g2 := f2 4
      rw [show D.fourI at_ l (headSec n G hG hr) 3 = ((D.puts l).sync.2.write at_ (headSec n G hG hr)).2 from rfl]
      refine wk ?_
      refine loopP 4 (by omega) (by omega) ?_
      rw [show D.fourI at_ l (headSec n G hG hr) 4 = D.four at_ l (headSec n G hG hr) from rfl] at g1 g2 ⊢
      exact sb4
    · refine wk ?_
      exact RetH.mk rfl (Weak.refl _) ⟨⟨_, rfl, WeakL.refl _⟩, ⟨_, rfl, WeakL.refl _⟩, ⟨_, rfl, WeakL.refl _⟩, ⟨_, rfl, WeakL.refl _⟩, ⟨_, rfl, WeakL.refl _⟩, ⟨_, rfl, WeakL.refl _⟩, ⟨_, rfl, WeakL.refl _⟩, ⟨_, rfl, WeakL.refl _⟩, trivial⟩ ⟨⟨rfl, rfl⟩, trivial⟩
end Go.Proofs.YtilcpcpmkklobaaDoor
