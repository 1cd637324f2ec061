/- Merged: PwWk, Da, Db, Dc, Dd, De, Df, Dg, Dl, Dh, Ja, PwZ3, PwRn, Dm, PwZ4, PwZ5, Sort, Di, Dj, Dn, Dk. -/
import Derived.Sort.OwnSortedInts
import Derived.Test.YtilcpcpmkklobaaShelf
import Derived.Test.YtilcpcpmkklobaaC3
/- The walk over pure states, as the default of an argument. -/
namespace Go.Proofs.Ytilcpcpmkklobaa
set_option linter.unusedSimpArgs false
set_option linter.unusedVariables false
set_option linter.unnecessarySimpa false
open Go.RowKit

/-- What is left to be proved. -/
structure Hold (q : Prop) : Prop where
  out : q
theorem wk {p q : Prop} (k : q) (h : Hold q → p := by intro hHold; (repeat (first | (with_reducible first | refine PW.seq ?_ | refine PW.block ?_ | refine PW.skip ?_ | refine PW.exit ?_ | refine PW.ret ?_ | refine thenP ?_ | refine thenP_exit ?_ | refine thenP_ret ?_ | refine blockP ?_ | refine blockP_exit ?_ | refine blockP_ret ?_ | refine loopP_exit ?_ | refine loopP_ret ?_ | refine loopU_exit ?_ | refine loopU_ret ?_) | ((with_reducible refine PWops.idd ?_) ; first | (first | refine PWops.cvI rfl rfl rfl rfl (by (first | omega | (dsimp only ; omega))) (by (first | omega | (dsimp only ; omega))) rfl ?_ | refine PWops.stepA rfl ?_ | refine PWops.doneI rfl ?_ | refine PWops.boolK true rfl rfl rfl rfl (by (first | rfl | assumption | (simp only [decide_eq_true_eq, decide_eq_false_iff_not, bne_iff_ne, beq_iff_eq, beq_eq_false_iff_ne, bne_eq_false_iff_eq, ne_eq] ; omega))) rfl ?_ | refine PWops.boolK false rfl rfl rfl rfl (by (first | rfl | assumption | (simp only [decide_eq_true_eq, decide_eq_false_iff_not, bne_iff_ne, beq_iff_eq, beq_eq_false_iff_ne, bne_eq_false_iff_eq, ne_eq] ; omega))) rfl ?_ | refine PWops.fitsK rfl rfl rfl rfl (by (first | omega | (dsimp only ; omega))) (by (first | omega | (dsimp only ; omega))) rfl ?_ | refine PWops.remK rfl rfl rfl rfl (by (first | omega | (dsimp only ; omega))) rfl ?_ | refine PWops.quoK rfl rfl rfl rfl (by (first | omega | (dsimp only ; omega))) rfl ?_ | refine PWops.app rfl rfl rfl rfl rfl rfl rfl rfl (by (first | omega | (dsimp only ; omega))) (by (first | omega | (dsimp only ; omega))) (by first | rfl | exact secL_one _ | exact putL_one _ | exact one_pint _ | exact one_pstr _ | exact one_pbyte _ | exact one_pattrs _) ?_ | refine PWops.app0 rfl rfl rfl rfl rfl rfl rfl rfl (by (first | omega | (dsimp only ; omega))) (by (first | omega | (dsimp only ; omega))) (by first | rfl | exact secL_one _ | exact putL_one _ | exact one_pint _ | exact one_pstr _ | exact one_pbyte _ | exact one_pattrs _) ?_ | refine PWops.idx1 rfl rfl rfl rfl rfl rfl rfl rfl (by (first | omega | (dsimp only ; omega))) ?_ | refine PWops.idx rfl rfl rfl rfl rfl rfl rfl rfl (by (first | omega | (dsimp only ; omega))) ?_ | refine PWops.ld rfl rfl rfl rfl rfl rfl rfl (by assumption) rfl ?_ | refine PWops.ldA rfl rfl rfl rfl rfl rfl (by (first | omega | (dsimp only ; omega))) (by assumption) ?_ | refine PWops.str rfl rfl rfl rfl rfl rfl rfl rfl rfl rfl rfl ?_) | (first | refine PWops.arU rfl rfl rfl rfl rfl rfl ?_ | refine PWops.boxA rfl rfl rfl rfl rfl (by (first | rfl | exact secL_one _ | exact dcellL_one _ | exact putL_one _ | exact one_map (fun _ => rfl) _)) (by (first | rfl | exact secL_bare _ | exact dcellL_bare _ | exact putL_bare _ | exact bare_map (fun _ => rfl) _)) ?_ | refine PWops.litA rfl rfl rfl rfl rfl rfl rfl (by (first | rfl | exact secL_len _ | exact dcellL_len _ | exact putL_len _ | exact len_map (by assumption) | exact len_map rfl)) rfl rfl rfl (by (first | rfl | exact secL_one _ | exact dcellL_one _ | exact putL_one _ | exact one_map (fun _ => rfl) _)) (by (first | rfl | exact secL_bare _ | exact dcellL_bare _ | exact putL_bare _ | exact bare_map (fun _ => rfl) _)) ?_ | refine PWops.shlK rfl rfl rfl rfl rfl rfl (by (first | omega | (dsimp only ; omega) | decide)) ?_ | refine PWops.shrK rfl rfl rfl rfl rfl rfl (by (first | omega | (dsimp only ; omega) | decide)) ?_ | refine PWops.ldBC rfl rfl rfl rfl rfl rfl rfl rfl (by (first | exact secL_len | exact dcellL_len | exact putL_len | (intro; rfl))) (by (first | omega | (dsimp only ; omega))) (by (first | rfl | exact dcellL_64 _)) rfl ?_ | refine PWops.ldRB rfl rfl rfl rfl rfl rfl (by (first | exact secL_len | exact dcellL_len | exact putL_len | (intro; rfl))) (by (first | omega | (dsimp only ; omega))) (by (first | exact secL_bare | exact dcellL_bare | exact putL_bare | (intro; rfl))) ?_ | refine PWops.ldSec rfl rfl rfl rfl rfl rfl rfl (by first | with_reducible rfl | with_reducible exact dC_flat _) (by rfl) (by (first | omega | (dsimp only ; omega))) ?_ | refine PWops.ldBR rfl rfl rfl rfl rfl rfl rfl (by (first | exact secL_len | exact dcellL_len | exact putL_len | (intro; rfl))) (by (first | omega | (dsimp only ; omega))) (by (first | exact secL_bare _ | exact dcellL_bare _ | exact putL_bare _ | rfl)) ?_ | refine PWops.lkp rfl rfl rfl rfl rfl rfl rfl rfl rfl rfl rfl (by assumption) ?_ | refine PWops.ldAll rfl rfl rfl rfl rfl rfl rfl (by (first | rfl | exact secL_len _ | exact dcellL_len _ | exact putL_len _ | exact len_map (by assumption) | exact len_map rfl)) (by (first | rfl | exact secL_bare _ | exact dcellL_bare _ | exact putL_bare _ | exact bare_map (fun _ => rfl) _)) ?_ | refine PWops.stAll rfl rfl rfl rfl rfl rfl rfl rfl rfl (by (first | rfl | exact secL_len _ | exact dcellL_len _ | exact putL_len _ | exact len_map (by assumption) | exact len_map rfl)) (by (first | rfl | exact secL_len _ | exact dcellL_len _ | exact putL_len _ | exact len_map (by assumption) | exact len_map rfl)) (by (first | rfl | exact secL_one _ | exact dcellL_one _ | exact putL_one _ | exact one_map (fun _ => rfl) _)) (by (first | rfl | exact secL_bare _ | exact dcellL_bare _ | exact putL_bare _ | exact bare_map (fun _ => rfl) _)) ?_ | refine PWops.idxM rfl rfl rfl rfl rfl rfl rfl rfl (by (first | omega | (dsimp only ; omega))) ?_ | refine PWops.idxP1 rfl rfl rfl rfl rfl rfl rfl rfl (by (first | omega | (dsimp only ; omega))) ?_ | refine PWops.idxP rfl rfl rfl rfl rfl rfl rfl rfl (by (first | omega | (dsimp only ; omega))) ?_ | (refine PWops.call rfl rfl rfl (by assumption) ?_) | (refine PWops.callR rfl rfl (by assumption) (by (first | exact trivial | exact ⟨⟨rfl, rfl⟩, trivial⟩ | exact ⟨⟨rfl, rfl⟩, ⟨rfl, rfl⟩, trivial⟩ | exact ⟨⟨rfl, rfl⟩, ⟨rfl, rfl⟩, ⟨rfl, rfl⟩, trivial⟩ | exact ⟨⟨rfl, rfl⟩, ⟨rfl, rfl⟩, ⟨rfl, rfl⟩, ⟨rfl, rfl⟩, trivial⟩ | exact ⟨⟨rfl, rfl⟩, ⟨rfl, rfl⟩, ⟨rfl, rfl⟩, ⟨rfl, rfl⟩, ⟨rfl, rfl⟩, trivial⟩ | exact ⟨⟨rfl, rfl⟩, ⟨rfl, rfl⟩, ⟨rfl, rfl⟩, ⟨rfl, rfl⟩, ⟨rfl, rfl⟩, ⟨rfl, rfl⟩, trivial⟩ | exact ⟨⟨rfl, rfl⟩, ⟨rfl, rfl⟩, ⟨rfl, rfl⟩, ⟨rfl, rfl⟩, ⟨rfl, rfl⟩, ⟨rfl, rfl⟩, ⟨rfl, rfl⟩, trivial⟩ | exact ⟨⟨rfl, rfl⟩, ⟨rfl, rfl⟩, ⟨rfl, rfl⟩, ⟨rfl, rfl⟩, ⟨rfl, rfl⟩, ⟨rfl, rfl⟩, ⟨rfl, rfl⟩, ⟨rfl, rfl⟩, trivial⟩)) (by (first | exact trivial | exact ⟨⟨rfl, rfl⟩, trivial⟩ | exact ⟨⟨rfl, rfl⟩, ⟨rfl, rfl⟩, trivial⟩ | exact ⟨⟨rfl, rfl⟩, ⟨rfl, rfl⟩, ⟨rfl, rfl⟩, trivial⟩ | exact ⟨⟨rfl, rfl⟩, ⟨rfl, rfl⟩, ⟨rfl, rfl⟩, ⟨rfl, rfl⟩, trivial⟩ | exact ⟨⟨rfl, rfl⟩, ⟨rfl, rfl⟩, ⟨rfl, rfl⟩, ⟨rfl, rfl⟩, ⟨rfl, rfl⟩, trivial⟩ | exact ⟨⟨rfl, rfl⟩, ⟨rfl, rfl⟩, ⟨rfl, rfl⟩, ⟨rfl, rfl⟩, ⟨rfl, rfl⟩, ⟨rfl, rfl⟩, trivial⟩ | exact ⟨⟨rfl, rfl⟩, ⟨rfl, rfl⟩, ⟨rfl, rfl⟩, ⟨rfl, rfl⟩, ⟨rfl, rfl⟩, ⟨rfl, rfl⟩, ⟨rfl, rfl⟩, trivial⟩ | exact ⟨⟨rfl, rfl⟩, ⟨rfl, rfl⟩, ⟨rfl, rfl⟩, ⟨rfl, rfl⟩, ⟨rfl, rfl⟩, ⟨rfl, rfl⟩, ⟨rfl, rfl⟩, ⟨rfl, rfl⟩, trivial⟩)) rfl (by first | exact .inl rfl | exact .inr (fun _ _ => rfl)) ?_) | (refine PWops.callH rfl rfl (by assumption) (by (first | exact trivial | exact ⟨⟨rfl, rfl⟩, trivial⟩ | exact ⟨⟨rfl, rfl⟩, ⟨rfl, rfl⟩, trivial⟩ | exact ⟨⟨rfl, rfl⟩, ⟨rfl, rfl⟩, ⟨rfl, rfl⟩, trivial⟩ | exact ⟨⟨rfl, rfl⟩, ⟨rfl, rfl⟩, ⟨rfl, rfl⟩, ⟨rfl, rfl⟩, trivial⟩ | exact ⟨⟨rfl, rfl⟩, ⟨rfl, rfl⟩, ⟨rfl, rfl⟩, ⟨rfl, rfl⟩, ⟨rfl, rfl⟩, trivial⟩ | exact ⟨⟨rfl, rfl⟩, ⟨rfl, rfl⟩, ⟨rfl, rfl⟩, ⟨rfl, rfl⟩, ⟨rfl, rfl⟩, ⟨rfl, rfl⟩, trivial⟩ | exact ⟨⟨rfl, rfl⟩, ⟨rfl, rfl⟩, ⟨rfl, rfl⟩, ⟨rfl, rfl⟩, ⟨rfl, rfl⟩, ⟨rfl, rfl⟩, ⟨rfl, rfl⟩, trivial⟩ | exact ⟨⟨rfl, rfl⟩, ⟨rfl, rfl⟩, ⟨rfl, rfl⟩, ⟨rfl, rfl⟩, ⟨rfl, rfl⟩, ⟨rfl, rfl⟩, ⟨rfl, rfl⟩, ⟨rfl, rfl⟩, trivial⟩)) (by (first | exact trivial | exact ⟨⟨rfl, rfl⟩, trivial⟩ | exact ⟨⟨rfl, rfl⟩, ⟨rfl, rfl⟩, trivial⟩ | exact ⟨⟨rfl, rfl⟩, ⟨rfl, rfl⟩, ⟨rfl, rfl⟩, trivial⟩ | exact ⟨⟨rfl, rfl⟩, ⟨rfl, rfl⟩, ⟨rfl, rfl⟩, ⟨rfl, rfl⟩, trivial⟩ | exact ⟨⟨rfl, rfl⟩, ⟨rfl, rfl⟩, ⟨rfl, rfl⟩, ⟨rfl, rfl⟩, ⟨rfl, rfl⟩, trivial⟩ | exact ⟨⟨rfl, rfl⟩, ⟨rfl, rfl⟩, ⟨rfl, rfl⟩, ⟨rfl, rfl⟩, ⟨rfl, rfl⟩, ⟨rfl, rfl⟩, trivial⟩ | exact ⟨⟨rfl, rfl⟩, ⟨rfl, rfl⟩, ⟨rfl, rfl⟩, ⟨rfl, rfl⟩, ⟨rfl, rfl⟩, ⟨rfl, rfl⟩, ⟨rfl, rfl⟩, trivial⟩ | exact ⟨⟨rfl, rfl⟩, ⟨rfl, rfl⟩, ⟨rfl, rfl⟩, ⟨rfl, rfl⟩, ⟨rfl, rfl⟩, ⟨rfl, rfl⟩, ⟨rfl, rfl⟩, ⟨rfl, rfl⟩, trivial⟩)) rfl (by first | exact .inl rfl | exact .inr (fun _ _ => rfl)) ?_) | refine PWops.idxZ1 rfl rfl rfl rfl rfl rfl rfl rfl (by (first | omega | (dsimp only ; omega))) ?_ | refine PWops.idxZ rfl rfl rfl rfl rfl rfl rfl rfl (by (first | omega | (dsimp only ; omega))) ?_ | refine PWops.ld rfl rfl rfl rfl rfl rfl rfl rfl rfl ?_ | refine PWops.slcL rfl rfl rfl rfl rfl rfl rfl rfl (by (first | omega | (dsimp only ; omega))) ?_ | refine PWops.slcH rfl rfl rfl rfl rfl rfl rfl rfl (by (first | omega | (dsimp only ; omega))) ?_ | refine PWops.slcRL rfl rfl rfl rfl rfl rfl rfl rfl (by intro; rfl) (by (first | omega | (dsimp only ; omega))) ?_ | refine PWops.slcRH rfl rfl rfl rfl rfl rfl rfl rfl (by intro; rfl) (by (first | omega | (dsimp only ; omega))) ?_ | refine PWops.slcM rfl rfl rfl rfl rfl rfl rfl rfl rfl (by (first | omega | (dsimp only ; omega))) ?_ | refine PWops.ldM rfl rfl rfl rfl rfl rfl rfl (by (first | omega | (dsimp only ; omega))) rfl ?_ | refine PWops.ldR rfl rfl rfl rfl rfl rfl rfl (by (first | exact secL_len | exact dcellL_len | exact putL_len | (intro; rfl))) (by (first | omega | (dsimp only ; omega))) rfl rfl ?_ | refine PWops.ldRA rfl rfl rfl rfl rfl rfl (by intro; rfl) (by (first | omega | (dsimp only ; omega))) rfl ?_ | refine PWops.slcP rfl rfl rfl rfl rfl rfl rfl rfl rfl (by decide) ?_ | refine PWops.idxE1 rfl rfl rfl rfl rfl rfl rfl rfl (by (first | omega | (dsimp only ; omega))) ?_ | refine PWops.ldG rfl rfl rfl rfl rfl rfl (by (first | rfl | exact secL_len _ | exact dcellL_len _ | exact putL_len _ | exact len_map (by assumption) | exact len_map rfl)) (by (first | rfl | exact secL_bare _ | exact dcellL_bare _ | exact putL_bare _ | exact bare_map (fun _ => rfl) _)) ?_ | refine PWops.ldMB rfl rfl rfl rfl rfl rfl rfl rfl (by (first | omega | (dsimp only ; omega))) rfl rfl ?_ | refine PWops.stMB rfl rfl rfl rfl rfl rfl rfl rfl rfl rfl (by (first | omega | (dsimp only ; omega))) ?_ | refine PWops.idxV rfl rfl rfl rfl rfl rfl rfl rfl (by (first | omega | (dsimp only ; omega))) rfl ?_)) | (first | ((with_reducible refine PW.idd ?_) ; (first | refine PW.region typeTab_ok (by kernel_rfl) ?_ | refine PW.draw typeTab_ok (by kernel_rfl) (by kernel_rfl) (by kernel_rfl) ?_ | refine PW.condT rfl ?_ | refine PW.condF rfl ?_ | refine PW.condTe rfl (by assumption) ?_ | refine PW.condFe rfl (by assumption) ?_ | refine blockP_other (by decide) ?_)) | with_reducible refine blockP_other (by decide) ?_))); exact hHold.out) : p := h ⟨k⟩
theorem wg {p q : Prop} (k : q) (h : Hold q → p := by intro hHold; (repeat ((with_reducible refine PWops.idd ?_) ; first | (first | refine PWops.cvI rfl rfl rfl rfl (by (first | omega | (dsimp only ; omega))) (by (first | omega | (dsimp only ; omega))) rfl ?_ | refine PWops.stepA rfl ?_ | refine PWops.doneI rfl ?_ | refine PWops.boolK true rfl rfl rfl rfl (by (first | rfl | assumption | (simp only [decide_eq_true_eq, decide_eq_false_iff_not, bne_iff_ne, beq_iff_eq, beq_eq_false_iff_ne, bne_eq_false_iff_eq, ne_eq] ; omega))) rfl ?_ | refine PWops.boolK false rfl rfl rfl rfl (by (first | rfl | assumption | (simp only [decide_eq_true_eq, decide_eq_false_iff_not, bne_iff_ne, beq_iff_eq, beq_eq_false_iff_ne, bne_eq_false_iff_eq, ne_eq] ; omega))) rfl ?_ | refine PWops.fitsK rfl rfl rfl rfl (by (first | omega | (dsimp only ; omega))) (by (first | omega | (dsimp only ; omega))) rfl ?_ | refine PWops.remK rfl rfl rfl rfl (by (first | omega | (dsimp only ; omega))) rfl ?_ | refine PWops.quoK rfl rfl rfl rfl (by (first | omega | (dsimp only ; omega))) rfl ?_ | refine PWops.app rfl rfl rfl rfl rfl rfl rfl rfl (by (first | omega | (dsimp only ; omega))) (by (first | omega | (dsimp only ; omega))) (by first | rfl | exact secL_one _ | exact putL_one _ | exact one_pint _ | exact one_pstr _ | exact one_pbyte _ | exact one_pattrs _) ?_ | refine PWops.app0 rfl rfl rfl rfl rfl rfl rfl rfl (by (first | omega | (dsimp only ; omega))) (by (first | omega | (dsimp only ; omega))) (by first | rfl | exact secL_one _ | exact putL_one _ | exact one_pint _ | exact one_pstr _ | exact one_pbyte _ | exact one_pattrs _) ?_ | refine PWops.idx1 rfl rfl rfl rfl rfl rfl rfl rfl (by (first | omega | (dsimp only ; omega))) ?_ | refine PWops.idx rfl rfl rfl rfl rfl rfl rfl rfl (by (first | omega | (dsimp only ; omega))) ?_ | refine PWops.ld rfl rfl rfl rfl rfl rfl rfl (by assumption) rfl ?_ | refine PWops.ldA rfl rfl rfl rfl rfl rfl (by (first | omega | (dsimp only ; omega))) (by assumption) ?_ | refine PWops.str rfl rfl rfl rfl rfl rfl rfl rfl rfl rfl rfl ?_) | (first | refine PWops.arU rfl rfl rfl rfl rfl rfl ?_ | refine PWops.boxA rfl rfl rfl rfl rfl (by (first | rfl | exact secL_one _ | exact dcellL_one _ | exact putL_one _ | exact one_map (fun _ => rfl) _)) (by (first | rfl | exact secL_bare _ | exact dcellL_bare _ | exact putL_bare _ | exact bare_map (fun _ => rfl) _)) ?_ | refine PWops.litA rfl rfl rfl rfl rfl rfl rfl (by (first | rfl | exact secL_len _ | exact dcellL_len _ | exact putL_len _ | exact len_map (by assumption) | exact len_map rfl)) rfl rfl rfl (by (first | rfl | exact secL_one _ | exact dcellL_one _ | exact putL_one _ | exact one_map (fun _ => rfl) _)) (by (first | rfl | exact secL_bare _ | exact dcellL_bare _ | exact putL_bare _ | exact bare_map (fun _ => rfl) _)) ?_ | refine PWops.shlK rfl rfl rfl rfl rfl rfl (by (first | omega | (dsimp only ; omega) | decide)) ?_ | refine PWops.shrK rfl rfl rfl rfl rfl rfl (by (first | omega | (dsimp only ; omega) | decide)) ?_ | refine PWops.ldBC rfl rfl rfl rfl rfl rfl rfl rfl (by (first | exact secL_len | exact dcellL_len | exact putL_len | (intro; rfl))) (by (first | omega | (dsimp only ; omega))) (by (first | rfl | exact dcellL_64 _)) rfl ?_ | refine PWops.ldRB rfl rfl rfl rfl rfl rfl (by (first | exact secL_len | exact dcellL_len | exact putL_len | (intro; rfl))) (by (first | omega | (dsimp only ; omega))) (by (first | exact secL_bare | exact dcellL_bare | exact putL_bare | (intro; rfl))) ?_ | refine PWops.ldSec rfl rfl rfl rfl rfl rfl rfl (by first | with_reducible rfl | with_reducible exact dC_flat _) (by rfl) (by (first | omega | (dsimp only ; omega))) ?_ | refine PWops.ldBR rfl rfl rfl rfl rfl rfl rfl (by (first | exact secL_len | exact dcellL_len | exact putL_len | (intro; rfl))) (by (first | omega | (dsimp only ; omega))) (by (first | exact secL_bare _ | exact dcellL_bare _ | exact putL_bare _ | rfl)) ?_ | refine PWops.lkp rfl rfl rfl rfl rfl rfl rfl rfl rfl rfl rfl (by assumption) ?_ | refine PWops.ldAll rfl rfl rfl rfl rfl rfl rfl (by (first | rfl | exact secL_len _ | exact dcellL_len _ | exact putL_len _ | exact len_map (by assumption) | exact len_map rfl)) (by (first | rfl | exact secL_bare _ | exact dcellL_bare _ | exact putL_bare _ | exact bare_map (fun _ => rfl) _)) ?_ | refine PWops.stAll rfl rfl rfl rfl rfl rfl rfl rfl rfl (by (first | rfl | exact secL_len _ | exact dcellL_len _ | exact putL_len _ | exact len_map (by assumption) | exact len_map rfl)) (by (first | rfl | exact secL_len _ | exact dcellL_len _ | exact putL_len _ | exact len_map (by assumption) | exact len_map rfl)) (by (first | rfl | exact secL_one _ | exact dcellL_one _ | exact putL_one _ | exact one_map (fun _ => rfl) _)) (by (first | rfl | exact secL_bare _ | exact dcellL_bare _ | exact putL_bare _ | exact bare_map (fun _ => rfl) _)) ?_ | refine PWops.idxM rfl rfl rfl rfl rfl rfl rfl rfl (by (first | omega | (dsimp only ; omega))) ?_ | refine PWops.idxP1 rfl rfl rfl rfl rfl rfl rfl rfl (by (first | omega | (dsimp only ; omega))) ?_ | refine PWops.idxP rfl rfl rfl rfl rfl rfl rfl rfl (by (first | omega | (dsimp only ; omega))) ?_ | (refine PWops.call rfl rfl rfl (by assumption) ?_) | (refine PWops.callR rfl rfl (by assumption) (by (first | exact trivial | exact ⟨⟨rfl, rfl⟩, trivial⟩ | exact ⟨⟨rfl, rfl⟩, ⟨rfl, rfl⟩, trivial⟩ | exact ⟨⟨rfl, rfl⟩, ⟨rfl, rfl⟩, ⟨rfl, rfl⟩, trivial⟩ | exact ⟨⟨rfl, rfl⟩, ⟨rfl, rfl⟩, ⟨rfl, rfl⟩, ⟨rfl, rfl⟩, trivial⟩ | exact ⟨⟨rfl, rfl⟩, ⟨rfl, rfl⟩, ⟨rfl, rfl⟩, ⟨rfl, rfl⟩, ⟨rfl, rfl⟩, trivial⟩ | exact ⟨⟨rfl, rfl⟩, ⟨rfl, rfl⟩, ⟨rfl, rfl⟩, ⟨rfl, rfl⟩, ⟨rfl, rfl⟩, ⟨rfl, rfl⟩, trivial⟩ | exact ⟨⟨rfl, rfl⟩, ⟨rfl, rfl⟩, ⟨rfl, rfl⟩, ⟨rfl, rfl⟩, ⟨rfl, rfl⟩, ⟨rfl, rfl⟩, ⟨rfl, rfl⟩, trivial⟩ | exact ⟨⟨rfl, rfl⟩, ⟨rfl, rfl⟩, ⟨rfl, rfl⟩, ⟨rfl, rfl⟩, ⟨rfl, rfl⟩, ⟨rfl, rfl⟩, ⟨rfl, rfl⟩, ⟨rfl, rfl⟩, trivial⟩)) (by (first | exact trivial | exact ⟨⟨rfl, rfl⟩, trivial⟩ | exact ⟨⟨rfl, rfl⟩, ⟨rfl, rfl⟩, trivial⟩ | exact ⟨⟨rfl, rfl⟩, ⟨rfl, rfl⟩, ⟨rfl, rfl⟩, trivial⟩ | exact ⟨⟨rfl, rfl⟩, ⟨rfl, rfl⟩, ⟨rfl, rfl⟩, ⟨rfl, rfl⟩, trivial⟩ | exact ⟨⟨rfl, rfl⟩, ⟨rfl, rfl⟩, ⟨rfl, rfl⟩, ⟨rfl, rfl⟩, ⟨rfl, rfl⟩, trivial⟩ | exact ⟨⟨rfl, rfl⟩, ⟨rfl, rfl⟩, ⟨rfl, rfl⟩, ⟨rfl, rfl⟩, ⟨rfl, rfl⟩, ⟨rfl, rfl⟩, trivial⟩ | exact ⟨⟨rfl, rfl⟩, ⟨rfl, rfl⟩, ⟨rfl, rfl⟩, ⟨rfl, rfl⟩, ⟨rfl, rfl⟩, ⟨rfl, rfl⟩, ⟨rfl, rfl⟩, trivial⟩ | exact ⟨⟨rfl, rfl⟩, ⟨rfl, rfl⟩, ⟨rfl, rfl⟩, ⟨rfl, rfl⟩, ⟨rfl, rfl⟩, ⟨rfl, rfl⟩, ⟨rfl, rfl⟩, ⟨rfl, rfl⟩, trivial⟩)) rfl (by first | exact .inl rfl | exact .inr (fun _ _ => rfl)) ?_) | (refine PWops.callH rfl rfl (by assumption) (by (first | exact trivial | exact ⟨⟨rfl, rfl⟩, trivial⟩ | exact ⟨⟨rfl, rfl⟩, ⟨rfl, rfl⟩, trivial⟩ | exact ⟨⟨rfl, rfl⟩, ⟨rfl, rfl⟩, ⟨rfl, rfl⟩, trivial⟩ | exact ⟨⟨rfl, rfl⟩, ⟨rfl, rfl⟩, ⟨rfl, rfl⟩, ⟨rfl, rfl⟩, trivial⟩ | exact ⟨⟨rfl, rfl⟩, ⟨rfl, rfl⟩, ⟨rfl, rfl⟩, ⟨rfl, rfl⟩, ⟨rfl, rfl⟩, trivial⟩ | exact ⟨⟨rfl, rfl⟩, ⟨rfl, rfl⟩, ⟨rfl, rfl⟩, ⟨rfl, rfl⟩, ⟨rfl, rfl⟩, ⟨rfl, rfl⟩, trivial⟩ | exact ⟨⟨rfl, rfl⟩, ⟨rfl, rfl⟩, ⟨rfl, rfl⟩, ⟨rfl, rfl⟩, ⟨rfl, rfl⟩, ⟨rfl, rfl⟩, ⟨rfl, rfl⟩, trivial⟩ | exact ⟨⟨rfl, rfl⟩, ⟨rfl, rfl⟩, ⟨rfl, rfl⟩, ⟨rfl, rfl⟩, ⟨rfl, rfl⟩, ⟨rfl, rfl⟩, ⟨rfl, rfl⟩, ⟨rfl, rfl⟩, trivial⟩)) (by (first | exact trivial | exact ⟨⟨rfl, rfl⟩, trivial⟩ | exact ⟨⟨rfl, rfl⟩, ⟨rfl, rfl⟩, trivial⟩ | exact ⟨⟨rfl, rfl⟩, ⟨rfl, rfl⟩, ⟨rfl, rfl⟩, trivial⟩ | exact ⟨⟨rfl, rfl⟩, ⟨rfl, rfl⟩, ⟨rfl, rfl⟩, ⟨rfl, rfl⟩, trivial⟩ | exact ⟨⟨rfl, rfl⟩, ⟨rfl, rfl⟩, ⟨rfl, rfl⟩, ⟨rfl, rfl⟩, ⟨rfl, rfl⟩, trivial⟩ | exact ⟨⟨rfl, rfl⟩, ⟨rfl, rfl⟩, ⟨rfl, rfl⟩, ⟨rfl, rfl⟩, ⟨rfl, rfl⟩, ⟨rfl, rfl⟩, trivial⟩ | exact ⟨⟨rfl, rfl⟩, ⟨rfl, rfl⟩, ⟨rfl, rfl⟩, ⟨rfl, rfl⟩, ⟨rfl, rfl⟩, ⟨rfl, rfl⟩, ⟨rfl, rfl⟩, trivial⟩ | exact ⟨⟨rfl, rfl⟩, ⟨rfl, rfl⟩, ⟨rfl, rfl⟩, ⟨rfl, rfl⟩, ⟨rfl, rfl⟩, ⟨rfl, rfl⟩, ⟨rfl, rfl⟩, ⟨rfl, rfl⟩, trivial⟩)) rfl (by first | exact .inl rfl | exact .inr (fun _ _ => rfl)) ?_) | refine PWops.idxZ1 rfl rfl rfl rfl rfl rfl rfl rfl (by (first | omega | (dsimp only ; omega))) ?_ | refine PWops.idxZ rfl rfl rfl rfl rfl rfl rfl rfl (by (first | omega | (dsimp only ; omega))) ?_ | refine PWops.ld rfl rfl rfl rfl rfl rfl rfl rfl rfl ?_ | refine PWops.slcL rfl rfl rfl rfl rfl rfl rfl rfl (by (first | omega | (dsimp only ; omega))) ?_ | refine PWops.slcH rfl rfl rfl rfl rfl rfl rfl rfl (by (first | omega | (dsimp only ; omega))) ?_ | refine PWops.slcRL rfl rfl rfl rfl rfl rfl rfl rfl (by intro; rfl) (by (first | omega | (dsimp only ; omega))) ?_ | refine PWops.slcRH rfl rfl rfl rfl rfl rfl rfl rfl (by intro; rfl) (by (first | omega | (dsimp only ; omega))) ?_ | refine PWops.slcM rfl rfl rfl rfl rfl rfl rfl rfl rfl (by (first | omega | (dsimp only ; omega))) ?_ | refine PWops.ldM rfl rfl rfl rfl rfl rfl rfl (by (first | omega | (dsimp only ; omega))) rfl ?_ | refine PWops.ldR rfl rfl rfl rfl rfl rfl rfl (by (first | exact secL_len | exact dcellL_len | exact putL_len | (intro; rfl))) (by (first | omega | (dsimp only ; omega))) rfl rfl ?_ | refine PWops.ldRA rfl rfl rfl rfl rfl rfl (by intro; rfl) (by (first | omega | (dsimp only ; omega))) rfl ?_ | refine PWops.slcP rfl rfl rfl rfl rfl rfl rfl rfl rfl (by decide) ?_ | refine PWops.idxE1 rfl rfl rfl rfl rfl rfl rfl rfl (by (first | omega | (dsimp only ; omega))) ?_ | refine PWops.ldG rfl rfl rfl rfl rfl rfl (by (first | rfl | exact secL_len _ | exact dcellL_len _ | exact putL_len _ | exact len_map (by assumption) | exact len_map rfl)) (by (first | rfl | exact secL_bare _ | exact dcellL_bare _ | exact putL_bare _ | exact bare_map (fun _ => rfl) _)) ?_ | refine PWops.ldMB rfl rfl rfl rfl rfl rfl rfl rfl (by (first | omega | (dsimp only ; omega))) rfl rfl ?_ | refine PWops.stMB rfl rfl rfl rfl rfl rfl rfl rfl rfl rfl (by (first | omega | (dsimp only ; omega))) ?_ | refine PWops.idxV rfl rfl rfl rfl rfl rfl rfl rfl (by (first | omega | (dsimp only ; omega))) rfl ?_))) ; (repeat (first | (with_reducible first | refine PW.seq ?_ | refine PW.block ?_ | refine PW.skip ?_ | refine PW.exit ?_ | refine PW.ret ?_ | refine thenP ?_ | refine thenP_exit ?_ | refine thenP_ret ?_ | refine blockP ?_ | refine blockP_exit ?_ | refine blockP_ret ?_ | refine loopP_exit ?_ | refine loopP_ret ?_ | refine loopU_exit ?_ | refine loopU_ret ?_) | (first | ((with_reducible refine PW.idd ?_) ; (first | refine PW.condT rfl ?_ | refine PW.condF rfl ?_ | refine PW.condTe rfl (by assumption) ?_ | refine PW.condFe rfl (by assumption) ?_ | refine blockP_other (by decide) ?_)) | with_reducible refine blockP_other (by decide) ?_))); exact hHold.out) : p := h ⟨k⟩
theorem sb {p : Prop} (h : p := by (refine Sub.same ?_ ; (repeat (first | exact SubR.bot | ((with_reducible refine SubR.isp ?_) ; refine SubR.put ?_ (by (first | exact .inl (.ptr _ _ rfl) | exact .inl (.msl _ _ _ _ rfl) | exact .inl (.mref _ rfl) | exact .inl (.low _ (by (first | exact low_mapI | exact low_mapS | exact low_mapB | assumption | exact hlow _ | exact hlow _ _ | exact Low.agg _ (low_map (fun _ => Low.val _) _) | (simp [low_pu32, low_pu64, low_val, low_nilsl, low_sl, low_ep, low_agg, low_tup, low_fn, low_pint, low_pstr, low_pbool, low_pints, low_pstrs, low_pbyte, low_pbytes, hlow] ; done) | (simp [low_pu32, low_pu64, low_val, low_nilsl, low_sl, low_ep, low_agg, low_tup, low_fn, low_pint, low_pstr, low_pbool, low_pints, low_pstrs, low_pbyte, low_pbytes] ; done) | simp [low_pu32, low_pu64, low_val, low_nilsl, low_sl, low_ep, low_agg, low_tup, low_fn, low_pint, low_pstr, low_pbool, low_pints, low_pstrs, low_pbyte, low_pbytes, low_pattrs, low_pdefs, low_pschema, low_pentry]))) | exact .inr (.inl (.low _ (by (first | exact low_mapI | exact low_mapS | exact low_mapB | assumption | exact hlow _ | exact hlow _ _ | exact Low.agg _ (low_map (fun _ => Low.val _) _) | (simp [low_pu32, low_pu64, low_val, low_nilsl, low_sl, low_ep, low_agg, low_tup, low_fn, low_pint, low_pstr, low_pbool, low_pints, low_pstrs, low_pbyte, low_pbytes, hlow] ; done) | (simp [low_pu32, low_pu64, low_val, low_nilsl, low_sl, low_ep, low_agg, low_tup, low_fn, low_pint, low_pstr, low_pbool, low_pints, low_pstrs, low_pbyte, low_pbytes] ; done) | simp [low_pu32, low_pu64, low_val, low_nilsl, low_sl, low_ep, low_agg, low_tup, low_fn, low_pint, low_pstr, low_pbool, low_pints, low_pstrs, low_pbyte, low_pbytes, low_pattrs, low_pdefs, low_pschema, low_pentry])))) | exact .inr (.inr ⟨_, _, rfl, rfl⟩)))) | ((with_reducible refine SubR.isb ?_) ; refine SubR.setb ?_ rfl rfl (by (first | exact RenQL.low (by first | assumption | exact hlow _ | exact hlow _ _ | exact low_map (fun _ => Low.val _) _) | exact RenQL.lowE (by assumption) (low_map (fun _ => Low.val _) _) | ((repeat (refine RenQL.cons (by (first | exact .inl (.ptr _ _ rfl) | exact .inl (.msl _ _ _ _ rfl) | exact .inl (.mref _ rfl) | exact .inl (.low _ (by (first | exact low_mapI | exact low_mapS | exact low_mapB | assumption | exact hlow _ | exact hlow _ _ | exact Low.agg _ (low_map (fun _ => Low.val _) _) | (simp [low_pu32, low_pu64, low_val, low_nilsl, low_sl, low_ep, low_agg, low_tup, low_fn, low_pint, low_pstr, low_pbool, low_pints, low_pstrs, low_pbyte, low_pbytes, hlow] ; done) | (simp [low_pu32, low_pu64, low_val, low_nilsl, low_sl, low_ep, low_agg, low_tup, low_fn, low_pint, low_pstr, low_pbool, low_pints, low_pstrs, low_pbyte, low_pbytes] ; done) | simp [low_pu32, low_pu64, low_val, low_nilsl, low_sl, low_ep, low_agg, low_tup, low_fn, low_pint, low_pstr, low_pbool, low_pints, low_pstrs, low_pbyte, low_pbytes, low_pattrs, low_pdefs, low_pschema, low_pentry]))) | exact .inr (.inl (.low _ (by (first | exact low_mapI | exact low_mapS | exact low_mapB | assumption | exact hlow _ | exact hlow _ _ | exact Low.agg _ (low_map (fun _ => Low.val _) _) | (simp [low_pu32, low_pu64, low_val, low_nilsl, low_sl, low_ep, low_agg, low_tup, low_fn, low_pint, low_pstr, low_pbool, low_pints, low_pstrs, low_pbyte, low_pbytes, hlow] ; done) | (simp [low_pu32, low_pu64, low_val, low_nilsl, low_sl, low_ep, low_agg, low_tup, low_fn, low_pint, low_pstr, low_pbool, low_pints, low_pstrs, low_pbyte, low_pbytes] ; done) | simp [low_pu32, low_pu64, low_val, low_nilsl, low_sl, low_ep, low_agg, low_tup, low_fn, low_pint, low_pstr, low_pbool, low_pints, low_pstrs, low_pbyte, low_pbytes, low_pattrs, low_pdefs, low_pschema, low_pentry])))) | exact .inr (.inr ⟨_, _, rfl, rfl⟩))) ?_)) ; exact RenQL.nil)))) | ((with_reducible refine SubR.ism ?_) ; refine SubR.setm ?_ rfl rfl (by (first | exact ⟨rfl, rfl, rfl, rfl, rfl⟩ | exact RenM.low (by first | assumption | exact hlowm _ | exact hlowm _ _)))))))) : p := h
theorem lw {p : Prop} (h : p := by (first | exact low_mapI | exact low_mapS | exact low_mapB | assumption | exact hlow _ | exact hlow _ _ | exact Low.agg _ (low_map (fun _ => Low.val _) _) | (simp [low_pu32, low_pu64, low_val, low_nilsl, low_sl, low_ep, low_agg, low_tup, low_fn, low_pint, low_pstr, low_pbool, low_pints, low_pstrs, low_pbyte, low_pbytes, hlow] ; done) | (simp [low_pu32, low_pu64, low_val, low_nilsl, low_sl, low_ep, low_agg, low_tup, low_fn, low_pint, low_pstr, low_pbool, low_pints, low_pstrs, low_pbyte, low_pbytes] ; done) | simp [low_pu32, low_pu64, low_val, low_nilsl, low_sl, low_ep, low_agg, low_tup, low_fn, low_pint, low_pstr, low_pbool, low_pints, low_pstrs, low_pbyte, low_pbytes, low_pattrs, low_pdefs, low_pschema, low_pentry])) : p := h
end Go.Proofs.Ytilcpcpmkklobaa

/- The disk: what its memory reads as; contracts of its methods for all numbers of its variables. -/
namespace Go.Proofs.Ytilcpcpmkklobaa
set_option linter.unusedSimpArgs false
set_option linter.unusedVariables false
set_option linter.unnecessarySimpa false
open Go.RowKit

/-- A sector: 64 bytes. -/
def Sec := {l : List Int // l.length = 64 ∧ ∀ x ∈ l, 0 ≤ x ∧ x < 256}
def zeroSec : Sec := ⟨List.replicate 64 0, by decide⟩
instance : Inhabited Sec := ⟨zeroSec⟩
def secL (s : Sec) : List PV := s.1.map pbyte
theorem secL_len (s : Sec) : (secL s).length = 64 := by simp [secL, s.2.1]
theorem secL_low (s : Sec) : ∀ c ∈ secL s, Low c := by
  intro c hc
  obtain ⟨z, -, rfl⟩ := List.mem_map.1 hc
  exact .val _
theorem secL_one (s : Sec) : (secL s).all PV.one = true := one_pbyte _
theorem secL_bare (s : Sec) : (secL s).map PV.bare = secL s := by
  simp only [secL, List.map_map]; rfl
structure DCell where
  s : Sec
  bad : Bool
instance : Inhabited DCell := ⟨⟨zeroSec, false⟩⟩
def dcellL (c : DCell) : List PV := secL c.s ++ [pbool c.bad]
theorem dcellL_len (c : DCell) : (dcellL c).length = 65 := by simp [dcellL, secL_len]
theorem dcellL_low (c : DCell) : ∀ p ∈ dcellL c, Low p := by
  intro p hp
  rcases List.mem_append.1 hp with h | h
  · exact secL_low _ p h
  · simp at h; subst h; exact .val _
theorem dcellL_one (s : DCell) : (dcellL s).all PV.one = true := by
  rw [dcellL, List.all_append, secL_one]; rfl
theorem dcellL_bare (s : DCell) : (dcellL s).map PV.bare = dcellL s := by
  rw [dcellL, List.map_append, secL_bare]; rfl
theorem flat_low {α : Type} {f : α → List PV} (h : ∀ x, ∀ p ∈ f x, Low p) (l : List α) : ∀ p ∈ l.flatMap f, Low p := by
  intro p hp
  obtain ⟨x, -, hx⟩ := List.mem_flatMap.1 hp
  exact h x p hx

/-- A disk: its sectors, the entries of its map of open writes, and the rest. -/
structure DM where
  cells : List DCell
  op : List (Nat × Int × List Sec)
  clock : Nat
  steps : Int
  after : Int
  dead : Bool
def psecs (l : List Sec) (own : Option TypeId) : PV := .sl l.length 64 (l.flatMap secL) own
theorem psecs_low (l : List Sec) (own : Option TypeId) : Low (psecs l own) := .sl _ _ _ _ (flat_low secL_low l)
def dE (e : Nat × Int × List Sec) : Nat × PV × PV := (e.1, pint e.2.1, psecs e.2.2 (some 33))
def dB (c m : Nat) (D : DM) : List PV := [.msl c 0 D.cells.length 65, .mref m, pint D.steps, pint D.after, pbool D.dead]
def dC (D : DM) : List PV := D.cells.flatMap dcellL
def dM (D : DM) : PMap := .map (D.op.map dE) D.clock
def dG (d c m : Nat) (D : DM) : List (Nat × List PV) := [(d, dB c m D), (c, dC D)]
def dMs (m : Nat) (D : DM) : List (Nat × PMap) := [(m, dM D)]
theorem dC_low (D : DM) : ∀ p ∈ dC D, Low p := flat_low dcellL_low _
theorem secL_noI (s : Sec) : ∀ p ∈ secL s, noI64 p = true := by
  intro p hp
  obtain ⟨z, -, rfl⟩ := List.mem_map.1 hp
  rfl
theorem psecs_owns (l : List Sec) (own : Option TypeId) : OwnsOK (psecs l own) := owns_sl (fun p hp => by
  obtain ⟨x, -, hx⟩ := List.mem_flatMap.1 hp
  exact secL_noI x p hx)
theorem dC_owns (D : DM) : ∀ c ∈ dC D, OwnsOK c := by
  intro c hc
  obtain ⟨x, -, hx⟩ := List.mem_flatMap.1 hc
  rcases List.mem_append.1 hx with h | h
  · obtain ⟨z, -, rfl⟩ := List.mem_map.1 h; exact owns_no rfl
  · simp at h; subst h; exact owns_no rfl
theorem dM_owns (D : DM) : ∀ e ∈ D.op.map dE, OwnsOK e.2.2 := by
  intro e he
  obtain ⟨x, -, rfl⟩ := List.mem_map.1 he
  exact psecs_owns _ _
theorem dM_low (D : DM) : ∀ e ∈ D.op.map dE, Low e.2.1 ∧ Low e.2.2 := by
  intro e he
  obtain ⟨x, -, rfl⟩ := List.mem_map.1 he
  exact ⟨.val _, psecs_low _ _⟩

def ids3 (d c m : Nat) : List Nat := [d, c, m]
def disk3 (d c m i : Nat) : Nat := if i = 1000001 then d else if i = 1000002 then c else if i = 1000003 then m else i

theorem dB_lowI {S : Nat → Prop} {c m : Nat} (hc : S c) (hm : S m) (D : DM) : ∀ p ∈ dB c m D, LowI S p := by
  intro p hp
  simp only [dB, List.mem_cons, List.not_mem_nil, or_false] at hp
  rcases hp with rfl | rfl | rfl | rfl | rfl
  · exact .msl _ _ _ _ hc
  · exact .mref _ hm
  · exact .val _
  · exact .val _
  · exact .val _
theorem dB_ren {S : Nat → Prop} {d c m : Nat} (hc : S 1000002) (hm : S 1000003) (D : DM) : RenL (disk3 d c m) S (dB 1000002 1000003 D) (dB c m D) :=
  .cons (.msl 1000002 0 _ _ hc) (.cons (.mref 1000003 hm) (.cons (.low _ (.val _)) (.cons (.low _ (.val _)) (.cons (.low _ (.val _)) .nil))))

section
variable {f : FuncId} {fn : Func} {c : Code}
/-- The contract of a method of a disk that makes no other disk. -/
def DCalls (f : FuncId) (args : List PV) (D : DM) (r : PV) (D' : DM) : Prop := ∀ d c m, (ids3 d c m).Nodup → HCalls Try.prog f (.ptr d 0 :: args) (dG d c m D) (dMs m D) r (dG d c m D') (dMs m D')

theorem dcalls_of_pw {args : List PV} {D D' : DM} {r : PV} (hf : Try.prog.funcs[f]? = some fn) (hb : fn.body = some c) (hcb : callB Try.prog f = true) (hlow : ∀ p ∈ args, Low p) (hno : ∀ p ∈ args, p.ownB = false) (hn : args.length + 1 ≤ fn.ntmps) (hr : Low r)
    (h : PW Try.prog fn.ntmps c (RetH typeTab fn.results.toList r (dG 1000001 1000002 1000003 D') (dMs 1000003 D')) (initH (.ptr 1000001 0 :: args) (dG 1000001 1000002 1000003 D) (dMs 1000003 D))) : DCalls f args D r D' := by
  have h1 : HCalls Try.prog f (.ptr 1000001 0 :: args) (dG 1000001 1000002 1000003 D) (dMs 1000003 D) r (dG 1000001 1000002 1000003 D') (dMs 1000003 D') := by
    have r3 : ∀ D, ResIds (dG 1000001 1000002 1000003 D) (dMs 1000003 D) = [1000001, 1000002, 1000003] := fun _ => rfl
    refine hcalls_of_pw typeTab_ok hf hb hcb (fun p hp => ?_) (by simpa using hn) (by rw [r3]; decide) (by rw [r3]; decide) ⟨fun p hp => ?_, fun x hx => ?_, fun x hx => ?_, hr.lowI, fun x hx => ?_, fun x hx => ?_, by simp [dG], by simp [dMs]⟩ h
    · rcases List.mem_cons.1 hp with rfl | hp
      · rfl
      · exact hno p hp
    · rcases List.mem_cons.1 hp with rfl | hp
      · exact .ptr _ _ (by rw [r3]; decide)
      · exact (hlow p hp).lowI
    · simp only [dG, List.mem_cons, List.not_mem_nil, or_false] at hx
      rcases hx with rfl | rfl
      · exact dB_lowI (by rw [r3]; decide) (by rw [r3]; decide) D
      · exact fun p hp => (dC_low D p hp).lowI
    · simp only [dMs, List.mem_cons, List.not_mem_nil, or_false] at hx
      subst hx
      exact fun e he => ⟨(dM_low D e he).1.lowI, (dM_low D e he).2.lowI⟩
    · simp only [dG, List.mem_cons, List.not_mem_nil, or_false] at hx
      rcases hx with rfl | rfl
      · exact dB_lowI (by rw [r3]; decide) (by rw [r3]; decide) D'
      · exact fun p hp => (dC_low D' p hp).lowI
    · simp only [dMs, List.mem_cons, List.not_mem_nil, or_false] at hx
      subst hx
      exact fun e he => ⟨(dM_low D' e he).1.lowI, (dM_low D' e he).2.lowI⟩
  intro d c m hnd
  have r3 : ∀ D, ResIds (dG 1000001 1000002 1000003 D) (dMs 1000003 D) = [1000001, 1000002, 1000003] := fun _ => rfl
  have hG : ∀ D, RenB (disk3 d c m) (fun i => i ∈ [1000001, 1000002, 1000003]) (dG 1000001 1000002 1000003 D) (dG d c m D) := fun D =>
    .cons 1000001 _ _ _ _ (dB_ren (by decide) (by decide) D) (.cons 1000002 _ _ _ _ (.low (dC_low D)) .nil)
  have hM : ∀ D, RenMs (disk3 d c m) (fun i => i ∈ [1000001, 1000002, 1000003]) (dMs 1000003 D) (dMs m D) := fun D => .cons 1000003 _ _ _ _ (.low (dM_low D)) .nil
  refine h1.ren (disk3 d c m) (by simp [dG]) (by simp [dMs]) ?_ ?_ (hG D) (hM D) (.low _ hr) (hG D') (hM D')
  · rw [r3]
    simp only [ids3, List.nodup_cons, List.mem_cons, List.not_mem_nil, or_false, not_or, List.nodup_nil, and_true, not_false_eq_true] at hnd
    obtain ⟨⟨n1, n2⟩, n3⟩ := hnd
    intro i hi j hj e
    simp only [List.mem_cons, List.not_mem_nil, or_false] at hi hj
    rcases hi with rfl | rfl | rfl <;> rcases hj with rfl | rfl | rfl <;> simp [disk3] at e ⊢ <;> first | exact absurd e n1 | exact absurd e n2 | exact absurd e n3 | exact absurd e.symm n1 | exact absurd e.symm n2 | exact absurd e.symm n3
  · exact .cons (.ptr 1000001 0 (by rw [r3]; decide)) (.low hlow)
end
end Go.Proofs.Ytilcpcpmkklobaa

/- The disk: walks of its small methods. -/
namespace Go.Proofs.Ytilcpcpmkklobaa
set_option linter.unusedSimpArgs false
set_option linter.unusedVariables false
set_option linter.unnecessarySimpa false
open Go.RowKit


/-- A call for a sector. -/
def DM.check (D : DM) (i : Int) : Int := if D.dead then 220 else if i < 0 ∨ (D.cells.length : Int) ≤ i then 1 else 0
def DM.step (D : DM) : Int × DM := if D.after = 0 then (220, { D with dead := true }) else (0, { D with steps := D.steps + 1, after := if 0 < D.after then D.after - 1 else D.after })

set_option maxRecDepth 10000 in
set_option maxHeartbeats 1000000 in
theorem dc_Size (D : DM) : DCalls 15 [] D (pint D.cells.length) D := by
  refine dcalls_of_pw Try.func15 rfl rfl (by simp) (by simp) (by decide) (.val _) ?_
  refine wk ?_
  exact RetH.mk rfl (Weak.refl _) ⟨⟨_, rfl, WeakL.refl _⟩, ⟨_, rfl, WeakL.refl _⟩, trivial⟩ ⟨⟨rfl, rfl⟩, trivial⟩

set_option maxRecDepth 10000 in
set_option maxHeartbeats 1000000 in
theorem dc_Down (D : DM) : DCalls 16 [] D (pbool D.dead) D := by
  refine dcalls_of_pw Try.func16 rfl rfl (by simp) (by simp) (by decide) (.val _) ?_
  refine wk ?_
  exact RetH.mk rfl (Weak.refl _) ⟨⟨_, rfl, WeakL.refl _⟩, ⟨_, rfl, WeakL.refl _⟩, trivial⟩ ⟨⟨rfl, rfl⟩, trivial⟩

set_option maxRecDepth 10000 in
set_option maxHeartbeats 1000000 in
theorem dc_Steps (D : DM) : DCalls 17 [] D (pint D.steps) D := by
  refine dcalls_of_pw Try.func17 rfl rfl (by simp) (by simp) (by decide) (.val _) ?_
  refine wk ?_
  exact RetH.mk rfl (Weak.refl _) ⟨⟨_, rfl, WeakL.refl _⟩, ⟨_, rfl, WeakL.refl _⟩, trivial⟩ ⟨⟨rfl, rfl⟩, trivial⟩

def maxI (a b : Int) : Int := if b > a then b else a
set_option maxRecDepth 10000 in
set_option maxHeartbeats 1000000 in
theorem dc_Arm (D : DM) (n : Int) : DCalls 20 [pint n] D (.tup []) { D with after := maxI n (-1) } := by
  refine dcalls_of_pw Try.func20 rfl rfl (by exact lw) (by simp [pint, PV.ownB]) (Nat.le_of_ble_eq_true rfl) (by exact lw) ?_
  refine wk ?_
  exact ⟨_, rfl, Weak.refl _, ⟨⟨_, rfl, WeakL.refl _⟩, ⟨_, rfl, WeakL.refl _⟩, trivial⟩, ⟨⟨rfl, rfl⟩, trivial⟩⟩

set_option maxRecDepth 10000 in
set_option maxHeartbeats 1000000 in
theorem dc_check (D : DM) (i : Int) : DCalls 34 [pint i] D (pint (D.check i)) D := by
  refine dcalls_of_pw Try.func34 rfl rfl (by exact lw) (by simp [pint, PV.ownB]) (Nat.le_of_ble_eq_true rfl) (by exact lw) ?_
  obtain ⟨cells, op, clock, steps, after, dead⟩ := D
  cases dead
  · by_cases h1 : i < 0
    · have hc : DM.check ⟨cells, op, clock, steps, after, false⟩ i = 1 := by simp [DM.check, h1]
      rw [hc]
      refine wk ?_
      exact RetH.mk rfl (Weak.refl _) ⟨⟨_, rfl, WeakL.refl _⟩, ⟨_, rfl, WeakL.refl _⟩, trivial⟩ ⟨⟨rfl, rfl⟩, trivial⟩
    · by_cases h2 : (cells.length : Int) ≤ i
      · have hc : DM.check ⟨cells, op, clock, steps, after, false⟩ i = 1 := by simp [DM.check, h2]
        rw [hc]
        refine wk ?_
        exact RetH.mk rfl (Weak.refl _) ⟨⟨_, rfl, WeakL.refl _⟩, ⟨_, rfl, WeakL.refl _⟩, trivial⟩ ⟨⟨rfl, rfl⟩, trivial⟩
      · have hc : DM.check ⟨cells, op, clock, steps, after, false⟩ i = 0 := by simp [DM.check, h1, h2]
        rw [hc]
        refine wk ?_
        exact RetH.mk rfl (Weak.refl _) ⟨⟨_, rfl, WeakL.refl _⟩, ⟨_, rfl, WeakL.refl _⟩, trivial⟩ ⟨⟨rfl, rfl⟩, trivial⟩
  · have hc : DM.check ⟨cells, op, clock, steps, after, true⟩ i = 220 := by simp [DM.check]
    rw [hc]
    refine wk ?_
    exact RetH.mk rfl (Weak.refl _) ⟨⟨_, rfl, WeakL.refl _⟩, ⟨_, rfl, WeakL.refl _⟩, trivial⟩ ⟨⟨rfl, rfl⟩, trivial⟩

set_option maxRecDepth 10000 in
set_option maxHeartbeats 1000000 in
theorem dc_step (D : DM) (h : 0 ≤ D.steps ∧ D.steps ≤ 1000000000 ∧ -1 ≤ D.after) (h2 : D.after ≤ 9223372036854775807) : DCalls 39 [] D (pint D.step.1) D.step.2 := by
  refine dcalls_of_pw Try.func39 rfl rfl (by simp) (by simp) (by decide) (by exact lw) ?_
  obtain ⟨cells, op, clock, steps, after, dead⟩ := D
  simp only at h h2
  by_cases h1 : after = 0
  · have hc : DM.step ⟨cells, op, clock, steps, after, dead⟩ = (220, ⟨cells, op, clock, steps, after, true⟩) := by simp [DM.step, h1]
    rw [hc]
    refine wk ?_
    exact RetH.mk rfl (Weak.refl _) ⟨⟨_, rfl, WeakL.refl _⟩, ⟨_, rfl, WeakL.refl _⟩, trivial⟩ ⟨⟨rfl, rfl⟩, trivial⟩
  · by_cases h3 : 0 < after
    · have hc : DM.step ⟨cells, op, clock, steps, after, dead⟩ = (0, ⟨cells, op, clock, steps + 1, after - 1, dead⟩) := by simp [DM.step, h1, h3]
      rw [hc]
      refine wk ?_
      exact RetH.mk rfl (Weak.refl _) ⟨⟨_, rfl, WeakL.refl _⟩, ⟨_, rfl, WeakL.refl _⟩, trivial⟩ ⟨⟨rfl, rfl⟩, trivial⟩
    · have hc : DM.step ⟨cells, op, clock, steps, after, dead⟩ = (0, ⟨cells, op, clock, steps + 1, after, dead⟩) := by simp [DM.step, h1, h3]
      rw [hc]
      refine wk ?_
      exact RetH.mk rfl (Weak.refl _) ⟨⟨_, rfl, WeakL.refl _⟩, ⟨_, rfl, WeakL.refl _⟩, trivial⟩ ⟨⟨rfl, rfl⟩, trivial⟩
end Go.Proofs.Ytilcpcpmkklobaa

/- The disk: Read. -/
namespace Go.Proofs.Ytilcpcpmkklobaa
set_option linter.unusedSimpArgs false
set_option linter.unusedVariables false
set_option linter.unnecessarySimpa false
open Go.RowKit

def psec (s : Sec) : PV := .agg (secL s)
theorem psec_low (s : Sec) : Low (psec s) := .agg _ (secL_low s)
def opIdx (i : Int) : List (Nat × Int × List Sec) → Nat → Option Nat
  | [], _ => none
  | (_, k, _) :: l, n => if i = k then some n else opIdx i l (n + 1)
theorem opIdx_find (i : Int) : ∀ (l : List (Nat × Int × List Sec)) (n : Nat), mfind .int (.int .i64 i) (l.map dE) n = some (opIdx i l n)
  | [], n => rfl
  | (s, k, v) :: l, n => by
    simp only [List.map_cons, dE, pint, mfind, veq, if_true, opIdx]
    by_cases h : i = k
    · subst h; simp
    · have : (i == k) = false := by simpa using h
      rw [this, if_neg h]
      exact opIdx_find i l (n + 1)
theorem opIdx_lt {i : Int} : ∀ {l : List (Nat × Int × List Sec)} {n j : Nat}, opIdx i l n = some j → n ≤ j ∧ j < n + l.length ∧ ∃ s v, l[j - n]? = some (s, i, v)
  | [], n, j, h => by simp [opIdx] at h
  | (s, k, v) :: l, n, j, h => by
    simp only [opIdx] at h
    split at h
    · rename_i e; subst e; cases h; exact ⟨Nat.le_refl _, by simp, s, v, by simp⟩
    · obtain ⟨h1, h2, s', v', h3⟩ := opIdx_lt h
      refine ⟨by omega, by simp; omega, s', v', ?_⟩
      rw [show j - n = (j - (n + 1)) + 1 by omega]; simpa using h3
instance : Inhabited (Nat × Int × List Sec) := ⟨(0, 0, [])⟩
/-- The open writes of a sector. -/
def DM.get (D : DM) (i : Int) : List Sec := match opIdx i D.op 0 with
  | some j => (D.op.getD j default).2.2
  | none => []
def lastS (l : List Sec) : Sec := l.getD ((l.length : Int) - 1).toNat default
def DM.cell (D : DM) (i : Int) : DCell := D.cells.getD i.toNat default
def DM.read (D : DM) (i : Int) : Sec × Int := if D.check i = 0 then (if 0 < (D.get i).length then (lastS (D.get i), 0) else if (D.cell i).bad then (zeroSec, 221) else ((D.cell i).s, 0)) else (zeroSec, D.check i)

theorem dget (D : DM) (i : Int) {ki ei : TyI} (hk : ki.kind = .int .i64) (he : zeroPV ei = some .nilsl) : ∃ b, mget ki ei (D.op.map dE) (.int .i64 i) = some (if opIdx i D.op 0 = none then .nilsl else psecs (D.get i) none, b) := by
  unfold mget
  simp only [hk, keyOK, skT, decide_true, if_true, opIdx_find]
  cases h : opIdx i D.op 0 with
  | none => exact ⟨false, by simp [he, PV.bare]⟩
  | some j =>
    obtain ⟨-, h2, s, v, h3⟩ := opIdx_lt h
    simp only [Nat.sub_zero] at h3
    refine ⟨true, ?_⟩
    simp only [List.getElem?_map, h3, Option.map_some, dE, reduceCtorEq, if_false, DM.get, h, List.getD_eq_getElem?_getD, Option.getD_some]
    rfl

theorem check0 {D : DM} {i : Int} (h : D.check i = 0) : D.dead = false ∧ 0 ≤ i ∧ i < D.cells.length := by
  unfold DM.check at h
  split at h
  · cases h
  · split at h
    · cases h
    · rename_i h1 h2
      exact ⟨by simpa using h1, by omega, by omega⟩

theorem dcellL_64 (c : DCell) : (dcellL c)[64]? = some (pbool c.bad) := by
  rw [dcellL, List.getElem?_append_right (by rw [secL_len]; exact Nat.le_refl _), secL_len]; rfl

theorem dC_flat (D : DM) : dC D = D.cells.flatMap dcellL := rfl
section
variable {P : Program} {T : Tab} {σ : PS} {o : Oper} {i base : Nat} {ops : Array Oper} {ok : Nat → Nat → Bool} {rest : List (Nat × Oper)} {K : PS → Prop}
theorem PWops.ldSec {d id : Nat} {z : Nat} {l : List DCell} {x : Operand} {t : TypeId} {kd : TD} {zr : List PV} {es : List SK} (hg : pguard ops σ o = some true) (hd : o.dst = some d) (hop : o.op = .load t x) {off : Nat} (hx : pev σ x = .ptr id off) (ht : T.at t = some ⟨64, true, kd, zr, es⟩) (hb : σ.freeB (base + i) = true) {bs : List PV} (hbs : (σ.only (ok i)).b id = some bs) (hf : bs = l.flatMap dcellL) (ho : off = 0 + z * 65 + 0) (hl : z < l.length)
    (kn : PWops P T ops base ok rest K (σ.put d (psec (l.getD z default).s))) : PWops P T ops base ok ((i, o) :: rest) K σ := by
  subst ho
  subst hf
  refine PWops.ldBA hg hd hop hx ht hb hbs ?_ ?_ kn
  · rw [flatMap_len dcellL_len]
    have := Nat.mul_le_mul_right 65 (show z + 1 ≤ l.length from hl)
    omega
  · have h1 := flatMap_row dcellL_len (getD_get default hl)
    have h2 : ((l.flatMap dcellL).drop (0 + z * 65 + 0)).take 64 = (((l.flatMap dcellL).drop (z * 65)).take 65).take 64 := by
      rw [List.take_take, show 0 + z * 65 + 0 = z * 65 by omega]; rfl
    rw [h2, h1, dcellL, List.take_append_of_le_length (by rw [secL_len]; exact Nat.le_refl _), List.take_of_length_le (by rw [secL_len]; exact Nat.le_refl _), secL_bare]
end

set_option maxRecDepth 10000 in
set_option maxHeartbeats 1000000 in
theorem dc_Read (D : DM) (i : Int) (hsz : D.cells.length ≤ 1000000000) (hop : ∀ e ∈ D.op, e.2.2.length ≤ 1000000000) : DCalls 11 [pint i] D (.tup [psec (D.read i).1, pint (D.read i).2]) D := by
  refine dcalls_of_pw Try.func11 rfl rfl (by exact lw) (by simp [pint, PV.ownB]) (Nat.le_of_ble_eq_true rfl) (.tup _ (by intro c hc; simp at hc; rcases hc with rfl | rfl; exact psec_low _; exact .val _)) ?_
  have hck := dc_check D i 1000001 1000002 1000003 (by decide)
  have hgl : (D.get i).length ≤ 1000000000 := by
    unfold DM.get
    cases h : opIdx i D.op 0 with
    | none => simp
    | some j =>
      obtain ⟨-, h2, s, v, h3⟩ := opIdx_lt h
      simp only [Nat.sub_zero] at h3
      simp only [List.getD_eq_getElem?_getD, h3, Option.getD_some]
      exact hop _ (List.mem_of_getElem? h3)
  by_cases h1 : D.check i = 0
  · obtain ⟨hd, hi0, hi1⟩ := check0 h1
    obtain ⟨b, hb⟩ := dget D i (ki := ⟨1, false, .int .i64, [.val (.int .i64 0)], []⟩) (ei := ⟨1, false, .slice 33 64 64 (List.replicate 64 (.val (.int .u8 0))), [.nilsl], []⟩) rfl rfl
    cases hx : opIdx i D.op 0 with
    | none =>
      have hg0 : D.get i = [] := by simp [DM.get, hx]
      rw [hx] at hb
      simp only [if_true] at hb
      cases hbad : (D.cells.getD i.toNat default).bad with
      | true =>
        have hr : D.read i = (zeroSec, 221) := by unfold DM.read DM.cell; rw [if_pos h1, hg0, hbad]; rfl
        rw [hr]
        refine wk ?_
        exact RetH.mk (presult2 (pres_cell rfl rfl rfl (by (first | rfl | exact secL_len _ | exact dcellL_len _ | exact putL_len _ | exact len_map (by assumption) | exact len_map rfl)) (by (first | rfl | exact secL_bare _ | exact dcellL_bare _ | exact putL_bare _ | exact bare_map (fun _ => rfl) _))) rfl) (Weak.eq rfl) ⟨⟨_, rfl, WeakL.refl _⟩, ⟨_, rfl, WeakL.refl _⟩, trivial⟩ ⟨⟨rfl, rfl⟩, trivial⟩
      | false =>
        have hr : D.read i = ((D.cells.getD i.toNat default).s, 0) := by unfold DM.read DM.cell; rw [if_pos h1, hg0, hbad]; rfl
        rw [hr]
        refine wk ?_
        exact RetH.mk (presult2 (pres_cell rfl rfl rfl (by (first | rfl | exact secL_len _ | exact dcellL_len _ | exact putL_len _ | exact len_map (by assumption) | exact len_map rfl)) (by (first | rfl | exact secL_bare _ | exact dcellL_bare _ | exact putL_bare _ | exact bare_map (fun _ => rfl) _))) rfl) (Weak.eq rfl) ⟨⟨_, rfl, WeakL.refl _⟩, ⟨_, rfl, WeakL.refl _⟩, trivial⟩ ⟨⟨rfl, rfl⟩, trivial⟩
    | some j =>
      rw [hx] at hb
      simp only [reduceCtorEq, if_false] at hb
      by_cases hl : 0 < (D.get i).length
      · have hr : D.read i = (lastS (D.get i), 0) := by simp [DM.read, h1, hl]
        rw [hr]
        refine wk ?_
        exact RetH.mk (presult2 (pres_cell rfl rfl rfl (by (first | rfl | exact secL_len _ | exact dcellL_len _ | exact putL_len _ | exact len_map (by assumption) | exact len_map rfl)) (by (first | rfl | exact secL_bare _ | exact dcellL_bare _ | exact putL_bare _ | exact bare_map (fun _ => rfl) _))) rfl) (Weak.eq rfl) ⟨⟨_, rfl, WeakL.refl _⟩, ⟨_, rfl, WeakL.refl _⟩, trivial⟩ ⟨⟨rfl, rfl⟩, trivial⟩
      · have hl0 : (D.get i).length = 0 := by omega
        cases hbad : (D.cells.getD i.toNat default).bad with
        | true =>
          have hr : D.read i = (zeroSec, 221) := by unfold DM.read DM.cell; rw [if_pos h1, if_neg hl, hbad]; rfl
          rw [hr]
          refine wk ?_
          exact RetH.mk (presult2 (pres_cell rfl rfl rfl (by (first | rfl | exact secL_len _ | exact dcellL_len _ | exact putL_len _ | exact len_map (by assumption) | exact len_map rfl)) (by (first | rfl | exact secL_bare _ | exact dcellL_bare _ | exact putL_bare _ | exact bare_map (fun _ => rfl) _))) rfl) (Weak.eq rfl) ⟨⟨_, rfl, WeakL.refl _⟩, ⟨_, rfl, WeakL.refl _⟩, trivial⟩ ⟨⟨rfl, rfl⟩, trivial⟩
        | false =>
          have hr : D.read i = ((D.cells.getD i.toNat default).s, 0) := by unfold DM.read DM.cell; rw [if_pos h1, if_neg hl, hbad]; rfl
          rw [hr]
          refine wk ?_
          exact RetH.mk (presult2 (pres_cell rfl rfl rfl (by (first | rfl | exact secL_len _ | exact dcellL_len _ | exact putL_len _ | exact len_map (by assumption) | exact len_map rfl)) (by (first | rfl | exact secL_bare _ | exact dcellL_bare _ | exact putL_bare _ | exact bare_map (fun _ => rfl) _))) rfl) (Weak.eq rfl) ⟨⟨_, rfl, WeakL.refl _⟩, ⟨_, rfl, WeakL.refl _⟩, trivial⟩ ⟨⟨rfl, rfl⟩, trivial⟩
  · have hr : D.read i = (zeroSec, D.check i) := by simp [DM.read, h1]
    rw [hr]
    refine wk ?_
    exact RetH.mk (presult2 (pres_cell rfl rfl rfl (by (first | rfl | exact secL_len _ | exact dcellL_len _ | exact putL_len _ | exact len_map (by assumption) | exact len_map rfl)) (by (first | rfl | exact secL_bare _ | exact dcellL_bare _ | exact putL_bare _ | exact bare_map (fun _ => rfl) _))) rfl) (Weak.eq rfl) ⟨⟨_, rfl, WeakL.refl _⟩, ⟨_, rfl, WeakL.refl _⟩, trivial⟩ ⟨⟨rfl, rfl⟩, trivial⟩
end Go.Proofs.Ytilcpcpmkklobaa

/- The disk: Rot, Write. -/
namespace Go.Proofs.Ytilcpcpmkklobaa
set_option linter.unusedSimpArgs false
set_option linter.unusedVariables false
set_option linter.unnecessarySimpa false
open Go.RowKit

def DM.setc (D : DM) (i : Int) (c : DCell) : DM := { D with cells := D.cells.set i.toNat c }
def DM.rot (D : DM) (i : Int) : DM := if D.check i = 0 then D.setc i ⟨zeroSec, true⟩ else D

set_option maxRecDepth 10000 in
set_option maxHeartbeats 1000000 in
theorem dc_Rot (D : DM) (i : Int) : DCalls 25 [pint i] D (pint (D.check i)) (D.rot i) := by
  refine dcalls_of_pw Try.func25 rfl rfl (by exact lw) (by simp [pint, PV.ownB]) (Nat.le_of_ble_eq_true rfl) (.val _) ?_
  have hck := dc_check D i 1000001 1000002 1000003 (by decide)
  by_cases h1 : D.check i = 0
  · obtain ⟨hd, hi0, hi1⟩ := check0 h1
    have hr : D.rot i = D.setc i ⟨zeroSec, true⟩ := by unfold DM.rot; rw [if_pos h1]
    rw [hr]
    refine wk ?_
    refine PWops.stBR (v := ⟨zeroSec, true⟩) rfl rfl rfl rfl rfl rfl rfl rfl rfl dcellL_len (by (first | omega | (dsimp only ; omega))) rfl ?_
    refine wk ?_
    exact RetH.mk rfl (Weak.refl _) ⟨⟨_, rfl, WeakL.eq (by simp [dB, DM.setc])⟩, ⟨_, rfl, WeakL.refl _⟩, trivial⟩ ⟨⟨rfl, rfl⟩, trivial⟩
  · have hr : D.rot i = D := by unfold DM.rot; rw [if_neg h1]
    rw [hr]
    refine wk ?_
    exact RetH.mk rfl (Weak.refl _) ⟨⟨_, rfl, WeakL.refl _⟩, ⟨_, rfl, WeakL.refl _⟩, trivial⟩ ⟨⟨rfl, rfl⟩, trivial⟩

/-- The map with one more open write. -/
def addW (D : DM) (i : Int) (s : Sec) : DM := match opIdx i D.op 0 with
  | some j => { D with op := D.op.set j ((D.op.getD j default).1, i, (D.op.getD j default).2.2 ++ [s]) }
  | none => { D with op := D.op ++ [(D.clock, i, [s])], clock := D.clock + 1 }
def DM.write (D : DM) (i : Int) (s : Sec) : Int × DM := if D.check i = 0 then (if D.step.1 = 0 then (0, addW D.step.2 i s) else D.step) else (D.check i, D)

theorem mfind_set {sk : SK} {kv : Value} : ∀ {es : List (Nat × PV × PV)} {j n : Nat} {s s' : Nat} {kp c c' : PV}, es[j]? = some (s, kp, c) → mfind sk kv (es.set j (s', kp, c')) n = mfind sk kv es n
  | [], j, n, s, s', kp, c, c', h => by simp at h
  | (a, b, d) :: es, 0, n, s, s', kp, c, c', h => by
    simp at h
    obtain ⟨rfl, rfl, rfl⟩ := h
    simp only [List.set_cons_zero]
    cases b <;> rfl
  | (a, b, d) :: es, j + 1, n, s, s', kp, c, c', h => by
    simp at h
    have ih := fun n => mfind_set (sk := sk) (kv := kv) (n := n) (s' := s') (c' := c') h
    simp only [List.set_cons_succ]
    cases b <;> simp only [mfind, ih]

theorem addW_some {D : DM} {i : Int} {s : Sec} {j : Nat} (hj : opIdx i D.op 0 = some j) {ki : TyI} (hk : ki.kind = .int .i64) (e : Nat × Int × List Sec) (he : D.op[j]? = some e) :
    mput ki ((D.op.map dE).set j (e.1, pint e.2.1, .sl e.2.2.length 64 (e.2.2.flatMap secL) none)) D.clock (.int .i64 i) (.sl (e.2.2.length + 1) 64 (e.2.2.flatMap secL ++ secL s) (some 33)) = some (dM (addW D i s)) := by
  obtain ⟨-, h2, s', v, h3⟩ := opIdx_lt hj
  simp only [Nat.sub_zero] at h3
  rw [he] at h3
  simp only [Option.some.injEq] at h3
  subst h3
  have hj' : (D.op.map dE)[j]? = some (s', pint i, psecs v (some 33)) := by rw [List.getElem?_map, he]; rfl
  have hl : j < (D.op.map dE).length := (List.getElem?_eq_some_iff.1 hj').1
  unfold mput
  simp only [hk, keyOK, skT, decide_true, if_true]
  rw [mfind_set hj', opIdx_find, hj]
  simp only [List.getElem?_set, if_true, hl, List.set_set]
  unfold dM addW
  rw [hj]
  simp only [List.getD_eq_getElem?_getD, he, Option.getD_some, List.map_set, dE, psecs, List.length_append, List.length_cons, List.length_nil, List.flatMap_append, List.flatMap_cons, List.flatMap_nil, List.append_nil]
  rfl
theorem addW_none {D : DM} {i : Int} {s : Sec} (hj : opIdx i D.op 0 = none) {ki : TyI} (hk : ki.kind = .int .i64) :
    mput ki (D.op.map dE) D.clock (.int .i64 i) (.sl 1 64 (secL s) (some 33)) = some (dM (addW D i s)) := by
  unfold mput
  simp only [hk, keyOK, skT, decide_true, if_true]
  rw [opIdx_find, hj]
  unfold dM addW
  rw [hj]
  simp only [List.map_append, List.map_cons, List.map_nil, dE, psecs, List.length_cons, List.length_nil, List.flatMap_cons, List.flatMap_nil, List.append_nil]
  rfl

set_option maxRecDepth 10000 in
set_option maxHeartbeats 2000000 in
theorem dc_Write (D : DM) (i : Int) (s : Sec) (h : 0 ≤ D.steps ∧ D.steps ≤ 1000000000 ∧ -1 ≤ D.after) (h2 : D.after ≤ 9223372036854775807) (hop : ∀ e ∈ D.op, e.2.2.length ≤ 1000000000) : DCalls 22 [pint i, psec s] D (pint (D.write i s).1) (D.write i s).2 := by
  refine dcalls_of_pw Try.func22 rfl rfl (by intro p hp; simp at hp; rcases hp with rfl | rfl; exact .val _; exact psec_low _) (by simp [pint, psec, PV.ownB]) (Nat.le_of_ble_eq_true rfl) (.val _) ?_
  have hck := dc_check D i 1000001 1000002 1000003 (by decide)
  have hst := dc_step D h h2 1000001 1000002 1000003 (by decide)
  by_cases h1 : D.check i = 0
  · obtain ⟨hd, hi0, hi1⟩ := check0 h1
    by_cases h3 : D.step.1 = 0
    · have hr : D.write i s = (0, addW D.step.2 i s) := by unfold DM.write; rw [if_pos h1, if_pos h3]
      rw [hr]
      have hsop : D.step.2.op = D.op := by unfold DM.step; split <;> rfl
      refine wk ?_
      cases hx : opIdx i D.step.2.op 0 with
      | some j =>
        obtain ⟨-, h4, s', v, h5⟩ := opIdx_lt hx
        simp only [Nat.sub_zero] at h5
        have hvl : v.length ≤ 1000000000 := hop (s', i, v) (by rw [hsop] at h5; exact List.mem_of_getElem? h5)
        have hf : mfind .int (.int .i64 i) (D.step.2.op.map dE) 0 = some (some j) := by rw [opIdx_find, hx]
        have hj : (D.step.2.op.map dE)[j]? = some (s', pint i, .sl v.length 64 (v.flatMap secL) (some 33)) := by rw [List.getElem?_map, h5]; rfl
        refine PWops.lkpO rfl rfl rfl rfl rfl rfl rfl rfl rfl rfl rfl rfl rfl hf hj ?_
        refine wk ?_
        refine PWops.mputO rfl rfl rfl rfl rfl rfl rfl rfl rfl rfl rfl (addW_some hx rfl (s', i, v) h5) ?_
        refine wk ?_
        exact RetH.mk rfl (Weak.eq (by show pint D.step.1 = _; rw [h3])) ⟨⟨_, rfl, WeakL.eq (by simp [dB, addW, hx])⟩, ⟨_, rfl, WeakL.eq (by simp [dC, addW, hx])⟩, trivial⟩ ⟨⟨rfl, rfl⟩, trivial⟩
      | none =>
        obtain ⟨b, hb⟩ := dget D.step.2 i (ki := ⟨1, false, .int .i64, [.val (.int .i64 0)], []⟩) (ei := ⟨1, false, .slice 33 64 64 (List.replicate 64 (.val (.int .u8 0))), [.nilsl], []⟩) rfl rfl
        rw [hx] at hb
        simp only [if_true] at hb
        refine wk ?_
        refine PWops.mputO rfl rfl rfl rfl rfl rfl rfl rfl rfl rfl rfl (addW_none hx rfl) ?_
        refine wk ?_
        exact RetH.mk rfl (Weak.eq (by show pint D.step.1 = _; rw [h3])) ⟨⟨_, rfl, WeakL.eq (by simp [dB, addW, hx])⟩, ⟨_, rfl, WeakL.eq (by simp [dC, addW, hx])⟩, trivial⟩ ⟨⟨rfl, rfl⟩, trivial⟩
    · have hr : D.write i s = D.step := by unfold DM.write; rw [if_pos h1, if_neg h3]
      rw [hr]
      refine wk ?_
      exact RetH.mk rfl (Weak.refl _) ⟨⟨_, rfl, WeakL.refl _⟩, ⟨_, rfl, WeakL.refl _⟩, trivial⟩ ⟨⟨rfl, rfl⟩, trivial⟩
  · have hr : D.write i s = (D.check i, D) := by unfold DM.write; rw [if_neg h1]
    rw [hr]
    refine wk ?_
    exact RetH.mk rfl (Weak.refl _) ⟨⟨_, rfl, WeakL.refl _⟩, ⟨_, rfl, WeakL.refl _⟩, trivial⟩ ⟨⟨rfl, rfl⟩, trivial⟩
end Go.Proofs.Ytilcpcpmkklobaa

/- The disk: Flip. -/
namespace Go.Proofs.Ytilcpcpmkklobaa
set_option linter.unusedSimpArgs false
set_option linter.unusedVariables false
set_option linter.unnecessarySimpa false
open Go.RowKit

/-- A bit of a byte becomes another one. -/
def xbyte (x b : Int) : Int := IntKind.u8.wrap (BitVec.ofInt IntKind.u8.bits x ^^^ BitVec.ofInt IntKind.u8.bits (IntKind.u8.wrap (1 * 2 ^ (min (b % 8).toNat IntKind.u8.bits)))).toNat
theorem wrap_u8 (z : Int) : 0 ≤ IntKind.u8.wrap z ∧ IntKind.u8.wrap z < 256 := by
  have h : IntKind.u8.wrap z = z % 256 := rfl
  rw [h]; omega
def flipSec (s : Sec) (b : Int) : Sec := ⟨s.1.set (b / 8).toNat (xbyte (s.1.getD (b / 8).toNat 0) b), by simp [s.2.1], fun x hx => by
  rcases List.mem_or_eq_of_mem_set hx with h | h
  · exact s.2.2 x h
  · subst h; exact wrap_u8 _⟩
def DCell.spoilt (c : DCell) : Bool := c.s.1 == zeroSec.1 && c.bad == true
def DCell.flip (c : DCell) (b : Int) : DCell := if c.spoilt then c else ⟨flipSec c.s b, c.bad⟩
def DM.flip (D : DM) (i b : Int) : Int × DM := if D.check i = 0 then (if b < 0 ∨ 512 ≤ b then (1, D) else (0, D.setc i ((D.cell i).flip b))) else (D.check i, D)

theorem peqs_app2 : ∀ {ks ls : List SK} {xs ys us vs : List PV} {a b : Bool}, peqs ks xs ys = some a → peqs ls us vs = some b → peqs (ks ++ ls) (xs ++ us) (ys ++ vs) = some (a && b)
  | [], ls, [], [], us, vs, a, b, h, h2 => by simp [peqs] at h; subst h; simpa using h2
  | [], ls, x :: xs, ys, us, vs, a, b, h, h2 => by simp [peqs] at h
  | [], ls, [], y :: ys, us, vs, a, b, h, h2 => by simp [peqs] at h
  | k :: ks, ls, [], ys, us, vs, a, b, h, h2 => by simp [peqs] at h
  | k :: ks, ls, x :: xs, [], us, vs, a, b, h, h2 => by cases x <;> simp [peqs] at h
  | k :: ks, ls, x :: xs, y :: ys, us, vs, a, b, h, h2 => by
    cases x <;> cases y <;> simp only [peqs, reduceCtorEq] at h
    rename_i x y
    cases h3 : veq k x y with
    | none => rw [h3] at h; simp at h
    | some r =>
      cases h4 : peqs ks xs ys with
      | none => rw [h3, h4] at h; simp at h
      | some s =>
        rw [h3, h4] at h
        simp only [Option.some.injEq] at h
        subst h
        simp only [List.cons_append, peqs, h3, peqs_app2 h4 h2, Bool.and_assoc]
theorem peqs_cell (c z : DCell) : peqs (List.replicate 64 .int ++ [.bool]) (dcellL c) (dcellL z) = some (c.s.1 == z.s.1 && c.bad == z.bad) := by
  refine peqs_app2 ?_ ?_
  · have := peqs_ints (k := .u8) c.s.1 z.s.1 (by rw [c.s.2.1, z.s.2.1])
    rw [c.s.2.1] at this; exact this
  · simp [peqs, pbool, veq]
theorem dcellL_byte (c : DCell) {q : Nat} (h : q < 64) : (dcellL c)[q]? = some (pbyte (c.s.1.getD q 0)) := by
  rw [dcellL, List.getElem?_append_left (by rw [secL_len]; exact h), secL, List.getElem?_map]
  have : q < c.s.1.length := by rw [c.s.2.1]; exact h
  simp [List.getElem?_eq_getElem this]
theorem dcellL_flip (c : DCell) (b : Int) (h : (b / 8).toNat < 64) : dcellL ⟨flipSec c.s b, c.bad⟩ = (dcellL c).set (b / 8).toNat (pbyte (xbyte (c.s.1.getD (b / 8).toNat 0) b)) := by
  rw [dcellL, dcellL, List.set_append_left _ _ (by rw [secL_len]; exact h)]
  simp [secL, flipSec, List.map_set]

set_option maxRecDepth 10000 in
set_option maxHeartbeats 1000000 in
theorem dc_Flip (D : DM) (i b : Int) (hsz : D.cells.length ≤ 1000000000) : DCalls 24 [pint i, pint b] D (pint (D.flip i b).1) (D.flip i b).2 := by
  refine dcalls_of_pw Try.func24 rfl rfl (by exact lw) (by simp [pint, PV.ownB]) (Nat.le_of_ble_eq_true rfl) (.val _) ?_
  have hck := dc_check D i 1000001 1000002 1000003 (by decide)
  by_cases h1 : D.check i = 0
  · obtain ⟨hd, hi0, hi1⟩ := check0 h1
    by_cases hb0 : b < 0
    · have hr : D.flip i b = (1, D) := by unfold DM.flip; rw [if_pos h1, if_pos (.inl hb0)]
      rw [hr]
      refine wk ?_
      exact RetH.mk rfl (Weak.refl _) ⟨⟨_, rfl, WeakL.refl _⟩, ⟨_, rfl, WeakL.refl _⟩, trivial⟩ ⟨⟨rfl, rfl⟩, trivial⟩
    · by_cases hb1 : 512 ≤ b
      · have hr : D.flip i b = (1, D) := by unfold DM.flip; rw [if_pos h1, if_pos (.inr hb1)]
        rw [hr]
        refine wk ?_
        exact RetH.mk rfl (Weak.refl _) ⟨⟨_, rfl, WeakL.refl _⟩, ⟨_, rfl, WeakL.refl _⟩, trivial⟩ ⟨⟨rfl, rfl⟩, trivial⟩
      · have hr : D.flip i b = (0, D.setc i ((D.cell i).flip b)) := by unfold DM.flip; rw [if_pos h1, if_neg (by omega)]
        rw [hr]
        have hq := peqs_cell (D.cells.getD i.toNat default) ⟨zeroSec, true⟩
        cases hf : (D.cells.getD i.toNat default).spoilt with
        | true =>
          have hc : D.setc i ((D.cell i).flip b) = D := by
            unfold DM.setc DM.cell DCell.flip
            rw [hf, if_pos rfl]
            have : D.cells.set i.toNat (D.cells.getD i.toNat default) = D.cells := by
              have hl : i.toNat < D.cells.length := by omega
              rw [List.getD_eq_getElem?_getD, List.getElem?_eq_getElem hl]
              exact List.set_getElem_self hl
            rw [this]
          rw [hc]
          refine wk ?_
          refine PWops.eqA rfl rfl rfl rfl (ys := dcellL ⟨zeroSec, true⟩) rfl rfl rfl rfl hq (.inr rfl) ?_
          refine wk ?_
          refine PW.condF (by show PV.val (.bool (!(D.cells.getD i.toNat default).spoilt)) = _; rw [hf]; rfl) ?_
          refine wk ?_
          exact RetH.mk rfl (Weak.refl _) ⟨⟨_, rfl, WeakL.refl _⟩, ⟨_, rfl, WeakL.refl _⟩, trivial⟩ ⟨⟨rfl, rfl⟩, trivial⟩
        | false =>
          have hc : D.setc i ((D.cell i).flip b) = D.setc i ⟨flipSec (D.cells.getD i.toNat default).s b, (D.cells.getD i.toNat default).bad⟩ := by
            unfold DCell.flip DM.cell
            rw [hf]; rfl
          rw [hc]
          refine wk ?_
          refine PWops.eqA rfl rfl rfl rfl (ys := dcellL ⟨zeroSec, true⟩) rfl rfl rfl rfl hq (.inr rfl) ?_
          refine wk ?_
          refine PW.condT (by show PV.val (.bool (!(D.cells.getD i.toNat default).spoilt)) = _; rw [hf]; rfl) ?_
          refine wk ?_
          have hq64 : (b / 8).toNat < 64 := by omega
          refine PWops.ldBC (j := i.toNat) (k := 65) (r := (b / 8).toNat * 1) (c := pbyte ((D.cells.getD i.toNat default).s.1.getD (b / 8).toNat 0)) rfl rfl rfl rfl rfl rfl rfl rfl dcellL_len (by omega) (by rw [Nat.mul_one]; exact dcellL_byte _ hq64) rfl ?_
          refine wk ?_
          refine PWops.stB (new := [pbyte (xbyte ((D.cells.getD i.toNat default).s.1.getD (b / 8).toNat 0) b)]) (out := dC (D.setc i ⟨flipSec (D.cells.getD i.toNat default).s b, (D.cells.getD i.toNat default).bad⟩)) rfl rfl rfl rfl rfl rfl rfl rfl rfl ⟨rfl, ?_⟩ ?_ ?_
          · have hlen : (dC D).length = D.cells.length * 65 := flatMap_len dcellL_len _
            show 0 + i.toNat * 65 + 0 + (b / 8).toNat * 1 + 1 ≤ (dC D).length
            rw [hlen]
            have := Nat.mul_le_mul_right 65 (show i.toNat + 1 ≤ D.cells.length by omega)
            omega
          · show splice (D.cells.flatMap dcellL) (0 + i.toNat * 65 + 0 + (b / 8).toNat * 1) _ = (D.cells.set i.toNat _).flatMap dcellL
            rw [show 0 + i.toNat * 65 + 0 + (b / 8).toNat * 1 = i.toNat * 65 + (b / 8).toNat by omega]
            refine splice_cell dcellL_len (by omega) (by omega) ?_
            intro y hy
            have : D.cells.getD i.toNat default = y := by rw [List.getD_eq_getElem?_getD, hy]; rfl
            rw [this]
            exact dcellL_flip y b hq64
          · refine wk ?_
            exact RetH.mk rfl (Weak.refl _) ⟨⟨_, rfl, WeakL.eq (by simp [dB, DM.setc])⟩, ⟨_, rfl, WeakL.refl _⟩, trivial⟩ ⟨⟨rfl, rfl⟩, trivial⟩
  · have hr : D.flip i b = (D.check i, D) := by unfold DM.flip; rw [if_neg h1]
    rw [hr]
    refine wk ?_
    exact RetH.mk rfl (Weak.refl _) ⟨⟨_, rfl, WeakL.refl _⟩, ⟨_, rfl, WeakL.refl _⟩, trivial⟩ ⟨⟨rfl, rfl⟩, trivial⟩

end Go.Proofs.Ytilcpcpmkklobaa

/- The disk: Sync. -/
namespace Go.Proofs.Ytilcpcpmkklobaa
set_option linter.unusedSimpArgs false
set_option linter.unusedVariables false
set_option linter.unnecessarySimpa false
open Go.RowKit

section
variable {P : Program} {T : Tab} {σ : PS} {o : Oper} {i base : Nat} {ops : Array Oper} {ok : Nat → Nat → Bool} {rest : List (Nat × Oper)} {K : PS → Prop}
/-- A struct of which one field, an array or a struct, is given. -/
theorem PWops.bldA {d f off n : Nat} {cs out : List PV} {x : Operand} {t : TypeId} {ti : TyI} {l : List (Nat × Nat × Bool)} (hg : pguard ops σ o = some true) (hd : o.dst = some d) (hop : o.op = .build t #[(f, x)]) (hx : pev σ x = .agg cs) (ht : T.at t = some ti) (hk : ti.kind = .struct l) (hf : (l[f]?).map (fun x => (x.1, x.2.1)) = some (off, n)) (hb : σ.freeB (base + i) = true) (hl : cs.length = n) (hz : Nat.ble (off + n) ti.zero.length = true) (ho : cs.all PV.one = true) (hr : cs.map PV.bare = cs) (hout : splice ti.zero off cs = out)
    (kn : PWops P T ops base ok rest K (σ.put d (.agg out))) : PWops P T ops base ok ((i, o) :: rest) K σ := by
  refine PWops.valEq hg hd (p := .agg out) ?_ rfl hb kn
  have hz' := Nat.le_of_ble_eq_true hz
  have hs := splF_eq ti.zero off cs (by omega)
  rw [hout] at hs
  simp only [hop, presE, pvalA, pval, ht, pbuild, hk, List.map_cons, List.map_nil, pev_only, hx, pfill, hf, pcells, ho, if_true, hr, hl, hz', and_self, hs, Option.map_some]
/-- Over a map. -/
theorem PWops.rng {d mid clock kt et : Nat} {x : Operand} {t : TypeId} {es : List (Nat × PV × PV)} {ti : TyI} (hg : pguard ops σ o = some true) (hd : o.dst = some d) (hop : o.op = .range t x) (hx : pev σ x = .mref mid) (hm : (σ.only (ok i)).m mid = some (.map es clock)) (ht : T.at t = some ti) (hk : ti.kind = .map kt et) (hb : σ.freeB (base + i) = true)
    (kn : PWops P T ops base ok rest K ((σ.setm (base + i) (.iter mid clock [] clock)).put d (.ptr (base + i) 0))) : PWops P T ops base ok ((i, o) :: rest) K σ := by
  refine PWops.stepM hg (E := ⟨.ptr (base + i) 0, [], none, [(base + i, .iter mid clock [] clock)]⟩) ?_ hb (by rw [hd]; exact kn)
  have h1 : (σ.only (ok i)).b (base + i) = none ∧ (σ.only (ok i)).m (base + i) = none := by
    obtain ⟨q1, q2⟩ := PS.freeB_spec hb
    simp only [PS.only, q1, q2]
    constructor <;> split <;> rfl
  simp only [hop, presM, ht, pev_only, hx, mapOf, hm, h1.1, h1.2, hk]
/-- The entry at which an iterator stands. -/
theorem PWops.ent {d it mid since last s clock : Nat} {x : Operand} {seen : List Nat} {es : List (Nat × PV × PV)} {e : Nat × PV × PV} (hg : pguard ops σ o = some true) (hd : o.dst = some d) (hop : o.op = .entry x) (hx : pev σ x = .ptr it 0) (hi : (σ.only (ok i)).m it = some (.iter mid since (seen ++ [s]) last)) (hm : (σ.only (ok i)).m mid = some (.map es clock)) (hcl : clock = last) (hf : es.find? (fun e => e.1 == s) = some e) (hb : σ.freeB (base + i) = true)
    (kn : PWops P T ops base ok rest K (σ.put d (.tup [e.2.1.bare, e.2.2.bare]))) : PWops P T ops base ok ((i, o) :: rest) K σ := by
  refine PWops.valEq hg hd (p := .tup [e.2.1.bare, e.2.2.bare]) ?_ rfl hb kn
  simp only [hop, presE, pvalA, pval, pvalX, pentryAt, pev_only, hx, hi, hm, hcl, if_true, List.getLast?_concat, hf, Option.map_some]
theorem find_stamp : ∀ {es : List (Nat × PV × PV)} {e : Nat × PV × PV}, (es.map (·.1)).Nodup → e ∈ es → es.find? (fun x => x.1 == e.1) = some e
  | [], e, hn, h => by simp at h
  | x :: es, e, hn, h => by
    simp only [List.map_cons, List.nodup_cons] at hn
    rcases List.mem_cons.1 h with rfl | h
    · simp
    · have hne : (x.1 == e.1) = false := by
        rw [beq_eq_false_iff_ne]
        intro e1
        exact hn.1 (by rw [e1]; exact List.mem_map_of_mem h)
      rw [List.find?_cons, hne]
      exact find_stamp hn.2 h
end

def opFind (i : Int) : List (Nat × Int × List Sec) → Option (List Sec)
  | [] => none
  | (_, k, l) :: r => if i = k then some l else opFind i r
def synced (cells : List DCell) (op : List (Nat × Int × List Sec)) : List DCell := (List.range cells.length).map fun j => match opFind (j : Nat) op with
  | some l => ⟨lastS l, false⟩
  | none => cells.getD j default
def DM.synced (D : DM) : DM := { D with cells := Go.Proofs.Ytilcpcpmkklobaa.synced D.cells D.op, op := [] }
def DM.sync (D : DM) : Int × DM := if D.check 0 = 0 then (if D.step.1 = 0 then (0, D.step.2.synced) else D.step) else (D.check 0, D)

/-- The open writes of a disk are as they ought to be. -/
def opOK (n : Nat) (op : List (Nat × Int × List Sec)) : Prop := (op.map (·.2.1)).Nodup ∧ ∀ e ∈ op, 0 ≤ e.2.1 ∧ e.2.1 < n ∧ 0 < e.2.2.length ∧ e.2.2.length ≤ 1000000000

theorem opIdx_mem {i : Int} : ∀ {op : List (Nat × Int × List Sec)} {n j : Nat} {s : Nat} {l : List Sec}, (op.map (·.2.1)).Nodup → op[j]? = some (s, i, l) → opIdx i op n = some (n + j)
  | [], n, j, s, l, hn, h => by simp at h
  | (a, k, b) :: op, n, 0, s, l, hn, h => by
    simp at h
    obtain ⟨rfl, rfl, rfl⟩ := h
    simp [opIdx]
  | (a, k, b) :: op, n, j + 1, s, l, hn, h => by
    simp only [List.map_cons, List.nodup_cons] at hn
    simp only [List.getElem?_cons_succ] at h
    have hne : i ≠ k := by
      rintro rfl
      exact hn.1 (List.mem_map.2 ⟨_, List.mem_of_getElem? h, rfl⟩)
    simp only [opIdx, if_neg hne]
    rw [opIdx_mem hn.2 h]
    congr 1; omega
theorem erase_map {α β : Type} (f : α → β) : ∀ (l : List α) (j : Nat), (l.map f).eraseIdx j = (l.eraseIdx j).map f
  | [], j => by simp
  | a :: l, 0 => by simp
  | a :: l, j + 1 => by simp [erase_map f l j]
theorem splice_sec (s : Sec) (b : Bool) : splice (List.replicate 64 (.val (.int .u8 0)) ++ [pbool b]) 0 (secL s) = dcellL ⟨s, b⟩ := by
  unfold splice
  rw [List.take_zero, List.nil_append, Nat.zero_add, secL_len]
  rfl
theorem dcellL_cells (c : DCell) : pcells (.agg (dcellL c)) = some (dcellL c) := by simp only [pcells, dcellL_one, if_true, dcellL_bare]
theorem opFind_none {i : Int} : ∀ {op : List (Nat × Int × List Sec)}, i ∉ op.map (·.2.1) → opFind i op = none
  | [], h => rfl
  | (a, k, b) :: op, h => by
    simp only [List.map_cons, List.mem_cons, not_or] at h
    simp only [opFind, if_neg h.1]
    exact opFind_none h.2
theorem opFind_erase {i k : Int} : ∀ {op : List (Nat × Int × List Sec)} {j s : Nat} {l : List Sec}, (op.map (·.2.1)).Nodup → op[j]? = some (s, k, l) → opFind i (op.eraseIdx j) = if i = k then none else opFind i op
  | [], j, s, l, hn, h => by simp at h
  | (a, c, b) :: op, 0, s, l, hn, h => by
    simp at h
    obtain ⟨rfl, rfl, rfl⟩ := h
    simp only [List.map_cons, List.nodup_cons] at hn
    simp only [List.eraseIdx_cons_zero, opFind]
    split
    · rename_i e; subst e; exact opFind_none hn.1
    · rfl
  | (a, c, b) :: op, j + 1, s, l, hn, h => by
    simp only [List.map_cons, List.nodup_cons] at hn
    simp only [List.getElem?_cons_succ] at h
    have hne : k ≠ c := by
      rintro rfl
      exact hn.1 (List.mem_map.2 ⟨_, List.mem_of_getElem? h, rfl⟩)
    simp only [List.eraseIdx_cons_succ, opFind, opFind_erase hn.2 h]
    by_cases e : i = c
    · subst e; rw [if_pos rfl, if_pos rfl, if_neg (fun e => hne e.symm)]
    · rw [if_neg e, if_neg e]
theorem opFind_at {k : Int} : ∀ {op : List (Nat × Int × List Sec)} {j s : Nat} {l : List Sec}, (op.map (·.2.1)).Nodup → op[j]? = some (s, k, l) → opFind k op = some l
  | [], j, s, l, hn, h => by simp at h
  | (a, c, b) :: op, 0, s, l, hn, h => by
    simp at h
    obtain ⟨rfl, rfl, rfl⟩ := h
    simp [opFind]
  | (a, c, b) :: op, j + 1, s, l, hn, h => by
    simp only [List.map_cons, List.nodup_cons] at hn
    simp only [List.getElem?_cons_succ] at h
    have hne : k ≠ c := by
      rintro rfl
      exact hn.1 (List.mem_map.2 ⟨_, List.mem_of_getElem? h, rfl⟩)
    simp only [opFind, if_neg hne]
    exact opFind_at hn.2 h
theorem synced_step {cells : List DCell} {op : List (Nat × Int × List Sec)} {j s : Nat} {k : Int} {l : List Sec} (hn : (op.map (·.2.1)).Nodup) (h : op[j]? = some (s, k, l)) (h0 : 0 ≤ k) (h1 : k < cells.length) : synced (cells.set k.toNat ⟨lastS l, false⟩) (op.eraseIdx j) = synced cells op := by
  unfold synced
  rw [List.length_set]
  refine List.map_congr_left fun q hq => ?_
  rw [opFind_erase hn h]
  by_cases e : (q : Int) = k
  · subst e
    rw [if_pos rfl, opFind_at hn h]
    have : q < cells.length := by omega
    simp [this]
  · rw [if_neg e]
    have : k.toNat ≠ q := by omega
    simp [List.getElem?_set_ne this]
theorem synced_nil (cells : List DCell) : synced cells [] = cells := by
  unfold synced
  apply List.ext_getElem?
  intro q
  simp only [opFind, List.getElem?_map]
  by_cases h : q < cells.length
  · simp [h]
  · simp [h]
theorem opOK_erase {n : Nat} {op : List (Nat × Int × List Sec)} (h : opOK n op) (j : Nat) : opOK n (op.eraseIdx j) :=
  ⟨h.1.sublist ((List.eraseIdx_sublist ..).map _), fun e he => h.2 e (List.mem_of_mem_eraseIdx he)⟩
theorem nodup_erase_at {op : List Nat} {j x : Nat} (hn : op.Nodup) (h : op[j]? = some x) : x ∉ op.eraseIdx j := by
  induction op generalizing j with
  | nil => simp at h
  | cons a op ih =>
    cases j with
    | zero => simp at h; subst h; simpa using (List.nodup_cons.1 hn).1
    | succ j =>
      simp only [List.getElem?_cons_succ] at h
      simp only [List.eraseIdx_cons_succ, List.mem_cons, not_or]
      refine ⟨?_, ih (List.nodup_cons.1 hn).2 h⟩
      rintro rfl
      exact (List.nodup_cons.1 hn).1 (List.mem_of_getElem? h)

set_option maxRecDepth 10000 in
set_option maxHeartbeats 2000000 in
theorem dc_Sync (D : DM) (h : 0 ≤ D.steps ∧ D.steps ≤ 1000000000 ∧ -1 ≤ D.after) (h2 : D.after ≤ 9223372036854775807) (hsz : D.cells.length ≤ 1000000000) (hop : opOK D.cells.length D.op) : DCalls 21 [] D (pint D.sync.1) D.sync.2 := by
  refine dcalls_of_pw Try.func21 rfl rfl (by simp) (by simp) (Nat.le_of_ble_eq_true rfl) (.val _) ?_
  have hck := dc_check D 0 1000001 1000002 1000003 (by decide)
  have hst := dc_step D h h2 1000001 1000002 1000003 (by decide)
  by_cases h1 : D.check 0 = 0
  · obtain ⟨hd, hi0, hi1⟩ := check0 h1
    by_cases h3 : D.step.1 = 0
    · have hr : D.sync = (0, D.step.2.synced) := by unfold DM.sync; rw [if_pos h1, if_pos h3]
      rw [hr]
      have hsop : D.step.2.op = D.op := by unfold DM.step; split <;> rfl
      have hscl : D.step.2.cells = D.cells := by unfold DM.step; split <;> rfl
      generalize hD1 : D.step.2 = D1 at hst hsop hscl ⊢
      rw [← hsop, ← hscl] at hop
      rw [← hscl] at hi1 hsz
      refine wk ?_
      refine PWops.rng rfl rfl rfl rfl rfl rfl rfl rfl ?_
      refine wk ?_
      refine PW.stamps (id := 1000003) rfl (fun hs => ?_)
      refine PW.loop (fun p : DM × List Nat => ((((((bot.setb 1000001 (dB 1000002 1000003 p.1)).setb 1000002 (dC p.1)).setm 1000003 (dM p.1)).setm 6004 (.iter 1000003 D1.clock p.2 D1.clock)).put 0 (.ptr 1000001 0)).put 2 (pint 0)).put 19 (.ptr 6004 0))
        (fun p => p.1.cells.length = D1.cells.length ∧ p.1.clock = D1.clock ∧ p.1.synced = D1.synced ∧ opOK D1.cells.length p.1.op ∧ (∀ e ∈ p.1.op, e.1 ∉ p.2) ∧ (p.1.op.map (·.1)).Nodup ∧ ∀ e ∈ p.1.op, e.1 < D1.clock) (fun p => p.1.op.length) (D1, []) ?_ ?_ ?_
      · refine ⟨rfl, rfl, rfl, hop, by simp, ?_, fun e he => ?_⟩
        · have := hs.1
          rw [List.map_map] at this; exact this
        · exact hs.2 _ (List.mem_map_of_mem he)
      · have hl := dC_low D1
        have hlm := dM_low D1
        exact sb
      · rintro ⟨⟨cells, op, clock, steps, after, dead⟩, seen⟩ ⟨i1, i2, i3, i4, i5, i6, i7⟩
        dsimp only at i1 i2 i3 i4 i5 i6 i7
        subst i2
        refine PW.seq ?_
        refine PWnext typeTab_ok (it := 6004) (mid := 1000003) (es := op.map dE) (clock := D1.clock) rfl rfl rfl (by decide) rfl ?_ ?_ ?_
        · cases hsn : op with
          | nil => exact .inr (.inl rfl)
          | cons e r =>
            refine .inr (.inr ⟨dE e, by simp, ?_⟩)
            exact i7 e (by rw [hsn]; simp)
        · intro hno
          have hn0 : op = [] := by
            cases hsn : op with
            | nil => rfl
            | cons e r =>
              exfalso
              have hm : e ∈ op := by rw [hsn]; simp
              exact i5 e hm (hno (dE e) (List.mem_map_of_mem hm) (i7 e hm))
          refine wk ?_
          have hD : D1.synced = ⟨cells, [], D1.clock, steps, after, dead⟩ := by
            rw [← i3, hn0]
            unfold DM.synced
            simp only [synced_nil]
          rw [hD]
          exact RetH.mk rfl (Weak.refl _) ⟨⟨_, rfl, WeakL.refl _⟩, ⟨_, rfl, WeakL.refl _⟩, trivial⟩ ⟨⟨rfl, by subst hn0; rfl⟩, trivial⟩
        · intro e' he' hns
          obtain ⟨e, he, rfl⟩ := List.mem_map.1 he'
          obtain ⟨j, hj⟩ := List.getElem?_of_mem he
          obtain ⟨q1, q2, q3, q4⟩ := i4.2 e he
          have hfs := find_stamp (es := op.map dE) (e := dE e) (by rw [List.map_map]; exact i6) he'
          have hix : opIdx e.2.1 op 0 = some j := by rw [opIdx_mem i4.1 hj, Nat.zero_add]
          have hll : (e.2.2 : List Sec).length ≤ 1000000000 := q4
          refine wk ?_
          refine PWops.ent (seen := seen) (s := e.1) rfl rfl rfl rfl rfl rfl rfl hfs rfl ?_
          refine wk ?_
          refine PWops.bldA (cs := secL (lastS e.2.2)) (out := dcellL ⟨lastS e.2.2, false⟩) rfl rfl rfl rfl rfl rfl rfl rfl (secL_len _) rfl (secL_one _) (secL_bare _) (splice_sec _ _) ?_
          refine wk ?_
          refine PWops.stBR (v := ⟨lastS e.2.2, false⟩) rfl rfl rfl rfl rfl (by exact dcellL_cells ⟨lastS e.2.2, false⟩) rfl rfl rfl dcellL_len (by (first | omega | (dsimp only ; omega))) rfl ?_
          refine wk ?_
          have hdel : mdel ⟨1, false, .int .i64, [.val (.int .i64 0)], []⟩ (op.map dE) D1.clock (.int .i64 e.2.1) = some (.map ((op.eraseIdx j).map dE) D1.clock) := by
            unfold mdel
            simp only [keyOK, skT, decide_true, if_true]
            rw [opIdx_find, hix]
            simp only [erase_map]
          refine PWops.mdel rfl rfl rfl rfl rfl rfl rfl rfl rfl rfl hdel ?_
          refine wk ?_
          refine loopP (⟨cells.set e.2.1.toNat ⟨lastS e.2.2, false⟩, op.eraseIdx j, D1.clock, steps, after, dead⟩, seen ++ [e.1]) ⟨?_, rfl, ?_, opOK_erase i4 j, ?_, ?_, ?_⟩ ?_ ?_
          · show (cells.set _ _).length = _
            rw [List.length_set]; exact i1
          · rw [← i3]
            unfold DM.synced
            simp only [synced_step i4.1 hj q1 (by rw [i1]; exact q2)]
          · intro x hx
            have hx' := List.mem_of_mem_eraseIdx hx
            rw [List.mem_append, List.mem_singleton, not_or]
            refine ⟨i5 x hx', fun e1 => ?_⟩
            have h5 : (op.map (·.1))[j]? = some e.1 := by rw [List.getElem?_map, hj]; rfl
            have h6 := nodup_erase_at i6 h5
            rw [erase_map] at h6
            exact h6 (by rw [← e1]; exact List.mem_map_of_mem hx)
          · show ((op.eraseIdx j).map _).Nodup
            exact i6.sublist ((List.eraseIdx_sublist ..).map _)
          · exact fun x hx => i7 x (List.mem_of_mem_eraseIdx hx)
          · show (op.eraseIdx j).length < op.length
            have := (List.getElem?_eq_some_iff.1 hj).1
            rw [List.length_eraseIdx]
            split <;> omega
          · have hdB : dB 1000002 1000003 ⟨cells.set e.2.1.toNat ⟨lastS e.2.2, false⟩, op.eraseIdx j, D1.clock, steps, after, dead⟩ = dB 1000002 1000003 ⟨cells, op, D1.clock, steps, after, dead⟩ := by simp [dB]
            have hl := dC_low ⟨cells.set e.2.1.toNat ⟨lastS e.2.2, false⟩, op.eraseIdx j, D1.clock, steps, after, dead⟩
            have hlm := dM_low ⟨cells.set e.2.1.toNat ⟨lastS e.2.2, false⟩, op.eraseIdx j, D1.clock, steps, after, dead⟩
            dsimp only
            rw [hdB]
            exact sb
    · have hr : D.sync = D.step := by unfold DM.sync; rw [if_pos h1, if_neg h3]
      rw [hr]
      refine wk ?_
      exact RetH.mk rfl (Weak.refl _) ⟨⟨_, rfl, WeakL.refl _⟩, ⟨_, rfl, WeakL.refl _⟩, trivial⟩ ⟨⟨rfl, rfl⟩, trivial⟩
  · have hr : D.sync = (D.check 0, D) := by unfold DM.sync; rw [if_neg h1]
    rw [hr]
    refine wk ?_
    exact RetH.mk rfl (Weak.refl _) ⟨⟨_, rfl, WeakL.refl _⟩, ⟨_, rfl, WeakL.refl _⟩, trivial⟩ ⟨⟨rfl, rfl⟩, trivial⟩
end Go.Proofs.Ytilcpcpmkklobaa

/- The disk: found. -/
namespace Go.Proofs.Ytilcpcpmkklobaa
set_option linter.unusedSimpArgs false
set_option linter.unusedVariables false
set_option linter.unnecessarySimpa false
open Go.RowKit

section
variable {P : Program} {T : Tab} {σ : PS} {o : Oper} {i base : Nat} {ops : Array Oper} {ok : Nat → Nat → Bool} {rest : List (Nat × Oper)} {K : PS → Prop}
/-- What remains. -/
theorem PWops.remY {d : Nat} {k : IntKind} {x y z : Int} {X Y : Operand} {t yt : TypeId} (hg : pguard ops σ o = some true) (hd : o.dst = some d) (hop : o.op = .binOp .rem t X Y yt) (hx : pev σ X = .val (.int k x)) (hy : pev σ Y = .val (.int k y)) (hb : σ.freeB (base + i) = true) (h0 : y ≠ 0) (hz : x.tmod y = z) (kn : PWops P T ops base ok rest K (σ.put d (.val (.int k z)))) : PWops P T ops base ok ((i, o) :: rest) K σ := by
  refine PWops.valEq hg hd (p := .val (.int k z)) ?_ rfl hb kn
  rw [← hz]
  simp [hop, presE, pvalA, pval, pev_only, hx, hy, pbin, h0]
end
theorem dcellL_sec (c : DCell) : ((dcellL c).drop 0).take 64 = secL c.s := by
  rw [List.drop_zero, dcellL, List.take_append_of_le_length (by rw [secL_len]; exact Nat.le_refl _), List.take_of_length_le (by rw [secL_len]; exact Nat.le_refl _)]
theorem retP2 {T : Tab} {σ : PS} {rs : List ResultVar} {post : PV → Prop} {r : PV} (h1 : presult T σ rs = some r) (h2 : Low r) (h3 : post r) : RetP T rs post .ret σ := ⟨r, h1, h2, h3⟩
theorem tmod_lo (x n : Int) (h : 0 < n) : -n < x.tmod n ∧ x.tmod n < n ∧ (x.tmod n + n).tmod n = x % n := by
  have h1 := Int.tmod_lt_of_pos x h
  have h2 := Int.lt_tmod_of_pos x h
  refine ⟨h2, h1, ?_⟩
  rw [Int.tmod_eq_emod_of_nonneg (by omega), Int.add_emod_right]
  rw [Int.tmod_def, Int.sub_mul_emod_self_left]

/-- What is found of a sector with open writes. -/
def mixS (a b : Sec) : Sec := ⟨a.1.take 32 ++ b.1.drop 32, by simp [a.2.1, b.2.1], fun x hx => by
  rcases List.mem_append.1 hx with h | h
  · exact a.2.2 x (List.mem_of_mem_take h)
  · exact b.2.2 x (List.mem_of_mem_drop h)⟩
def beforeS (c : DCell) (l : List Sec) : Sec := if 1 < l.length then l.getD (l.length - 2) default else c.s
def foundR (l : List Sec) (x : Int) : Int := x % (l.length + 3)
def found (c : DCell) (l : List Sec) (x : Int) : DCell :=
  if foundR l x = 0 then c
  else if foundR l x ≤ l.length then ⟨l.getD (foundR l x - 1).toNat default, false⟩
  else if foundR l x = l.length + 1 then ⟨zeroSec, true⟩
  else if (beforeS c l).1 = (lastS l).1 then ⟨lastS l, false⟩ else ⟨mixS (lastS l) (beforeS c l), false⟩

theorem secL_half (b : Sec) : (((secL b).drop 32).take 32).map PV.bare = (secL b).drop 32 := by
  rw [List.take_of_length_le (by rw [List.length_drop, secL_len]; exact Nat.le_refl _), List.map_drop, secL_bare]
theorem copy_half {m : Nat → Option (List PV)} {id : Nat} (b : Sec) (h : m id = some (secL b) := by rfl) : copySrc m 1 (.msl id 32 32 1) = some (32, (secL b).drop 32) := by
  have h1 : 32 + 32 * 1 ≤ (secL b).length := by rw [secL_len]; decide
  show (if (1 : Nat) = 1 then _ else none) = _
  rw [if_pos rfl, h]
  show (if 32 + 32 * 1 ≤ (secL b).length then some (32, (((secL b).drop 32).take (32 * 1)).map PV.bare) else none) = _
  rw [if_pos h1, secL_half]
theorem splice_half (a b : Sec) : splice (secL a) 32 (((secL b).drop 32).take 32) = secL (mixS a b) := by
  rw [List.take_of_length_le (by rw [List.length_drop, secL_len]; exact Nat.le_refl _)]
  have h1 : (secL a).drop (32 + ((secL b).drop 32).length) = [] := by
    refine List.drop_of_length_le ?_
    rw [List.length_drop, secL_len, secL_len]; decide
  unfold splice
  rw [h1, List.append_nil]
  simp only [secL, mixS, List.map_append, List.map_take, List.map_drop]

set_option maxRecDepth 10000 in
set_option maxHeartbeats 2000000 in
theorem pw_found (c : DCell) (l : List Sec) (x : Int) (hl : 0 < l.length ∧ l.length ≤ 1000000000) (hx : -9223372036854775808 ≤ x ∧ x ≤ 9223372036854775807) : PCalls Try.prog 37 [.agg (dcellL c), psecs l none, pint x] (· = .agg (dcellL (found c l x))) := by
  have hlow : Low (.agg (dcellL c)) := .agg _ (dcellL_low c)
  have hlow2 : Low (psecs l none) := psecs_low _ _
  refine pcalls_of_pw typeTab_ok Try.func37 rfl (by kernel_rfl) (by intro p hp; simp at hp; rcases hp with rfl | rfl | rfl; exact hlow; exact hlow2; exact .val _) (by simp [psecs, pint, PV.ownB]) (by rw [Try.ntmps37]; simp) ?_
  rw [Try.ntmps37, Try.results37]
  refine wk ?_
  obtain ⟨k1, k2, k3⟩ := tmod_lo x (l.length + 3) (by omega)
  generalize hr0 : x.tmod (l.length + 3) = r0 at k1 k2 k3
  refine PWops.remY (z := r0) rfl rfl rfl rfl rfl rfl (by show ((l.length : Int) + 3) ≠ 0; omega) hr0 ?_
  refine wk ?_
  have hfr : foundR l x = x % (l.length + 3) := rfl
  have hf : (r0 + l.length + 3) % ((l.length : Int) + 3) = foundR l x := by
    rw [hfr, ← k3, Int.tmod_eq_emod_of_nonneg (by omega)]; congr 1; omega
  rw [hf]
  have hf0 : 0 ≤ foundR l x ∧ foundR l x < l.length + 3 := by rw [hfr]; exact ⟨Int.emod_nonneg _ (by omega), Int.emod_lt_of_pos _ (by omega)⟩
  unfold found
  generalize foundR l x = r at hf0 ⊢
  by_cases c0 : r = 0
  · rw [if_pos c0]
    refine wk ?_
    exact retP2 (presult1 (pres_cell rfl rfl rfl (by (first | rfl | exact secL_len _ | exact dcellL_len _ | exact putL_len _ | exact len_map (by assumption) | exact len_map rfl)) (by (first | rfl | exact secL_bare _ | exact dcellL_bare _ | exact putL_bare _ | exact bare_map (fun _ => rfl) _)))) hlow rfl
  · rw [if_neg c0]
    by_cases c1 : r ≤ l.length
    · rw [if_pos c1]
      refine wk ?_
      refine PWops.bldA (cs := secL (l.getD (r - 1).toNat default)) (out := dcellL ⟨l.getD (r - 1).toNat default, false⟩) rfl rfl rfl rfl rfl rfl rfl rfl (secL_len _) rfl (secL_one _) (secL_bare _) (splice_sec _ _) ?_
      refine wk ?_
      exact retP2 (presult1 (pres_cell rfl rfl rfl (by (first | rfl | exact secL_len _ | exact dcellL_len _ | exact putL_len _ | exact len_map (by assumption) | exact len_map rfl)) (by (first | rfl | exact secL_bare _ | exact dcellL_bare _ | exact putL_bare _ | exact bare_map (fun _ => rfl) _)))) (.agg _ (dcellL_low _)) rfl
    · rw [if_neg c1]
      by_cases c2 : r = l.length + 1
      · rw [if_pos c2]
        refine wk ?_
        exact retP2 (presult1 (pres_cell (cs := dcellL ⟨zeroSec, true⟩) rfl rfl rfl (by (first | rfl | exact secL_len _ | exact dcellL_len _ | exact putL_len _ | exact len_map (by assumption) | exact len_map rfl)) (by (first | rfl | exact secL_bare _ | exact dcellL_bare _ | exact putL_bare _ | exact bare_map (fun _ => rfl) _)))) (.agg _ (dcellL_low _)) rfl
      · rw [if_neg c2]
        refine wk ?_
        refine PWops.ldBA (row := secL c.s) rfl rfl rfl rfl rfl rfl rfl ?_ (by rw [dcellL_sec, secL_bare]) ?_
        · show 0 + 0 + 64 ≤ (dcellL c).length
          rw [dcellL_len]; omega
        refine wk ?_
        have hlast : l.getD ((l.length : Int) - 1).toNat default = lastS l := rfl
        by_cases h1 : 1 < l.length
        · have hb : beforeS c l = l.getD ((l.length : Int) - 2).toNat default := by
            unfold beforeS; rw [if_pos h1]; congr 1; omega
          have hq := peqs_ints (k := .u8) (beforeS c l).1 (lastS l).1 (by rw [(beforeS c l).2.1, (lastS l).2.1])
          rw [hb] at hq ⊢
          refine wk ?_
          rw [(l.getD ((l.length : Int) - 2).toNat default).2.1] at hq
          refine PWops.eqA rfl rfl rfl rfl rfl rfl rfl rfl hq (.inl rfl) ?_
          by_cases he : (l.getD ((l.length : Int) - 2).toNat default).1 = (lastS l).1
          · rw [if_pos he]
            refine wk ?_
            refine PW.condT (by show PV.val (.bool ((l.getD ((l.length : Int) - 2).toNat default).1 == (lastS l).1)) = _; rw [he]; simp) ?_
            refine wk ?_
            refine PWops.bldA (cs := secL (lastS l)) (out := dcellL ⟨lastS l, false⟩) rfl rfl rfl rfl rfl rfl rfl rfl (secL_len _) rfl (secL_one _) (secL_bare _) (splice_sec _ _) ?_
            refine wk ?_
            exact retP2 (presult1 (pres_cell rfl rfl rfl (by (first | rfl | exact secL_len _ | exact dcellL_len _ | exact putL_len _ | exact len_map (by assumption) | exact len_map rfl)) (by (first | rfl | exact secL_bare _ | exact dcellL_bare _ | exact putL_bare _ | exact bare_map (fun _ => rfl) _)))) (.agg _ (dcellL_low _)) rfl
          · rw [if_neg he]
            refine wk ?_
            refine PW.condF (by show PV.val (.bool ((l.getD ((l.length : Int) - 2).toNat default).1 == (lastS l).1)) = _; rw [beq_eq_false_iff_ne.2 he]) ?_
            refine wk ?_
            refine PWops.copy (n2 := 32) (cs := (secL (l.getD ((l.length : Int) - 2).toNat default)).drop 32) (out := secL (mixS (lastS l) (l.getD ((l.length : Int) - 2).toNat default))) rfl rfl rfl rfl rfl ?_ rfl rfl rfl ?_ ?_ ?_ ?_
            · exact copy_half (l.getD ((l.length : Int) - 2).toNat default)
            · show 32 + min 32 32 * 1 ≤ (secL (lastS l)).length
              rw [secL_len]; decide
            · rw [List.length_drop, secL_len]; decide
            · exact splice_half (lastS l) (l.getD ((l.length : Int) - 2).toNat default)
            refine wk ?_
            refine PWops.bldA (cs := secL (mixS (lastS l) (l.getD ((l.length : Int) - 2).toNat default))) (out := dcellL ⟨mixS (lastS l) (l.getD ((l.length : Int) - 2).toNat default), false⟩) rfl rfl rfl rfl rfl rfl rfl rfl (secL_len _) rfl (secL_one _) (secL_bare _) (splice_sec _ _) ?_
            refine wk ?_
            exact retP2 (presult1 (pres_cell rfl rfl rfl (by (first | rfl | exact secL_len _ | exact dcellL_len _ | exact putL_len _ | exact len_map (by assumption) | exact len_map rfl)) (by (first | rfl | exact secL_bare _ | exact dcellL_bare _ | exact putL_bare _ | exact bare_map (fun _ => rfl) _)))) (.agg _ (dcellL_low _)) rfl
        · have hb : beforeS c l = c.s := by
            unfold beforeS; rw [if_neg h1]
          have hq := peqs_ints (k := .u8) (beforeS c l).1 (lastS l).1 (by rw [(beforeS c l).2.1, (lastS l).2.1])
          rw [hb] at hq ⊢
          refine wk ?_
          rw [c.s.2.1] at hq
          refine PWops.eqA rfl rfl rfl rfl rfl rfl rfl rfl hq (.inl rfl) ?_
          by_cases he : c.s.1 = (lastS l).1
          · rw [if_pos he]
            refine wk ?_
            refine PW.condT (by show PV.val (.bool (c.s.1 == (lastS l).1)) = _; rw [he]; simp) ?_
            refine wk ?_
            refine PWops.bldA (cs := secL (lastS l)) (out := dcellL ⟨lastS l, false⟩) rfl rfl rfl rfl rfl rfl rfl rfl (secL_len _) rfl (secL_one _) (secL_bare _) (splice_sec _ _) ?_
            refine wk ?_
            exact retP2 (presult1 (pres_cell rfl rfl rfl (by (first | rfl | exact secL_len _ | exact dcellL_len _ | exact putL_len _ | exact len_map (by assumption) | exact len_map rfl)) (by (first | rfl | exact secL_bare _ | exact dcellL_bare _ | exact putL_bare _ | exact bare_map (fun _ => rfl) _)))) (.agg _ (dcellL_low _)) rfl
          · rw [if_neg he]
            refine wk ?_
            refine PW.condF (by show PV.val (.bool (c.s.1 == (lastS l).1)) = _; rw [beq_eq_false_iff_ne.2 he]) ?_
            refine wk ?_
            refine PWops.copy (n2 := 32) (cs := (secL c.s).drop 32) (out := secL (mixS (lastS l) c.s)) rfl rfl rfl rfl rfl ?_ rfl rfl rfl ?_ ?_ ?_ ?_
            · exact copy_half c.s
            · show 32 + min 32 32 * 1 ≤ (secL (lastS l)).length
              rw [secL_len]; decide
            · rw [List.length_drop, secL_len]; decide
            · exact splice_half (lastS l) c.s
            refine wk ?_
            refine PWops.bldA (cs := secL (mixS (lastS l) c.s)) (out := dcellL ⟨mixS (lastS l) c.s, false⟩) rfl rfl rfl rfl rfl rfl rfl rfl (secL_len _) rfl (secL_one _) (secL_bare _) (splice_sec _ _) ?_
            refine wk ?_
            exact retP2 (presult1 (pres_cell rfl rfl rfl (by (first | rfl | exact secL_len _ | exact dcellL_len _ | exact putL_len _ | exact len_map (by assumption) | exact len_map rfl)) (by (first | rfl | exact secL_bare _ | exact dcellL_bare _ | exact putL_bare _ | exact bare_map (fun _ => rfl) _)))) (.agg _ (dcellL_low _)) rfl
end Go.Proofs.Ytilcpcpmkklobaa

/- law22: the specification's Filled and Same; possible. -/
namespace Go.Proofs.Ytilcpcpmkklobaa
set_option linter.unusedSimpArgs false
set_option linter.unusedVariables false
set_option linter.unnecessarySimpa false
open Go.RowKit

def fillL (b : Int) (i : Nat) : List Int := List.replicate i b ++ List.replicate (64 - i) 0
theorem fillL_set (b : Int) (i : Nat) (h : i < 64) : (fillL b i).set i b = fillL b (i + 1) := by
  rw [fillL, List.set_append_right _ _ (by simp), List.length_replicate, Nat.sub_self]
  rw [show 64 - i = (64 - (i + 1)) + 1 by omega, List.replicate_succ, List.set_cons_zero, fillL, List.replicate_succ', List.append_assoc]; rfl
theorem fillL_len (b : Int) (i : Nat) (h : i ≤ 64) : (fillL b i).length = 64 := by simp [fillL]; omega
/-- A sector filled with a number's last byte. -/
def fillB (b : Int) : Sec := ⟨List.replicate 64 (IntKind.u8.wrap b), by simp, fun x hx => by
  rw [(List.mem_replicate.1 hx).2]
  simp [IntKind.wrap, IntKind.signed, IntKind.bits]; omega⟩

set_option maxRecDepth 10000 in
set_option maxHeartbeats 1000000 in
theorem pw_filled (b : Int) : PCalls Try.prog 23 [pint b] (· = psec (fillB b)) := by
  refine pcalls_of_pw typeTab_ok Try.func23 rfl (by kernel_rfl) (by exact lw) (by simp [pint, PV.ownB]) (Nat.le_of_ble_eq_true rfl) ?_
  refine wk ?_
  have hf : ∀ i, ∀ c ∈ (fillL (IntKind.u8.wrap b) i).map pbyte, Low c := fun i => low_map (fun _ => Low.val _) _
  have hfb : (fillB b).1 = fillL (IntKind.u8.wrap b) 64 := by simp [fillL, fillB]
  generalize hw : IntKind.u8.wrap b = w at *
  refine PW.loop (fun i : Nat => ((((((bot.setb 0 (List.replicate 64 (pbyte 0))).setb 1000 ((fillL w i).map pbyte)).put 0 (pint b)).put 2 (.ptr 0 0)).put 3 (.ptr 1000 0)).put 4 (pint i))) (fun i => i ≤ 64) (fun i => 64 - i) 0 (by omega) ?_ ?_
  · have h1 := hf 0
    exact sb
  · intro i hi
    have hlen := fillL_len w i hi
    by_cases hlt : i < 64
    · have hs := fillL_set w i hlt
      have h1 := hf (i + 1)
      rw [← hs] at h1
      generalize fillL w i = X at *
      refine wk ?_
      refine loopP (i + 1) (by omega) (by omega) ?_
      rw [← hs]
      try rw [Int.toNat_natCast]
      try rw [hw]
      exact sb
    · have e : i = 64 := by omega
      subst e
      rw [← hfb]
      have h1 := secL_low (fillB b)
      generalize fillB b = s at *
      rw [show s.1.map pbyte = secL s from rfl]
      refine wk ?_
      exact ⟨_, presult1 (pres_cell rfl rfl rfl (by (first | rfl | exact secL_len _ | exact dcellL_len _ | exact putL_len _ | exact len_map (by assumption) | exact len_map rfl)) (by (first | rfl | exact secL_bare _ | exact dcellL_bare _ | exact putL_bare _ | exact bare_map (fun _ => rfl) _))), .agg _ h1, rfl⟩

theorem eq_of_getD {a b : List Int} (h1 : a.length = b.length) (h : ∀ j, j < a.length → a.getD j default = b.getD j default) : a = b := by
  refine List.ext_getElem h1 fun j q1 q2 => ?_
  have := h j q1
  rw [List.getD_eq_getElem?_getD, List.getD_eq_getElem?_getD, List.getElem?_eq_getElem q1, List.getElem?_eq_getElem q2] at this
  exact this

set_option maxRecDepth 10000 in
set_option maxHeartbeats 1000000 in
theorem pw_same (a b : List Int) (ha : a.length ≤ 1000000000000000) (hb : b.length ≤ 1000000000000000) : PCalls Try.prog 26 [pints a, pints b] (· = pbool (decide (a = b))) := by
  refine pcalls_of_pw typeTab_ok Try.func26 rfl (by kernel_rfl) (by exact lw) (by simp [pints, PV.ownB]) (Nat.le_of_ble_eq_true rfl) ?_
  by_cases hl : a.length = b.length
  · refine wk ?_
    refine PW.loop (fun i : Nat => ((((bot.put 0 (pints a)).put 1 (pints b)).put 4 (pbool false)).put 5 (pint i))) (fun i => i ≤ a.length ∧ ∀ j, j < i → a.getD j default = b.getD j default) (fun i => a.length - i) 0 ⟨by omega, fun j hj => by omega⟩ ?_ ?_
    · exact sb
    · intro i ⟨hi, hgood⟩
      by_cases hlt : i < a.length
      · by_cases hx : a.getD i default = b.getD i default
        · have hg2 : ∀ j, j < i + 1 → a.getD j default = b.getD j default := by
            intro j hj
            by_cases e : j = i
            · subst e; exact hx
            · exact hgood j (by omega)
          clear hgood
          refine wk ?_
          refine loopP (i + 1) ⟨by omega, hg2⟩ (by omega) ?_
          exact sb
        · rw [decide_eq_false (fun e => hx (by rw [e]))]
          clear hgood
          refine wk ?_
          exact retP rfl (by exact lw) rfl
      · have e : i = a.length := by omega
        subst e
        rw [decide_eq_true (eq_of_getD hl hgood)]
        clear hgood
        refine wk ?_
        exact retP rfl (by exact lw) rfl
  · rw [decide_eq_false (fun e => hl (by rw [e]))]
    refine wk ?_
    exact retP rfl (by exact lw) rfl

/-- A sector may be found so after a failure. -/
def possI (s sure : Sec) (op : List Sec) (n : Nat) : Bool := decide (s.1 = sure.1) || (op.take n).any fun x => decide (s.1 = x.1)
def possB (s : Sec) (e : Int) (sure : Sec) (op : List Sec) : Bool := if e = 221 then decide (s.1 = zeroSec.1) else possI s sure op op.length || decide (s.1 = (mixS (lastS op) (beforeS ⟨sure, false⟩ op)).1)
theorem possI_succ {s sure : Sec} {op : List Sec} {n : Nat} (h : n < op.length) : possI s sure op (n + 1) = (possI s sure op n || decide (s.1 = (op.getD n default).1)) := by
  have e : op.getD n default = op[n] := by rw [List.getD_eq_getElem?_getD, List.getElem?_eq_getElem h]; rfl
  unfold possI
  rw [List.take_add_one, List.getElem?_eq_getElem h, e, List.any_append, Bool.or_assoc]
  simp

set_option maxRecDepth 10000 in
set_option maxHeartbeats 2000000 in
theorem pw_possible (s : Sec) (e : Int) (sure : Sec) (op : List Sec) (he : e = 221 ∨ e = 0) (hop : 0 < op.length ∧ op.length ≤ 1000000000) : PCalls Try.prog 19 [psec s, pint e, psec sure, psecs op none] (· = pbool (possB s e sure op)) := by
  have h1 := psec_low s
  have h2 := psec_low sure
  have h3 := psecs_low op none
  refine pcalls_of_pw typeTab_ok Try.func19 rfl (by kernel_rfl) (by intro p hp; simp at hp; rcases hp with rfl | rfl | rfl | rfl; exact h1; exact .val _; exact h2; exact h3) (by simp [psecs, psec, pint, PV.ownB]) (Nat.le_of_ble_eq_true rfl) ?_
  have q0 := peqs_ints (k := .u8) s.1 zeroSec.1 (by rw [s.2.1, zeroSec.2.1])
  rw [s.2.1] at q0
  have q1 := peqs_ints (k := .u8) s.1 sure.1 (by rw [s.2.1, sure.2.1])
  rw [s.2.1] at q1
  have d0 : ∀ x : Sec, (s.1 == x.1) = decide (s.1 = x.1) := fun x => by
    by_cases h : s.1 = x.1
    · rw [decide_eq_true h, beq_iff_eq.2 h]
    · rw [decide_eq_false h, beq_eq_false_iff_ne.2 h]
  rw [d0] at q0 q1
  rcases he with rfl | rfl
  · have hp : possB s 221 sure op = decide (s.1 = zeroSec.1) := by unfold possB; rw [if_pos rfl]
    rw [hp]
    refine wk ?_
    refine PWops.eqA rfl rfl rfl rfl rfl rfl rfl rfl q0 (.inl rfl) ?_
    refine wk ?_
    exact retP rfl (by exact lw) rfl
  · have hp : possB s 0 sure op = (possI s sure op op.length || decide (s.1 = (mixS (lastS op) (beforeS ⟨sure, false⟩ op)).1)) := by unfold possB; rw [if_neg (by decide)]
    rw [hp]
    have hA0 : possI s sure op 0 = decide (s.1 = sure.1) := by simp [possI]
    refine wk ?_
    refine PWops.eqA rfl rfl rfl rfl rfl rfl rfl rfl q1 (.inl rfl) ?_
    rw [← hA0]
    clear q0 q1
    refine wk ?_
    refine PW.loop (fun i : Nat => ((((((((((bot.setb 0 (secL s)).setb 1 (secL sure)).put 1 (pint 0)).put 3 (psecs op none)).put 4 (.ptr 0 0)).put 6 (.ptr 1 0)).put 8 (pbool false)).put 9 (pbool (possI s sure op i))).put 27 (psecs op none)).put 28 (pint op.length)).put 29 (pint i)) (fun i => i ≤ op.length) (fun i => op.length - i) 0 (Nat.zero_le _) ?_ ?_
    · have hl := secL_low s
      have hl2 := secL_low sure
      exact sb
    · intro i hi
      by_cases hlt : i < op.length
      · have hs := possI_succ (s := s) (sure := sure) hlt
        have q2 := peqs_ints (k := .u8) s.1 (op.getD i default).1 (by rw [s.2.1, (op.getD i default).2.1])
        rw [s.2.1, d0] at q2
        generalize possI s sure op i = B at *
        have hl := secL_low s
        have hl2 := secL_low sure
        cases B
        · refine wk ?_
          refine PWops.eqA rfl rfl rfl rfl rfl rfl rfl rfl q2 (.inl rfl) ?_
          refine wk ?_
          refine loopP (i + 1) (by omega) (by omega) ?_
          try dsimp only
          rw [hs, Bool.false_or]
          exact sb
        · refine wk ?_
          refine loopP (i + 1) (by omega) (by omega) ?_
          try dsimp only
          rw [hs, Bool.true_or]
          exact sb
      · obtain rfl : i = op.length := by omega
        have hlast : op.getD ((op.length : Int) - 1).toNat default = lastS op := rfl
        have hl := secL_low s
        have hl2 := secL_low sure
        by_cases c1 : 1 < op.length
        · have hb : beforeS ⟨sure, false⟩ op = op.getD ((op.length : Int) - 2).toNat default := by
            unfold beforeS; rw [if_pos c1]; congr 1; omega
          rw [hb]
          generalize possI s sure op op.length = B at *
          refine wk ?_
          refine PWops.copy (n2 := 32) (cs := (secL (op.getD ((op.length : Int) - 2).toNat default)).drop 32) (out := secL (mixS (lastS op) (op.getD ((op.length : Int) - 2).toNat default))) rfl rfl rfl rfl rfl ?_ rfl rfl rfl ?_ ?_ ?_ ?_
          · exact copy_half (op.getD ((op.length : Int) - 2).toNat default)
          · show 32 + min 32 32 * 1 ≤ (secL (lastS op)).length
            rw [secL_len]; decide
          · rw [List.length_drop, secL_len]; decide
          · exact splice_half (lastS op) (op.getD ((op.length : Int) - 2).toNat default)
          have q3 := peqs_ints (k := .u8) s.1 (mixS (lastS op) (op.getD ((op.length : Int) - 2).toNat default)).1 (by rw [s.2.1, (mixS (lastS op) (op.getD ((op.length : Int) - 2).toNat default)).2.1])
          rw [s.2.1, d0] at q3
          cases B
          · refine wk ?_
            refine PWops.eqA rfl rfl rfl rfl rfl rfl rfl rfl q3 (.inl rfl) ?_
            rw [Bool.false_or]
            refine wk ?_
            exact retP rfl (by exact lw) rfl
          · rw [Bool.true_or]
            refine wk ?_
            exact retP rfl (by exact lw) rfl
        · have hb : beforeS ⟨sure, false⟩ op = sure := by
            unfold beforeS; rw [if_neg c1]
          rw [hb]
          generalize possI s sure op op.length = B at *
          refine wk ?_
          refine PWops.copy (n2 := 32) (cs := (secL sure).drop 32) (out := secL (mixS (lastS op) sure)) rfl rfl rfl rfl rfl ?_ rfl rfl rfl ?_ ?_ ?_ ?_
          · exact copy_half sure
          · show 32 + min 32 32 * 1 ≤ (secL (lastS op)).length
            rw [secL_len]; decide
          · rw [List.length_drop, secL_len]; decide
          · exact splice_half (lastS op) sure
          have q3 := peqs_ints (k := .u8) s.1 (mixS (lastS op) sure).1 (by rw [s.2.1, (mixS (lastS op) sure).2.1])
          rw [s.2.1, d0] at q3
          cases B
          · refine wk ?_
            refine PWops.eqA rfl rfl rfl rfl rfl rfl rfl rfl q3 (.inl rfl) ?_
            rw [Bool.false_or]
            refine wk ?_
            exact retP rfl (by exact lw) rfl
          · rw [Bool.true_or]
            refine wk ?_
            exact retP rfl (by exact lw) rfl
end Go.Proofs.Ytilcpcpmkklobaa

/- The disk: New. -/
namespace Go.Proofs.Ytilcpcpmkklobaa
set_option linter.unusedSimpArgs false
set_option linter.unusedVariables false
set_option linter.unnecessarySimpa false
open Go.RowKit

section
variable {P : Program} {T : Tab} {σ : PS} {o : Oper} {i base : Nat} {ops : Array Oper} {ok : Nat → Nat → Bool} {rest : List (Nat × Oper)} {K : PS → Prop}
/-- A new slice of a length that is not written out. -/
theorem PWops.mkS {d e k by_ : Nat} {x : Int} {kx ky : IntKind} {out zr : List PV} {X Y : Operand} {t : TypeId} {ti : TyI} (hg : pguard ops σ o = some true) (hd : o.dst = some d) (hop : o.op = .makeSlice t X Y) (hx : pev σ X = .val (.int kx x)) (hy : pev σ Y = .val (.int ky x)) (ht : T.at t = some ti) (hk : ti.kind = .slice e k by_ zr) (hb : σ.freeB (base + i) = true) (hc : 0 ≤ x ∧ (by_ : Int) * x ≤ 281474976710656 ∧ x ≤ 9223372036854775807) (hout : (List.replicate x.toNat zr).flatten = out)
    (kn : PWops P T ops base ok rest K ((σ.setb (base + i) out).put d (.msl (base + i) 0 x.toNat k))) : PWops P T ops base ok ((i, o) :: rest) K σ := by
  refine PWops.step hg (E := ⟨.msl (base + i) 0 x.toNat k, [(base + i, out)], none, []⟩) ?_ hb (by rw [hd]; exact kn)
  have h1 : (σ.only (ok i)).b (base + i) = none ∧ (σ.only (ok i)).m (base + i) = none := by
    obtain ⟨q1, q2⟩ := PS.freeB_spec hb
    simp only [PS.only, q1, q2]
    constructor <;> split <;> rfl
  have h2 : 0 ≤ x ∧ x = x ∧ (by_ : Int) * x ≤ 281474976710656 ∧ x ≤ 9223372036854775807 := ⟨hc.1, rfl, hc.2.1, hc.2.2⟩
  have h3 : pmake k by_ zr x x = some (x.toNat, out) := by unfold pmake; rw [if_pos h2, hout]
  simp only [hop, presE, ht, pev_only, hx, hy, h1.1, h1.2, hk, h3]
/-- A new map. -/
theorem PWops.mkM {d : Nat} {t : TypeId} (hg : pguard ops σ o = some true) (hd : o.dst = some d) (hop : o.op = .makeMap t none) (hb : σ.freeB (base + i) = true)
    (kn : PWops P T ops base ok rest K ((σ.setm (base + i) (.map [] 0)).put d (.mref (base + i)))) : PWops P T ops base ok ((i, o) :: rest) K σ := by
  refine PWops.stepM hg (E := ⟨.mref (base + i), [], none, [(base + i, .map [] 0)]⟩) ?_ hb (by rw [hd]; exact kn)
  have h1 : (σ.only (ok i)).b (base + i) = none ∧ (σ.only (ok i)).m (base + i) = none := by
    obtain ⟨q1, q2⟩ := PS.freeB_spec hb
    simp only [PS.only, q1, q2]
    constructor <;> split <;> rfl
  simp only [hop, presM, h1.1, h1.2]
end

def newD (n : Nat) : DM := ⟨List.replicate n ⟨zeroSec, false⟩, [], 0, 0, -1, false⟩
theorem newD_cells (n : Nat) : (List.replicate n (List.replicate 64 (.val (.int .u8 0)) ++ [pbool false])).flatten = dC (newD n) := by
  unfold dC newD
  have : (List.replicate 64 (.val (.int .u8 0)) ++ [pbool false] : List PV) = dcellL ⟨zeroSec, false⟩ := rfl
  rw [this]
  generalize (⟨zeroSec, false⟩ : DCell) = z
  show _ = (List.replicate n z).flatMap dcellL
  induction n with
  | zero => rfl
  | succ n ih => rw [List.replicate_succ, List.replicate_succ, List.flatten_cons, List.flatMap_cons, ih]

set_option maxRecDepth 10000 in
set_option maxHeartbeats 1000000 in
theorem dc_New0 (n : Int) (h : n < 1 ∨ 65536 < n) : HCalls Try.prog 7 [pint n] [] [] (.val (.pointer none)) [] [] := by
  refine hcalls_of_pw typeTab_ok Try.func7 rfl rfl (by simp [pint, PV.ownB]) (Nat.le_of_ble_eq_true rfl) (by simp [ResIds]) (by simp [ResIds]) ⟨by intro p hp; simp at hp; subst hp; exact .val _, by simp, by simp, .val _, by simp, by simp, by simp, by simp⟩ ?_
  by_cases h1 : n < 1
  · refine wk ?_
    exact ⟨_, rfl, Weak.refl _, trivial, trivial⟩
  · have h2 : 65536 < n := by omega
    refine wk ?_
    exact ⟨_, rfl, Weak.refl _, trivial, trivial⟩

set_option maxRecDepth 10000 in
set_option maxHeartbeats 1000000 in
theorem dc_New1 (n : Int) (h : 1 ≤ n ∧ n ≤ 65536) : HCalls Try.prog 7 [pint n] [] [] (.ptr 3004 0) (dG 3004 3001 3002 (newD n.toNat)) (dMs 3002 (newD n.toNat)) := by
  refine hcalls_of_pw typeTab_ok Try.func7 rfl rfl (by simp [pint, PV.ownB]) (Nat.le_of_ble_eq_true rfl) (by simp [ResIds]) (by simp [ResIds]) ⟨by intro p hp; simp at hp; subst hp; exact .val _, by simp, by simp, .ptr _ _ (by simp [ResIds, dG]), fun x hx => ?_, fun x hx => ?_, by simp, by simp⟩ ?_
  · simp only [dG, List.mem_cons, List.not_mem_nil, or_false] at hx
    rcases hx with rfl | rfl
    · exact dB_lowI (by simp [ResIds, dG]) (by simp [ResIds, dMs]) _
    · exact fun p hp => (dC_low _ p hp).lowI
  · simp only [dMs, List.mem_cons, List.not_mem_nil, or_false] at hx
    subst hx
    exact fun e he => ⟨(dM_low _ e he).1.lowI, (dM_low _ e he).2.lowI⟩
  refine wk ?_
  refine PWops.mkS (out := dC (newD n.toNat)) rfl rfl rfl rfl rfl rfl rfl rfl ?_ (newD_cells _) ?_
  · refine ⟨by omega, ?_, by omega⟩
    omega
  refine wk ?_
  refine PWops.mkM rfl rfl rfl rfl ?_
  refine wk ?_
  exact RetH.mk rfl (Weak.refl _) ⟨⟨_, rfl, WeakL.eq (by simp [dB, newD]; exact ⟨rfl, rfl, rfl⟩)⟩, ⟨_, rfl, WeakL.refl _⟩, trivial⟩ ⟨⟨rfl, rfl⟩, trivial⟩

def newIds (d c m i : Nat) : Nat := if i = 3004 then d else if i = 3001 then c else if i = 3002 then m else i
theorem dc_New (n : Int) (h : 1 ≤ n ∧ n ≤ 65536) (d c m : Nat) (hnd : (ids3 d c m).Nodup) : HCalls Try.prog 7 [pint n] [] [] (.ptr d 0) (dG d c m (newD n.toNat)) (dMs m (newD n.toNat)) := by
  have r3 : ResIds (dG 3004 3001 3002 (newD n.toNat)) (dMs 3002 (newD n.toNat)) = [3004, 3001, 3002] := rfl
  refine (dc_New1 n h).ren (newIds d c m) (by simp) (by simp) ?_ (.cons (.low _ (.val _)) .nil) .nil .nil (.ptr 3004 0 (by rw [r3]; decide)) (.cons 3004 _ _ _ _ (.cons (.msl 3001 0 _ _ (by rw [r3]; decide)) (.cons (.mref 3002 (by rw [r3]; decide)) (.cons (.low _ (.val _)) (.cons (.low _ (.val _)) (.cons (.low _ (.val _)) .nil))))) (.cons 3001 _ _ _ _ (.low (dC_low _)) .nil)) (.cons 3002 _ _ _ _ (.low (dM_low _)) .nil)
  rw [r3]
  simp only [ids3, List.nodup_cons, List.mem_cons, List.not_mem_nil, or_false, not_or, List.nodup_nil, and_true, not_false_eq_true] at hnd
  obtain ⟨⟨n1, n2⟩, n3⟩ := hnd
  intro i hi j hj e
  simp only [List.mem_cons, List.not_mem_nil, or_false] at hi hj
  rcases hi with rfl | rfl | rfl <;> rcases hj with rfl | rfl | rfl <;> simp [newIds] at e ⊢ <;> first | exact absurd e n1 | exact absurd e n2 | exact absurd e n3 | exact absurd e.symm n1 | exact absurd e.symm n2 | exact absurd e.symm n3
end Go.Proofs.Ytilcpcpmkklobaa

/- The disk that does not fail: what is read after writes, syncs, rot. -/
namespace Go.Proofs.Ytilcpcpmkklobaa
set_option linter.unusedSimpArgs false
set_option linter.unusedVariables false
set_option linter.unnecessarySimpa false
open Go.RowKit

/-- A disk of n sectors that is up and is not armed. -/
structure OkD (n : Nat) (k : Nat) (D : DM) : Prop where
  dead : D.dead = false
  after : D.after = -1
  len : D.cells.length = n
  steps : 0 ≤ D.steps ∧ D.steps ≤ k
  op : opOK n D.op
  room : ∀ e ∈ D.op, e.2.2.length ≤ k
theorem OkD.mono {n k k' : Nat} {D : DM} (h : OkD n k D) (hk : k ≤ k') : OkD n k' D := ⟨h.dead, h.after, h.len, by have := h.steps; omega, h.op, fun e he => by have := h.room e he; omega⟩
theorem OkD.check {n k : Nat} {D : DM} (h : OkD n k D) (i : Int) : D.check i = if i < 0 ∨ (n : Int) ≤ i then 1 else 0 := by
  unfold DM.check
  rw [h.dead, h.len]; rfl
theorem OkD.check0 {n k : Nat} {D : DM} (h : OkD n k D) {i : Int} (h0 : 0 ≤ i) (h1 : i < n) : D.check i = 0 := by rw [h.check, if_neg (by omega)]
theorem OkD.step {n k : Nat} {D : DM} (h : OkD n k D) : D.step = (0, { D with steps := D.steps + 1 }) := by
  unfold DM.step
  rw [h.after]
  simp
theorem opIdx_none {i : Int} : ∀ {op : List (Nat × Int × List Sec)} {n : Nat}, opIdx i op n = none → i ∉ op.map (·.2.1)
  | [], n, h => by simp
  | (a, k, b) :: op, n, h => by
    simp only [opIdx] at h
    split at h
    · cases h
    · rename_i hne
      simp only [List.map_cons, List.mem_cons, not_or]
      exact ⟨hne, opIdx_none h⟩
theorem opFind_idx {i : Int} : ∀ (op : List (Nat × Int × List Sec)) (n : Nat), opFind i op = match opIdx i op n with
    | some j => some (op.getD (j - n) default).2.2
    | none => none
  | [], n => rfl
  | (a, k, b) :: op, n => by
    simp only [opFind, opIdx]
    by_cases h : i = k
    · simp [h]
    · rw [if_neg h, if_neg h, opFind_idx op (n + 1)]
      cases hj : opIdx i op (n + 1) with
      | none => rfl
      | some j =>
        have := (opIdx_lt hj).1
        simp only
        rw [show j - n = (j - (n + 1)) + 1 by omega]; rfl
theorem get_find (D : DM) (i : Int) : D.get i = (opFind i D.op).getD [] := by
  rw [DM.get, opFind_idx D.op 0]
  cases opIdx i D.op 0 <;> rfl
theorem opFind_append {i : Int} : ∀ {op : List (Nat × Int × List Sec)} {e : Nat × Int × List Sec}, opFind i (op ++ [e]) = match opFind i op with
    | some l => some l
    | none => if i = e.2.1 then some e.2.2 else none
  | [], (a, k, b) => rfl
  | (a, k, b) :: op, e => by
    simp only [List.cons_append, opFind]
    split
    · rfl
    · exact opFind_append
theorem opFind_set {i c : Int} : ∀ {op : List (Nat × Int × List Sec)} {j s : Nat} {l l' : List Sec}, (op.map (·.2.1)).Nodup → op[j]? = some (s, c, l) → opFind i (op.set j (s, c, l')) = if i = c then some l' else opFind i op
  | [], j, s, l, l', hn, h => by simp at h
  | (a, k, b) :: op, 0, s, l, l', hn, h => by
    simp at h
    obtain ⟨rfl, rfl, rfl⟩ := h
    simp only [List.set_cons_zero, opFind]
    split <;> rfl
  | (a, k, b) :: op, j + 1, s, l, l', hn, h => by
    simp only [List.map_cons, List.nodup_cons] at hn
    simp only [List.getElem?_cons_succ] at h
    have hne : c ≠ k := by
      rintro rfl
      exact hn.1 (List.mem_map.2 ⟨_, List.mem_of_getElem? h, rfl⟩)
    simp only [List.set_cons_succ, opFind, opFind_set hn.2 h]
    by_cases e : i = k
    · subst e; rw [if_pos rfl, if_neg (fun e => hne e.symm), if_pos rfl]
    · rw [if_neg e, if_neg e]
/-- The open writes behind a write. -/
theorem get_addW {n k : Nat} {D : DM} (h : OkD n k D) (i : Int) (s : Sec) (q : Int) : (addW D i s).get q = if q = i then D.get i ++ [s] else D.get q := by
  rw [get_find, get_find, get_find]
  unfold addW
  cases hj : opIdx i D.op 0 with
  | none =>
    simp only
    rw [opFind_append, opFind_none (opIdx_none hj)]
    by_cases e : q = i
    · subst e; rw [opFind_none (opIdx_none hj)]; simp
    · simp only [if_neg e]
      cases opFind q D.op <;> rfl
  | some j =>
    obtain ⟨-, h2, s', v, h3⟩ := opIdx_lt hj
    simp only [Nat.sub_zero] at h3
    simp only [List.getD_eq_getElem?_getD, h3, Option.getD_some]
    rw [opFind_set h.op.1 h3, opFind_at h.op.1 h3]
    by_cases e : q = i
    · subst e; simp
    · simp [e]
theorem addW_cells (D : DM) (i : Int) (s : Sec) : (addW D i s).cells = D.cells ∧ (addW D i s).steps = D.steps ∧ (addW D i s).after = D.after ∧ (addW D i s).dead = D.dead := by
  unfold addW; split <;> exact ⟨rfl, rfl, rfl, rfl⟩
theorem addW_op {n k : Nat} {D : DM} (h : OkD n k D) {i : Int} (h0 : 0 ≤ i) (h1 : i < n) (hk : k < 1000000000) (s : Sec) : opOK n (addW D i s).op ∧ ∀ e ∈ (addW D i s).op, e.2.2.length ≤ k + 1 := by
  unfold addW
  cases hj : opIdx i D.op 0 with
  | none =>
    refine ⟨⟨?_, ?_⟩, ?_⟩
    · simp only [List.map_append, List.map_cons, List.map_nil, List.nodup_append, List.nodup_cons, List.not_mem_nil, not_false_eq_true, List.nodup_nil, and_true, List.mem_cons, or_false, true_and]
      refine ⟨h.op.1, fun a ha b hb => ?_⟩
      subst hb
      rintro rfl
      exact opIdx_none hj ha
    · intro e he
      rcases List.mem_append.1 he with he | he
      · exact h.op.2 e he
      · simp at he; subst he; exact ⟨h0, h1, by simp, by simp⟩
    · intro e he
      rcases List.mem_append.1 he with he | he
      · have := h.room e he; omega
      · simp at he; subst he; simp
  | some j =>
    obtain ⟨-, h2, s', v, h3⟩ := opIdx_lt hj
    simp only [Nat.sub_zero] at h3
    have hm := List.mem_of_getElem? h3
    have hb := h.op.2 _ hm
    have hr := h.room _ hm
    simp only at hb hr
    simp only [List.getD_eq_getElem?_getD, h3, Option.getD_some]
    refine ⟨⟨?_, ?_⟩, ?_⟩
    · have : (D.op.set j (s', i, v ++ [s])).map (·.2.1) = D.op.map (·.2.1) := by
        rw [List.map_set]
        apply List.ext_getElem?
        intro q
        rw [List.getElem?_set]
        split
        · rename_i e; subst e; rw [List.getElem?_map, h3]; simp [(List.getElem?_eq_some_iff.1 h3).1]
        · rfl
      rw [this]; exact h.op.1
    · intro e he
      rcases List.mem_or_eq_of_mem_set he with he | rfl
      · exact h.op.2 e he
      · exact ⟨h0, h1, by simp, by simp; omega⟩
    · intro e he
      rcases List.mem_or_eq_of_mem_set he with he | rfl
      · have := h.room e he; omega
      · simp; omega

/-- A write. -/
theorem OkD.write {n k : Nat} {D : DM} (h : OkD n k D) {i : Int} (h0 : 0 ≤ i) (h1 : i < n) (hk : k < 1000000000) (s : Sec) : (D.write i s).1 = 0 ∧ OkD n (k + 1) (D.write i s).2 ∧ (D.write i s).2.steps = D.steps + 1 := by
  have hs : OkD n k { D with steps := D.steps } := h
  have e : D.write i s = (0, addW { D with steps := D.steps + 1 } i s) := by
    rw [DM.write, if_pos (h.check0 h0 h1), h.step]; rfl
  rw [e]
  have hg : ∀ t, addW { D with steps := t } i s = { addW D i s with steps := t } := by
    intro t
    unfold addW
    simp only
    split <;> rfl
  rw [hg]
  obtain ⟨c1, c2, c3, c4⟩ := addW_cells D i s
  obtain ⟨o1, o2⟩ := addW_op h h0 h1 hk s
  have := h.steps
  exact ⟨rfl, ⟨c4.trans h.dead, c3.trans h.after, by rw [← h.len]; exact congrArg List.length c1, by simp only; omega, o1, o2⟩, rfl⟩

/-- What is read of a sector. -/
theorem OkD.read {n k : Nat} {D : DM} (h : OkD n k D) {q : Int} (h0 : 0 ≤ q) (h1 : q < n) : D.read q = if 0 < (D.get q).length then (lastS (D.get q), 0) else if (D.cell q).bad then (zeroSec, 221) else ((D.cell q).s, 0) := by
  rw [DM.read, if_pos (h.check0 h0 h1)]
theorem lastS_snoc (l : List Sec) (s : Sec) : lastS (l ++ [s]) = s := by
  unfold lastS
  rw [show ((((l ++ [s]).length : Nat) : Int) - 1).toNat = l.length by simp]
  simp [List.getD_eq_getElem?_getD]
theorem OkD.read_write {n k : Nat} {D : DM} (h : OkD n k D) {i : Int} (h0 : 0 ≤ i) (h1 : i < n) (hk : k < 1000000000) (s : Sec) {q : Int} (q0 : 0 ≤ q) (q1 : q < n) : (D.write i s).2.read q = if q = i then (s, 0) else D.read q := by
  have hw := h.write h0 h1 hk s
  rw [hw.2.1.read q0 q1, h.read q0 q1]
  have e : D.write i s = (0, addW { D with steps := D.steps + 1 } i s) := by
    rw [DM.write, if_pos (h.check0 h0 h1), h.step]; rfl
  have hg : ∀ t, addW { D with steps := t } i s = { addW D i s with steps := t } := by
    intro t
    unfold addW
    simp only
    split <;> rfl
  have g1 : (D.write i s).2.get q = if q = i then D.get i ++ [s] else D.get q := by
    rw [e]; simp only; rw [hg]; exact get_addW h i s q
  have g2 : (D.write i s).2.cell q = D.cell q := by
    rw [e]; simp only; rw [hg]; unfold DM.cell; rw [← (addW_cells D i s).1]
  rw [g1, g2]
  by_cases hq : q = i
  · rw [if_pos hq, if_pos hq, if_pos (by simp), lastS_snoc]
  · rw [if_neg hq, if_neg hq]

/-- A sync. -/
theorem OkD.sync {n k : Nat} {D : DM} (h : OkD n k D) (hn : 0 < n) : D.sync = (0, { D with steps := D.steps + 1, cells := synced D.cells D.op, op := [] }) := by
  rw [DM.sync, if_pos (h.check0 (by omega) (by omega)), h.step]; rfl
theorem synced_len (cells : List DCell) (op : List (Nat × Int × List Sec)) : (synced cells op).length = cells.length := by simp [synced]
theorem OkD.sync_ok {n k : Nat} {D : DM} (h : OkD n k D) (hn : 0 < n) : D.sync.1 = 0 ∧ OkD n (k + 1) D.sync.2 ∧ D.sync.2.steps = D.steps + 1 ∧ D.sync.2.op = [] := by
  rw [h.sync hn]
  have := h.steps
  exact ⟨rfl, ⟨h.dead, h.after, by simp only [synced_len]; exact h.len, by simp only; omega, ⟨by simp, by simp⟩, by simp⟩, rfl, rfl⟩
theorem OkD.read_sync {n k : Nat} {D : DM} (h : OkD n k D) (hn : 0 < n) {q : Int} (q0 : 0 ≤ q) (q1 : q < n) : D.sync.2.read q = D.read q := by
  rw [(h.sync_ok hn).2.1.read q0 q1, h.read q0 q1, h.sync hn]
  have g1 : ({ D with steps := D.steps + 1, cells := synced D.cells D.op, op := [] } : DM).get q = [] := by rw [get_find]; rfl
  rw [g1, if_neg (by simp), get_find]
  have hc : ({ D with steps := D.steps + 1, cells := synced D.cells D.op, op := [] } : DM).cell q = match opFind q D.op with
      | some l => ⟨lastS l, false⟩
      | none => D.cell q := by
    unfold DM.cell synced
    have hl : q.toNat < D.cells.length := by rw [h.len]; omega
    simp only [List.getD_eq_getElem?_getD, List.getElem?_map, List.getElem?_range hl, Option.map_some, Option.getD_some]
    rw [Int.toNat_of_nonneg q0]
    all_goals (cases opFind q D.op <;> rfl)
  rw [hc]
  cases hf : opFind q D.op with
  | none => rfl
  | some l =>
    have hl : 0 < l.length := by
      rw [opFind_idx D.op 0] at hf
      cases hj : opIdx q D.op 0 with
      | none => rw [hj] at hf; cases hf
      | some j =>
        rw [hj] at hf
        obtain ⟨-, h2, s', v, h3⟩ := opIdx_lt hj
        simp only [Nat.sub_zero, List.getD_eq_getElem?_getD] at h3 hf
        rw [h3] at hf
        simp at hf
        subst hf
        exact (h.op.2 _ (List.mem_of_getElem? h3)).2.2.1
    simp [hl]
/-- Rot, where nothing is open. -/
theorem OkD.rot {n k : Nat} {D : DM} (h : OkD n k D) (i : Int) : OkD n k (D.rot i) ∧ (D.rot i).op = D.op ∧ (D.rot i).steps = D.steps := by
  unfold DM.rot
  split
  · exact ⟨⟨h.dead, h.after, by simp only [DM.setc, List.length_set]; exact h.len, h.steps, h.op, h.room⟩, rfl, rfl⟩
  · exact ⟨h, rfl, rfl⟩
theorem OkD.read_rot {n k : Nat} {D : DM} (h : OkD n k D) (ho : D.op = []) {i : Int} (h0 : 0 ≤ i) (h1 : i < n) {q : Int} (q0 : 0 ≤ q) (q1 : q < n) : (D.rot i).read q = if q = i then (zeroSec, 221) else D.read q := by
  obtain ⟨r1, r2, -⟩ := h.rot i
  have g : ∀ E : DM, E.op = [] → E.get q = [] := fun E hE => by rw [get_find, hE]; rfl
  rw [r1.read q0 q1, h.read q0 q1, g _ (r2.trans ho), g _ ho]
  simp only [List.length_nil, Nat.lt_irrefl, if_false]
  have hc : (D.rot i).cell q = if q = i then ⟨zeroSec, true⟩ else D.cell q := by
    unfold DM.rot DM.cell
    rw [if_pos (h.check0 h0 h1)]
    unfold DM.setc
    simp only [List.getD_eq_getElem?_getD, List.getElem?_set]
    have hl := h.len
    by_cases e : q = i
    · subst e; rw [if_pos rfl, if_pos rfl, if_pos (by omega)]; rfl
    · rw [if_neg e, if_neg (by omega)]
  rw [hc]
  by_cases e : q = i
  · rw [if_pos e, if_pos e]; rfl
  · rw [if_neg e, if_neg e]
theorem newD_ok (n : Nat) : OkD n 0 (newD n) := ⟨rfl, rfl, by simp [newD], by simp [newD], ⟨by simp [newD], by simp [newD]⟩, by simp [newD]⟩
end Go.Proofs.Ytilcpcpmkklobaa

/- Pure states: an append to nothing whose result may be written to: append([]T{}, l...). -/
namespace Go.Proofs.Ytilcpcpmkklobaa
set_option linter.unusedSimpArgs false
set_option linter.unusedVariables false
set_option linter.unnecessarySimpa false
open Go.RowKit

section
variable {Φ0 : Ent} {W : World} {M : Nat} {Φ : Imm} {μ : Nat → Option Nat} {ω : Nat → Option Who} {σ : PS} {a : Act} {w : World} {P : Program} {T : Tab}

/-- A variable is known by its first cells. -/
theorem RelG.boxTake (h : RelG Φ0 W M Φ μ ω σ a w) {id : Nat} {bs cs r : List PV} (hb : σ.b id = some bs) (hc : bs = cs ++ r) : RelG Φ0 W M Φ μ ω { σ with b := upd σ.b id (some cs) } a w := by
  subst hc
  refine { h with box := fun i bs' e => ?_, gone := fun i e em => ?_, kmu := fun i g e hi => ?_ }
  · by_cases hi : i = id
    · subst hi
      simp only [upd_if, if_true] at e
      cases e
      obtain ⟨g, cur, T, h1, h2, h3, h4, h5, h6, h7⟩ := h.box i _ hb
      refine ⟨g, cur, T, h1, h2, h3, h4, h5, by simp at h6; omega, fun j c hc => h7 j c ?_⟩
      rw [List.getElem?_append_left (List.getElem?_eq_some_iff.1 hc).1]; exact hc
    · simp only [upd_if, if_neg hi] at e; exact h.box i bs' e
  · by_cases hi : i = id
    · subst hi; simp only [upd_if, if_true] at e; cases e
    · simp only [upd_if, if_neg hi] at e; exact h.gone i e em
  · by_cases hi' : i = id
    · subst hi'; exact h.kmu i g e (.inl (by rw [hb]; simp))
    · simp only [upd_if, if_neg hi'] at hi; exact h.kmu i g e hi

/-- In place: the block becomes a variable. -/
theorem RelG.appendBox (h : RelG Φ0 W M Φ μ ω σ a w) {s d id : Nat} (hlow : id < 1000000) (hid : σ.b id = none) (hmid : σ.m id = none) (hd : d < M) {m k cap g : Nat} {ds : List PV} {e : TypeId} {cur : Array Value} {news : List Value}
    (hg : w.heap[g]? = some (.cells cur e (0, 0))) (hroom : m ≤ cap) (hcur : cur.size = cap * k) (hω : ω g = some (.tmp s)) (hfree : ∀ j, Φ g j = none) (hB : Mine Φ0 W g) (hcap : cap ≤ maxLen)
    (hds : ds.length = m * k) (hn : RepL Φ μ ds news) (hone : ∀ u ∈ news, u.oneCell' = true) (hno : ∀ c ∈ ds, c.ownB = false) :
    Rel Φ0 W M { t := upd (upd σ.t s (σ.t s).bare) d (.msl id 0 m k), b := upd σ.b id (some ds), m := σ.m } (a.put (some d) (.slice (some ⟨g, 0, none⟩) m cap)) (w.setRow g (news ++ cur.toList.drop news.length).toArray) := by
  have hd' : d < a.tmps.size := by rw [h.size]; exact hd
  have hlt : g < w.heap.size := (Array.getElem?_eq_some_iff.1 hg).1
  have hmk : m * k ≤ cap * k := Nat.mul_le_mul_right _ hroom
  have hnl := hn.1
  have hμ : ∀ i g', μ i = some g' → upd μ id (some g) i = some g' := by
    intro i g' e'
    simp only [upd_if]
    rw [if_neg (by rintro rfl; rw [h.gone _ hid hmid] at e'; cases e')]; exact e'
  have hω' : ∀ g' p, ω g' = some p → p ≠ .tmp s → upd ω g (some (.box id)) g' = some p := by
    intro g' p eg hp
    simp only [upd_if]
    rw [if_neg (by rintro rfl; rw [hω] at eg; cases eg; exact hp rfl)]
    exact eg
  have hstep : ∀ q n' k' E v, q ≠ .tmp s → OwnAt (Mine Φ0 W) Φ ω w q n' k' E v → OwnAt (Mine Φ0 W) Φ (upd ω g (some (.box id))) (w.setRow g (news ++ cur.toList.drop news.length).toArray) q n' k' E v := by
    intro q n' k' E v hq hh
    refine hh.step (fun g' eg => ?_)
    have hne : g' ≠ g := by rintro rfl; rw [hω] at eg; cases eg; exact hq rfl
    exact ⟨setRow_other w g g' _ hne, fun j => rfl, hω' g' q eg hq⟩
  refine ⟨Φ, upd μ id (some g), upd ω g (some (.box id)), ?_, h.defers, by simp [Act.put, h.size], ?_, h.old, fun t => ?_, fun t n' k' cs' E' et => ?_, fun i bs eb => ?_, ?_, ?_, h.gmu, ?_, h.ext, fun i X e' => (h.map i X e').step (fun _ _ _ e => e) hμ (fun q hq g' eg => ?_), fun g' p e' => ?_⟩
  · exact h.below.trans ⟨rfl, rfl, rfl, by simp, fun j hj => setRow_other w g j _ (hB.ne hj)⟩
  · intro b o u eu
    have hb : b ≠ g := by rintro rfl; rw [hfree] at eu; cases eu
    have := h.imm b o u eu
    simp only [World.cell?] at this ⊢
    rw [setRow_other w g b _ hb]; exact this
  · rw [getD_put _ _ _ _ hd']
    simp only [upd_if]
    by_cases ht : t = d
    · simp only [if_pos ht]
      exact .msl id 0 m k _ cap (fun _ => ⟨g, by simp [upd_if], rfl⟩) hroom hcap
    · simp only [if_neg ht]
      by_cases hts : t = s
      · subst hts; simp only [if_true]; exact ((h.tmps t).mono (fun _ _ _ e => e) hμ).bare
      · simp only [if_neg hts]; exact (h.tmps t).mono (fun _ _ _ e => e) hμ
  · rw [getD_put _ _ _ _ hd']
    simp only [upd_if] at et
    by_cases ht : t = d
    · simp only [if_pos ht] at et; cases et
    · simp only [if_neg ht] at et ⊢
      by_cases hts : t = s
      · simp only [if_pos hts] at et
        have := PV.bare_own (σ.t s); rw [et] at this; simp [PV.ownB] at this
      · simp only [if_neg hts] at et
        exact hstep _ _ _ _ _ (by simp [hts]) (h.own t n' k' cs' E' et)
  · by_cases hi : i = id
    · subst hi
      simp only [upd_if, if_true] at eb
      cases eb
      refine ⟨g, _, e, by simp [upd_if], setRow_heap w g cur _ e _ hg, hB, by simp [upd_if], hfree, by simp; omega, fun j c hc => ?_⟩
      obtain ⟨u, hu, hru⟩ := hn.get hc
      refine ⟨u, ?_, hone u (mem_of_get hu), hru.mono (fun _ _ _ e => e) hμ, fun n k cs E e' => ?_⟩
      · rw [List.getElem?_toArray, List.getElem?_append_left (List.getElem?_eq_some_iff.1 hu).1]; exact hu
      · have := hno c (mem_of_get hc)
        rw [e'] at this; simp [PV.ownB] at this
    · simp only [upd_if, if_neg hi] at eb
      obtain ⟨g2, cur', Ty, h1, h2', h3, h4, h5, h6, h7⟩ := h.box i bs eb
      have hne : g2 ≠ g := by rintro rfl; rw [hω] at h4; cases h4
      refine ⟨g2, cur', Ty, hμ _ _ h1, by rw [setRow_other w g g2 _ hne]; exact h2', h3, hω' g2 _ h4 (by simp), h5, h6, fun j c hc => ?_⟩
      obtain ⟨u, r1, r2, r3, r4⟩ := h7 j c hc
      exact ⟨u, r1, r2, r3.mono (fun _ _ _ e => e) hμ, fun n k cs E e => hstep _ _ _ _ _ (by simp) (r4 n k cs E e)⟩
  · intro i e' em
    by_cases hi : i = id
    · subst hi; simp [upd_if] at e'
    · simp only [upd_if, if_neg hi] at e' ⊢; exact h.gone i e' em
  · intro g' p eg
    simp only [upd_if] at eg
    split at eg
    · subst g'; simpa using hlt
    · simpa using h.lt g' p eg
  · intro i g' e' hi
    have hne : i ≠ id := by have := h.gmu i g' e'; omega
    simp only [upd_if, if_neg hne] at hi ⊢
    exact h.kmu i g' e' hi
  · have hne : g' ≠ g := by rintro rfl; rw [hω] at eg; cases eg; rcases hq with hq | ⟨j, hq⟩ <;> cases hq
    exact ⟨setRow_other w g g' _ hne, fun j => rfl, hω' g' q eg (by rintro rfl; rcases hq with hq | ⟨j, hq⟩ <;> cases hq)⟩
  · simp only [upd_if] at e'
    split at e'
    · subst g'; exact hB
    · exact h.mine g' p e'

/-- A new block becomes a variable. -/
theorem Rel.freshBox (h : RelG Φ0 W M Φ μ ω σ a w) {s d id : Nat} (hlow : id < 1000000) (hid : σ.b id = none) (hmid : σ.m id = none) (hd : d < M) {m k cap : Nat} {ds : List PV} {news : List Value} {rest : Array Value} (T : TypeId) (hroom : m ≤ cap) (hcap : cap ≤ maxLen) (hn : RepL Φ μ ds news) (hone : ∀ u ∈ news, u.oneCell' = true) (hone2 : ∀ u ∈ rest.toList, u.oneCell' = true) (hno : ∀ c ∈ ds, c.ownB = false) :
    Rel Φ0 W M { t := upd (upd σ.t s (σ.t s).bare) d (.msl id 0 m k), b := upd σ.b id (some ds), m := σ.m } (a.put (some d) (.slice (some ⟨w.heap.size, 0, none⟩) m cap)) (w.drew.alloc (.cells (news.toArray ++ rest) T)) := by
  have h1 := h.drew.newBox hlow hid hmid (bs := ds ++ List.replicate rest.size .undef) (us := news ++ rest.toList) ⟨by simp [hn.1], fun j c u hc hu => by
    by_cases hj : j < ds.length
    · rw [List.getElem?_append_left hj] at hc
      rw [List.getElem?_append_left (by rw [hn.1]; exact hj)] at hu
      exact hn.2 j c u hc hu
    · rw [List.getElem?_append_right (by omega)] at hc
      rw [(List.mem_replicate.1 (List.mem_of_getElem? hc)).2]
      exact .undef _⟩ (fun u hu => by
        rcases List.mem_append.1 hu with hu | hu
        · exact hone u hu
        · exact hone2 u hu) (fun c hc => by
        rcases List.mem_append.1 hc with hc | hc
        · exact hno c hc
        · rw [(List.mem_replicate.1 hc).2]; rfl) T
  have h2 := h1.boxTake (id := id) (cs := ds) (bs := ds ++ List.replicate rest.size .undef) (r := List.replicate rest.size .undef) (by simp [upd_if]) rfl
  have h3 := h2.strip s
  have h4 := h3.put hd (p := .msl id 0 m k) (v := .slice (some ⟨w.heap.size, 0, none⟩) m cap) (.msl id 0 m k _ cap (fun _ => ⟨w.heap.size, by simp [upd_if], rfl⟩) hroom hcap) rfl
  have e : (news ++ rest.toList).toArray = news.toArray ++ rest := by simp
  have e2 : upd (upd σ.b id (some (ds ++ List.replicate rest.size .undef))) id (some ds) = upd σ.b id (some ds) := by
    funext j; simp only [upd_if]; by_cases hj : j = id <;> simp [hj]
  rw [e] at h4
  have : ({ t := upd (upd σ.t s (σ.t s).bare) d (.msl id 0 m k), b := upd σ.b id (some ds), m := σ.m } : PS) = PS.put { σ with t := upd σ.t s (σ.t s).bare, b := upd (upd σ.b id (some (ds ++ List.replicate rest.size .undef))) id (some ds) } d (.msl id 0 m k) := by
    rw [e2]; rfl
  rw [this]
  exact ⟨_, _, _, h4⟩

/-- An append to nothing. -/
theorem appN_does (hT : T = tabOf P) (h : RelG Φ0 W M Φ μ ω σ a w) (o : Oper) {d s id : Nat} (hlow : id < 1000000) (hid : σ.b id = none) (hmid : σ.m id = none) (hd : o.dst = some d) (hM : d < M) {x : Operand} {t : TypeId} (hop : o.op = .call { callee := .builtin .append, args := #[.tmp s, x], argTypes := #[t, t] })
    {ti : TyI} (ht : T.at t = some ti) {m e k by_ : Nat} {ds zr : List PV} {own : Option TypeId} (hk : ti.kind = .slice e k by_ zr) (hs : σ.t s = .nilsl ∨ σ.t s = .sl 0 k [] (some e)) (he : e < 1000000) (hx : pev σ x = .sl m k ds own) (c1 : m * by_ ≤ 140737488355328) (c2 : m ≤ 140737488355328) (h0 : 0 < m) (c3 : ds.all PV.one = true) (hno : ∀ c ∈ ds, c.ownB = false) :
    Does P Φ0 W M a w o { t := upd (upd σ.t s (σ.t s).bare) d (.msl id 0 m k), b := upd σ.b id (some ds), m := σ.m } := by
  have ht' : tyI P t = some ti := by rw [hT] at ht; exact tab_at rfl ht
  obtain ⟨hu, i, z, e1, e2, e3, e4, e5, e6, e7, -⟩ := slice_get ht' hk
  have hrun : ∀ v' w', (Builtin.append_ #[t, t] o.type #[a.eval (.tmp s), a.eval x]).run P w = .ok v' w' → (execOp a.eval o).run P w = .ok (.value v') w' := by
    intro v' w' hr
    simp only [execOp, hop, resolve, invoke, builtin, Sem.run_bind, Sem.run_pure, Result.andThen_ok, List.map_toArray, List.map_cons, List.map_nil, hr]
  have hml : m ≤ maxLen := by unfold maxLen; omega
  have hxx : ∃ ad cx news, a.eval x = .slice ad m cx ∧ (0 < m → ∃ adr, ad = some adr ∧ ∀ j u, news[j]? = some u → w.cell? (adr.add j) = some u) ∧ RepL Φ μ ds news ∧ (∀ u ∈ news, u.oneCell' = true) ∧ ds.length = m * k := by
    have hxr := h.ev x
    rw [hx] at hxr
    obtain ⟨ad, b, off, cap, us, hv, q1, q2, q3, q4, q5, q6⟩ := hxr.sl_inv
    have hrl := repL_of_us ds us q6
    refine ⟨ad, cap, _, hv, fun hpos => ⟨_, q4 hpos, ?_⟩, hrl, repL_one hrl c3, q3⟩
    intro j u hj
    rw [Addr.add_lit]
    have hjl : j < ds.length := by have := (List.getElem?_eq_some_iff.1 hj).1; simpa using this
    simp [hjl] at hj
    subst hj
    exact h.imm _ _ _ (q5 j hjl)
  obtain ⟨ad, cx, news, hxv, hxa, hxr, hxo, hdl⟩ := hxx
  have hnl : news.length = m * k := by rw [hxr.1, hdl]
  obtain ⟨adr, rfl, hcells⟩ := hxa h0
  have hz : ∀ q, ∀ u ∈ (Builtin.zeroCells z.cells q).toList, u.oneCell' = true := by
    intro q u hu
    have hpos : 0 < z.cells.size := by rw [e5]; exact e6
    simp only [Builtin.zeroCells, Array.toList_map, List.mem_map] at hu
    obtain ⟨j, -, rfl⟩ := hu
    have hj : j % z.cells.size < z.cells.size := Nat.mod_lt _ hpos
    rw [getElem!_pos z.cells _ hj]
    exact e7 _ (Array.getElem_mem_toList hj)
  have nilc : a.eval (.tmp s) = .slice none 0 0 → Does P Φ0 W M a w o { t := upd (upd σ.t s (σ.t s).bare) d (.msl id 0 m k), b := upd σ.b id (some ds), m := σ.m } := by
    intro hs0
    have hr := run_append_nil (P := P) w t o.type e i z hu e1 e2 adr m cx news (by rw [hnl, e3]) hcells (by omega) (by omega) (by rw [e4]; omega)
    refine ⟨_, _, _, hrun _ _ (by rw [hs0, hxv]; exact hr), .inl rfl, ?_⟩
    rw [hd]
    exact Rel.freshBox h hlow hid hmid hM e (grownCap_ge w m 0 e) (grownCap_le_maxLen w m 0 e (by omega)) hxr hxo (hz _) hno
  have grow : ∀ (ad2 : Addr) cap, a.eval (.tmp s) = .slice (some ad2) 0 cap → cap ≤ maxLen → ¬ (m ≤ cap) → Does P Φ0 W M a w o { t := upd (upd σ.t s (σ.t s).bare) d (.msl id 0 m k), b := upd σ.b id (some ds), m := σ.m } := by
    intro ad2 cap hsv hcapm hroom
    have hr := run_append_grow (P := P) w t o.type e i z hu e1 e2 ad2 0 cap [] (by simp) (fun j u hj => by simp at hj) adr m cx news (by rw [hnl, e3]) hcells (by omega) (by omega) (growslice_fits (by omega) (by rw [e4, Nat.zero_add]; exact c1))
    refine ⟨_, _, _, hrun _ _ (by rw [hsv, hxv]; exact hr), .inl rfl, ?_⟩
    rw [hd]
    have := Rel.freshBox h (s := s) hlow hid hmid hM (k := k) (rest := Builtin.zeroCells z.cells (grownCap w (0 + m) cap e - (0 + m))) e (Nat.le_trans (Nat.le_of_eq (Nat.zero_add m).symm) (grownCap_ge w (0 + m) cap e)) (grownCap_le_maxLen w (0 + m) cap e (by omega)) hxr hxo (hz _) hno
    simpa using this
  rcases hs with hs | hs
  · have := h.tmps s
    rw [hs] at this
    exact nilc this.nilsl_inv
  · rcases h.own s 0 k [] e hs with ⟨hnil, -⟩ | ⟨g, cap, cur, hv, hB, hg, q1, q2, q3, q4, q5⟩ | ⟨hfull, -⟩
    · exact nilc hnil
    · have hsv : a.eval (.tmp s) = .slice (some ⟨g, 0, none⟩) 0 cap := hv
      by_cases hroom : m ≤ cap
      · have hfit : 0 * i.size + news.length ≤ cur.size := by rw [hnl, q3, Nat.zero_mul, Nat.zero_add]; exact Nat.mul_le_mul_right _ hroom
        have hr := run_append_room (P := P) w t o.type e i hu e1 g 0 cap cur hg adr m cx news (by rw [hnl, e3]) hcells hxo (by omega) hfit
        refine ⟨_, _, _, hrun _ _ (by rw [hsv, hxv]; exact hr), .inl rfl, ?_⟩
        rw [hd]
        have := h.appendBox (s := s) hlow hid hmid hM hg hroom q3 q4 (fun j => q5.2 j (by rw [Nat.zero_mul]; omega)) hB q2 hdl hxr hxo hno
        simpa using this
      · exact grow _ cap hsv q2 hroom
    · exact absurd hfull (Nat.not_le.2 he)
end

section
variable {P : Program} {T : Tab} {σ : PS} {o : Oper} {i base : Nat} {ops : Array Oper} {ok : Nat → Nat → Bool} {rest : List (Nat × Oper)} {K : PS → Prop}
/-- string(b) of bytes that are a variable's. -/
theorem PWops.strM {d n e kk by_ id o' : Nat} {zr bs : List PV} {l : List Int} {s : ByteArray} {x : Operand} {ts td : TypeId} {si di ei : TyI} (hg : pguard ops σ o = some true) (hd : o.dst = some d) (hop : o.op = .convert ts td x) (hx : pev σ x = .msl id o' n 1) (hbs : (σ.only (ok i)).b id = some bs) (hs : T.at ts = some si) (ht : T.at td = some di) (hk1 : si.kind = .slice e kk by_ zr) (hk2 : di.kind = .str) (he : T.at e = some ei) (hke : ei.kind = .int .u8) (htd : Nat.beq td strT = true) (hb : σ.freeB (base + i) = true)
    (hle : o' + n ≤ bs.length) (hl : ((bs.drop o').take n).map PV.bare = l.map pbyte) (hr : strI l = s) (kn : PWops P T ops base ok rest K (σ.put d (pstr s))) : PWops P T ops base ok ((i, o) :: rest) K σ := by
  refine PWops.stepM hg (E := ⟨.val (.string (strI l)), [], none, []⟩) ?_ hb (by rw [hd, hr]; exact kn)
  have hl' : bytesOf (((bs.drop o').take n).map PV.bare) = some l := by rw [hl]; exact bytesOf_map l
  simp only [hop, presM, htd, if_true, hs, ht, pev_only, hx, pstrM, hk1, hk2, he, hbs, hke, hle, and_self, hl', Option.map_some]
/-- append([]T{}, l...) as a variable that may be written to. -/
theorem PWops.appN {d s m k e by_ : Nat} {ds zr : List PV} {own : Option TypeId} {x : Operand} {t : TypeId} {sz : Nat} {ag : Bool} {zz : List PV} {es : List SK} (hT : T = tabOf P) (hg : pguard ops σ o = some true) (hok : ∀ j id, ok j id = true) (hd : o.dst = some d) (hop : o.op = .call { callee := .builtin .append, args := #[.tmp s, x], argTypes := #[t, t] })
    (hs : σ.t s = .nilsl ∨ σ.t s = .sl 0 k [] (some e)) (hx : pev σ x = .sl m k ds own) (ht : T.at t = some ⟨sz, ag, .slice e k by_ zr, zz, es⟩) (hb : σ.freeB (base + i) = true) (hlow : Nat.blt (base + i) 1000000 = true) (he : Nat.blt e 1000000 = true) (h1 : m * by_ ≤ 140737488355328) (h2 : m ≤ 140737488355328) (h0 : 0 < m) (hone : ds.all PV.one = true) (hno : ds.all (fun c => !c.ownB) = true)
    (kn : PWops P T ops base ok rest K (((σ.put s (σ.t s).bare).setb (base + i) ds).put d (.msl (base + i) 0 m k))) : PWops P T ops base ok ((i, o) :: rest) K σ := by
  refine PWops.sem (E := ⟨.msl (base + i) 0 m k, [(base + i, ds)], some s, []⟩) hg hok ?_ (by rw [hd]; exact kn)
  intro Φ0 W M a w hM hrel
  obtain ⟨Φ, μ, ω, hr⟩ := hrel
  obtain ⟨q1, q2⟩ := PS.freeB_spec hb
  have := appN_does hT hr o (id := base + i) (by simpa [Nat.blt_eq] using hlow) q1 q2 hd (hM d hd) hop ht rfl hs (by simpa [Nat.blt_eq] using he) hx h1 h2 h0 hone (fun c hc => by simpa using List.all_eq_true.1 hno c hc)
  rw [hd]
  exact this
end
end Go.Proofs.Ytilcpcpmkklobaa

/- Pure states: contracts at other numbers, put together. -/
namespace Go.Proofs.Ytilcpcpmkklobaa
set_option linter.unusedSimpArgs false
set_option linter.unusedVariables false
set_option linter.unnecessarySimpa false
open Go.RowKit

/-- Numbers put otherwise, by a list. -/
def renN : List (Nat × Nat) → Nat → Nat
  | [], i => i
  | (a, b) :: l, i => cond (Nat.beq i a) b (renN l i)
theorem renN_mem : ∀ {l : List (Nat × Nat)} {i : Nat}, i ∈ l.map (·.1) → (i, renN l i) ∈ l
  | [], i, h => by simp at h
  | (a, b) :: l, i, h => by
    unfold renN
    cases e : Nat.beq i a with
    | true =>
      have e' := Nat.eq_of_beq_eq_true e
      subst e'; exact List.mem_cons_self ..
    | false =>
      refine List.mem_cons_of_mem _ (renN_mem ?_)
      rcases List.mem_cons.1 h with rfl | h
      · rw [Nat.beq_refl] at e; cases e
      · exact h
theorem renN_inj {l : List (Nat × Nat)} (h2 : (l.map (·.2)).Nodup) : ∀ i ∈ l.map (·.1), ∀ j ∈ l.map (·.1), renN l i = renN l j → i = j := by
  intro i hi j hj e
  have h3 := renN_mem hi
  have h4 := renN_mem hj
  rw [e] at h3
  have key : ∀ {l : List (Nat × Nat)} {a b c : Nat}, (l.map (·.2)).Nodup → (a, c) ∈ l → (b, c) ∈ l → a = b := by
    intro l
    induction l with
    | nil => intro a b c _ h; simp at h
    | cons x l ih =>
      intro a b c hn ha hb
      simp only [List.map_cons, List.nodup_cons] at hn
      rcases List.mem_cons.1 ha with ha | ha <;> rcases List.mem_cons.1 hb with hb | hb
      · rw [← ha] at hb; cases hb; rfl
      · exact absurd (List.mem_map.2 ⟨_, hb, by rw [← ha]⟩) hn.1
      · exact absurd (List.mem_map.2 ⟨_, ha, by rw [← hb]⟩) hn.1
      · exact ih hn.2 ha hb
  exact key h2 h3 h4

section
variable {S : Nat → Prop}
theorem li_nil : ∀ p ∈ ([] : List PV), LowI S p := by simp
theorem li_cons {p : PV} {ps : List PV} (h : LowI S p) (hs : ∀ q ∈ ps, LowI S q) : ∀ q ∈ p :: ps, LowI S q := by
  intro q hq
  rcases List.mem_cons.1 hq with rfl | hq
  · exact h
  · exact hs q hq
theorem li_low {ps : List PV} (h : ∀ p ∈ ps, Low p) : ∀ p ∈ ps, LowI S p := fun p hp => (h p hp).lowI
theorem lb_nil : ∀ x ∈ ([] : List (Nat × List PV)), ∀ p ∈ x.2, LowI S p := by simp
theorem lb_cons {i : Nat} {bs : List PV} {l : List (Nat × List PV)} (h : ∀ p ∈ bs, LowI S p) (hs : ∀ x ∈ l, ∀ p ∈ x.2, LowI S p) : ∀ x ∈ (i, bs) :: l, ∀ p ∈ x.2, LowI S p := by
  intro x hx
  rcases List.mem_cons.1 hx with rfl | hx
  · exact h
  · exact hs x hx
theorem lm_nil : ∀ x ∈ ([] : List (Nat × PMap)), LowM S x.2 := by simp
theorem lm_cons {i : Nat} {es : List (Nat × PV × PV)} {c : Nat} {l : List (Nat × PMap)} (h : ∀ e ∈ es, Low e.2.1 ∧ Low e.2.2) (hs : ∀ x ∈ l, LowM S x.2) : ∀ x ∈ (i, PMap.map es c) :: l, LowM S x.2 := by
  intro x hx
  rcases List.mem_cons.1 hx with rfl | hx
  · exact fun e he => ⟨(h e he).1.lowI, (h e he).2.lowI⟩
  · exact hs x hx
end
section
variable {ρ : Nat → Nat} {S : Nat → Prop} {ps qs : List PV}
theorem ren_agg (h : RenL ρ S ps qs) : Ren ρ S (.agg ps) (.agg qs) := .agg _ _ h.1 h.2
theorem ren_fn {f : FuncId} (h : RenL ρ S ps qs) : Ren ρ S (.fn f ps) (.fn f qs) := .fn _ _ _ h.1 h.2
theorem ren_sl {n k : Nat} (h : RenL ρ S ps qs) : Ren ρ S (.sl n k ps none) (.sl n k qs none) := .sl _ _ _ _ h.1 h.2
end
/-- A contract at other numbers. -/
theorem HCalls.at {P : Program} {f : FuncId} {args args' : List PV} {given given' res res' : List (Nat × List PV)} {gm gm' rm rm' : List (Nat × PMap)} {r r' : PV} (h : HCalls P f args given gm r res rm) (L : List (Nat × Nat)) (hd : (L.map (·.2)).Nodup) (hs : ∀ i ∈ ResIds res rm, i ∈ L.map (·.1)) (hs1 : ∀ i ∈ given.map (·.1), i ∈ res.map (·.1)) (hs2 : ∀ i ∈ gm.map (·.1), i ∈ rm.map (·.1))
    (ha : RenL (renN L) (fun i => i ∈ ResIds given gm) args args') (hg : RenB (renN L) (fun i => i ∈ ResIds given gm) given given') (hm : RenMs (renN L) (fun i => i ∈ ResIds given gm) gm gm')
    (hr : Ren (renN L) (fun i => i ∈ ResIds res rm) r r') (hres : RenB (renN L) (fun i => i ∈ ResIds res rm) res res') (hrm : RenMs (renN L) (fun i => i ∈ ResIds res rm) rm rm') : HCalls P f args' given' gm' r' res' rm' :=
  h.ren (renN L) hs1 hs2 (fun i hi j hj e => renN_inj hd i (hs i hi) j (hs j hj) e) ha hg hm hr hres hrm
end Go.Proofs.Ytilcpcpmkklobaa

/- law22: written, as a walk. -/
namespace Go.Proofs.Ytilcpcpmkklobaa
set_option linter.unusedSimpArgs false
set_option linter.unusedVariables false
set_option linter.unnecessarySimpa false
open Go.RowKit

/-- A call of the law's arguments. -/
structure ROp where
  kind : Int
  a : Int
  b : Int
instance : Inhabited ROp := ⟨⟨0, 0, 0⟩⟩
def ropL (x : ROp) : List PV := [pint x.kind, pint x.a, pint x.b]
def props (l : List ROp) : PV := .sl l.length 3 (l.flatMap ropL) none
theorem ropL_low (x : ROp) : ∀ c ∈ ropL x, Low c := by
  intro c hc; simp [ropL] at hc; rcases hc with rfl | rfl | rfl <;> exact .val _
theorem low_props (l : List ROp) : Low (props l) := .sl _ _ _ _ (flat_low ropL_low l)
theorem ropL_len (x : ROp) : (ropL x).length = 3 := rfl

/-- The open writes of a sector: one's own, and not. -/
def oC (l : List Sec) : PV := if l = [] then .nilsl else psecs l (some 33)
def oB (l : List Sec) : PV := if l = [] then .nilsl else psecs l none
theorem oC_bare (l : List Sec) : (oC l).bare = oB l := by unfold oC oB; split <;> rfl
theorem oB_nil {l : List Sec} (h : l = []) : oB l = .nilsl := if_pos h
theorem oB_ne {l : List Sec} (h : l ≠ []) : oB l = psecs l none := if_neg h
theorem oB_own (l : List Sec) : (oB l).ownB = false := by unfold oB; split <;> rfl
theorem oB_low (l : List Sec) : Low (oB l) := by unfold oB; split; exact .nilsl; exact psecs_low _ _
theorem oC_low (l : List Sec) : Low (oC l) := by unfold oC; split; exact .nilsl; exact psecs_low _ _

theorem setb_self {σ : PS} {id : Nat} {bs : List PV} (h : σ.b id = some bs) : σ.setb id bs = σ := by
  unfold PS.setb
  congr 1
  funext j
  rw [upd_if]
  split
  · rename_i e; rw [e, h]
  · rfl

section
variable {P : Program} {T : Tab} {σ : PS} {o : Oper} {i base : Nat} {ops : Array Oper} {ok : Nat → Nat → Bool} {rest : List (Nat × Oper)} {K : PS → Prop}
theorem only_b {σ : PS} {f : Nat → Bool} {id : Nat} {bs : List PV} (h : (σ.only f).b id = some bs) : σ.b id = some bs := by
  simp only [PS.only] at h
  split at h
  · exact h
  · cases h
/-- A load of the open writes, to be appended to. -/
theorem PWops.ldOC {d id off : Nat} {L : List (List Sec)} {x : Operand} {t : TypeId} {ti : TyI} (hg : pguard ops σ o = some true) (hd : o.dst = some d) (hop : o.op = .load t x) (hx : pev σ x = .ptr id off) (ht : T.at t = some ti) (ha : ti.agg = false) (hh : headB ops o.dst = true) (hb : σ.freeB (base + i) = true) (hbs : (σ.only (ok i)).b id = some (L.map oC)) (hl : off < L.length)
    (kn : PWops P T ops base ok rest K ((σ.setb id ((L.map oC).set off (oB (L.getD off default)))).put d (oC (L.getD off default)))) : PWops P T ops base ok ((i, o) :: rest) K σ := by
  have hc : (L.map oC)[off]? = some (oC (L.getD off default)) := by
    rw [List.getElem?_map, List.getElem?_eq_getElem hl, List.getD_eq_getElem?_getD, List.getElem?_eq_getElem hl]; rfl
  generalize L.getD off default = l at *
  by_cases hz : l = []
  · subst hz
    have e1 : (L.map oC).set off (oB []) = L.map oC := by
      refine List.ext_getElem? fun j => ?_
      rw [List.getElem?_set]
      split
      · rename_i e
        subst e
        rw [hc]
        split
        · rfl
        · rename_i h; exact (h (by rw [List.length_map]; exact hl)).elim
      · rfl
    rw [e1, setb_self (only_b hbs)] at kn
    exact PWops.ldB hg hd hop hx ht ha hb hbs hc rfl kn
  · have e2 : oC l = .sl l.length 64 (l.flatMap secL) (some 33) := if_neg hz
    refine PWops.step hg (E := ⟨oC l, [(id, (L.map oC).set off (oB l))], none, []⟩) ?_ hb (by rw [hd]; exact kn)
    rw [e2] at hc ⊢
    simp only [hop, presE, pev_only, hx, hh, ploadO, hbs, hc, ht, ha, if_true]
    rw [oB_ne hz]; rfl
/-- One more. -/
theorem PWops.appOC {d s by_ : Nat} {l : List Sec} {v : Sec} {own : Option TypeId} {zr : List PV} {x : Operand} {t : TypeId} {sz : Nat} {ag : Bool} {zz : List PV} {es : List SK} (hg : pguard ops σ o = some true) (hd : o.dst = some d) (hop : o.op = .call { callee := .builtin .append, args := #[.tmp s, x], argTypes := #[t, t] }) (hs : σ.t s = oC l) (hx : pev σ x = .sl 1 64 (secL v) own) (ht : T.at t = some ⟨sz, ag, .slice 33 64 by_ zr, zz, es⟩) (hb : σ.freeB (base + i) = true)
    (h1 : (l.length + 1) * by_ ≤ 140737488355328) (h2 : l.length + 1 ≤ 140737488355328) (kn : PWops P T ops base ok rest K ((σ.put s (oB l)).put d (oC (l ++ [v])))) : PWops P T ops base ok ((i, o) :: rest) K σ := by
  have e3 : oC (l ++ [v]) = .sl (l.length + 1) 64 (l.flatMap secL ++ secL v) (some 33) := by
    rw [oC, if_neg (by simp), psecs, List.length_append, List.flatMap_append]
    simp
  rw [e3] at kn
  by_cases hz : l = []
  · subst hz
    exact PWops.app0 hg hd hop hs hx ht hb rfl (by simpa using h1) (by simpa using h2) (secL_one v) kn
  · have e2 : oC l = .sl l.length 64 (l.flatMap secL) (some 33) := if_neg hz
    rw [e2] at hs
    rw [oB_ne hz] at kn
    exact PWops.app hg hd hop hs hx ht hb rfl h1 h2 (secL_one v) kn
/-- It is stored. -/
theorem PWops.stOC {id off s : Nat} {L : List (List Sec)} {l l' : List Sec} {x : Operand} {t : TypeId} {ti : TyI} (hg : pguard ops σ o = some true) (hd : o.dst = none) (hop : o.op = .store t x (.tmp s)) (hx : pev σ x = .ptr id off) (hs : σ.t s = oC l) (hne : l ≠ []) (ht : T.at t = some ti) (hsz : ti.size = 1) (hb : σ.freeB (base + i) = true) (hbs : (σ.only (ok i)).b id = some ((L.map oC).set off (oB l'))) (hl : off < L.length)
    (kn : PWops P T ops base ok rest K ((σ.put s (oB l)).setb id ((L.set off l).map oC))) : PWops P T ops base ok ((i, o) :: rest) K σ := by
  have e2 : oC l = .sl l.length 64 (l.flatMap secL) (some 33) := if_neg hne
  have hown : (oC l).ownB = true := by rw [e2]; rfl
  have how : ownPV (σ.only (ok i)) (.tmp s) = oC l := hs
  refine PWops.step hg (E := ⟨.tup [], [(id, (L.set off l).map oC)], some s, []⟩) ?_ hb ?_
  · have h1 : off + 1 ≤ ((L.map oC).set off (oB l')).length := by simp; omega
    simp only [hop, presE, pev_only, hx, how, hown, if_true, hbs, ht, hsz, h1, and_self, disOf, List.set_set, List.map_set]
  · rw [hd]
    simp only [PS.app, hs, oC_bare]
    exact kn
/-- The open writes of a sector are looked at. -/
theorem PWops.ldOB {d id off : Nat} {L : List (List Sec)} {x : Operand} {t : TypeId} {ti : TyI} (hg : pguard ops σ o = some true) (hd : o.dst = some d) (hop : o.op = .load t x) (hx : pev σ x = .ptr id off) (ht : T.at t = some ti) (ha : ti.agg = false) (hh : headB ops o.dst = false) (hb : σ.freeB (base + i) = true) (hbs : (σ.only (ok i)).b id = some (L.map oC)) (hl : off < L.length)
    (kn : PWops P T ops base ok rest K (σ.put d (oB (L.getD off default)))) : PWops P T ops base ok ((i, o) :: rest) K σ := by
  have hc : (L.map oC)[off]? = some (oC (L.getD off default)) := by
    rw [List.getElem?_map, List.getElem?_eq_getElem hl, List.getD_eq_getElem?_getD, List.getElem?_eq_getElem hl]; rfl
  refine PWops.valEq hg hd (p := oB (L.getD off default)) ?_ rfl hb kn
  simp only [hop, presE, pev_only, hx, hh, ploadO, Bool.false_eq_true, if_false, pvalA, pval, ht, ploadAt, hbs, asVal, ha, hc, Option.map_some, oC_bare]
end

/-- What the writes come to: the disk, what is durable, the open writes. -/
structure WS where
  D : DM
  sure : List Sec
  op : List (List Sec)
def syN (sure : List Sec) (op : List (List Sec)) : Nat → List Sec × List (List Sec)
  | 0 => (sure, op)
  | i + 1 => if (syN sure op i).2.getD i default = [] then syN sure op i else ((syN sure op i).1.set i (lastS ((syN sure op i).2.getD i default)), (syN sure op i).2.set i [])
def kAt (a : Int) : Nat := (a % 16).toNat
def putW (s : WS) (x : ROp) : WS := ⟨(s.D.write (kAt x.a) (fillB x.b)).2, s.sure, s.op.set (kAt x.a) (s.op.getD (kAt x.a) default ++ [fillB x.b])⟩
def synW (s : WS) : WS := ⟨s.D.sync.2, (syN s.sure s.op 16).1, (syN s.sure s.op 16).2⟩
def wr (sy : Int) (l : List ROp) : Nat → WS
  | 0 => ⟨newD 16, List.replicate 16 zeroSec, List.replicate 16 []⟩
  | n + 1 => if (n : Int) + 1 = sy then synW (putW (wr sy l n) (l.getD n default)) else putW (wr sy l n) (l.getD n default)

/-- What is known of a disk with writes. -/
structure WOk (k : Nat) (s : WS) : Prop where
  ok : OkD 16 k s.D
  sl : s.sure.length = 16
  ol : s.op.length = 16
  get : ∀ q : Nat, q < 16 → s.D.get q = s.op.getD q default
  cell : ∀ q : Nat, q < 16 → s.D.cell q = ⟨s.sure.getD q default, false⟩
theorem WOk.mono {k k' : Nat} {s : WS} (h : WOk k s) (hk : k ≤ k') : WOk k' s := ⟨h.ok.mono hk, h.sl, h.ol, h.get, h.cell⟩
theorem kAt_lt (a : Int) : kAt a < 16 := by unfold kAt; omega
theorem gset {α : Type} {l : List α} {i j : Nat} {v d : α} (hi : i < l.length) : (l.set i v).getD j d = if j = i then v else l.getD j d := by
  simp only [List.getD_eq_getElem?_getD, List.getElem?_set]
  by_cases h : i = j
  · subst h; simp [hi]
  · rw [if_neg h, if_neg (fun e => h e.symm)]
theorem WOk.wr {k : Nat} {s : WS} (h : WOk k s) (hk : k < 1000000000) (x : ROp) : s.D.write (kAt x.a) (fillB x.b) = (0, (putW s x).D) ∧ WOk (k + 1) (putW s x) := by
  have hl := kAt_lt x.a
  have hw := h.ok.write (i := (kAt x.a : Nat)) (by omega) (by omega) hk (fillB x.b)
  have e : s.D.write (kAt x.a) (fillB x.b) = (0, addW { s.D with steps := s.D.steps + 1 } (kAt x.a) (fillB x.b)) := by
    rw [DM.write, if_pos (h.ok.check0 (by omega) (by omega)), h.ok.step]; rfl
  have hs : OkD 16 (k + 1) { s.D with steps := s.D.steps + 1 } := ⟨h.ok.dead, h.ok.after, h.ok.len, by have := h.ok.steps; simp only; omega, h.ok.op, fun e he => by have := h.ok.room e he; omega⟩
  have hD : (putW s x).D = addW { s.D with steps := s.D.steps + 1 } (kAt x.a) (fillB x.b) := by show (s.D.write (kAt x.a) (fillB x.b)).2 = _; rw [e]
  refine ⟨by rw [hD, e], hw.2.1, h.sl, by simp [putW, h.ol], fun q hq => ?_, fun q hq => ?_⟩
  · rw [hD, get_addW hs]
    show (if (q : Int) = (kAt x.a : Nat) then s.D.get (kAt x.a) ++ [fillB x.b] else s.D.get q) = (s.op.set (kAt x.a) (s.op.getD (kAt x.a) default ++ [fillB x.b])).getD q default
    rw [gset (by rw [h.ol]; exact hl), h.get q hq, h.get _ hl]
    by_cases c : q = kAt x.a
    · rw [if_pos (by omega), if_pos c]
    · rw [if_neg (by omega), if_neg c]
  · rw [hD]
    have := (addW_cells { s.D with steps := s.D.steps + 1 } (kAt x.a) (fillB x.b)).1
    unfold DM.cell
    rw [this]
    exact h.cell q hq
theorem opFind_get {n k : Nat} {D : DM} (h : OkD n k D) (q : Int) : opFind q D.op = if D.get q = [] then none else some (D.get q) := by
  rw [get_find]
  cases hf : opFind q D.op with
  | none => simp
  | some l =>
    have hl : 0 < l.length := by
      rw [opFind_idx D.op 0] at hf
      cases hj : opIdx q D.op 0 with
      | none => rw [hj] at hf; cases hf
      | some j =>
        rw [hj] at hf
        obtain ⟨-, h2, s', v, h3⟩ := opIdx_lt hj
        simp only [Nat.sub_zero, List.getD_eq_getElem?_getD] at h3 hf
        rw [h3] at hf
        simp at hf
        subst hf
        exact (h.op.2 _ (List.mem_of_getElem? h3)).2.2.1
    have : l ≠ [] := List.length_pos_iff.1 hl
    simp [this]
theorem sync_cell {n k : Nat} {D : DM} (h : OkD n k D) (hn : 0 < n) {q : Nat} (hq : q < n) : D.sync.2.cell q = if D.get q = [] then D.cell q else ⟨lastS (D.get q), false⟩ := by
  rw [h.sync hn]
  unfold DM.cell synced
  have hl : q < D.cells.length := by rw [h.len]; omega
  simp only [Int.toNat_natCast, List.getD_eq_getElem?_getD, List.getElem?_map, List.getElem?_range hl, Option.map_some, Option.getD_some]
  rw [opFind_get h]
  by_cases c : D.get (q : Int) = [] <;> simp [c]
theorem syN_len (sure : List Sec) (op : List (List Sec)) : ∀ i, (syN sure op i).1.length = sure.length ∧ (syN sure op i).2.length = op.length
  | 0 => ⟨rfl, rfl⟩
  | i + 1 => by
    unfold syN
    have := syN_len sure op i
    split
    · exact this
    · simp only [List.length_set]; exact this
theorem syN_get {sure : List Sec} {op : List (List Sec)} (h1 : sure.length = 16) (h2 : op.length = 16) : ∀ {i : Nat}, i ≤ 16 → ∀ q, q < 16 → (syN sure op i).2.getD q default = (if q < i then [] else op.getD q default) ∧ (syN sure op i).1.getD q default = if q < i ∧ op.getD q default ≠ [] then lastS (op.getD q default) else sure.getD q default
  | 0, _, q, hq => ⟨rfl, by rw [if_neg (by omega)]; rfl⟩
  | i + 1, hi, q, hq => by
    obtain ⟨a1, a2⟩ := syN_get (i := i) h1 h2 (by omega) q hq
    obtain ⟨b1, -⟩ := syN_get (i := i) h1 h2 (by omega) i (by omega)
    obtain ⟨l1, l2⟩ := syN_len sure op i
    rw [if_neg (by omega)] at b1
    unfold syN
    rw [b1]
    by_cases c : op.getD i default = []
    · rw [if_pos c, a1, a2]
      by_cases e : q = i
      · subst e
        refine ⟨?_, ?_⟩
        · rw [if_neg (Nat.lt_irrefl q), if_pos (Nat.lt_succ_self q)]; exact c
        · rw [if_neg (fun h => Nat.lt_irrefl q h.1), if_neg (fun h => h.2 c)]
      · by_cases e2 : q < i
        · rw [if_pos e2, if_pos (by omega)]
          refine ⟨rfl, ?_⟩
          by_cases e3 : op.getD q default ≠ []
          · rw [if_pos ⟨e2, e3⟩, if_pos ⟨by omega, e3⟩]
          · rw [if_neg (fun h => e3 h.2), if_neg (fun h => e3 h.2)]
        · rw [if_neg e2, if_neg (by omega), if_neg (fun h => e2 h.1), if_neg (fun h => by omega)]
          exact ⟨rfl, rfl⟩
    · rw [if_neg c]
      simp only
      rw [gset (by omega), gset (by omega), a1, a2]
      by_cases e : q = i
      · subst e
        rw [if_pos rfl, if_pos rfl, if_pos (by omega), if_pos ⟨by omega, c⟩]
        exact ⟨rfl, rfl⟩
      · rw [if_neg e, if_neg e]
        by_cases e2 : q < i
        · rw [if_pos e2, if_pos (by omega)]
          refine ⟨rfl, ?_⟩
          by_cases e3 : op.getD q default ≠ []
          · rw [if_pos ⟨e2, e3⟩, if_pos ⟨by omega, e3⟩]
          · rw [if_neg (fun h => e3 h.2), if_neg (fun h => e3 h.2)]
        · rw [if_neg e2, if_neg (by omega), if_neg (fun h => e2 h.1), if_neg (fun h => by omega)]
          exact ⟨rfl, rfl⟩
theorem WOk.sync {k : Nat} {s : WS} (h : WOk k s) : s.D.sync = (0, (synW s).D) ∧ WOk (k + 1) (synW s) := by
  obtain ⟨s1, s2, s3, s4⟩ := h.ok.sync_ok (by decide)
  obtain ⟨l1, l2⟩ := syN_len s.sure s.op 16
  refine ⟨Prod.ext s1 (by simp only [synW]), by simp only [synW]; exact s2, by simp only [synW]; rw [l1]; exact h.sl, by simp only [synW]; rw [l2]; exact h.ol, fun q hq => ?_, fun q hq => ?_⟩
  · simp only [synW]
    rw [(syN_get h.sl h.ol (Nat.le_refl _) q hq).1, if_pos hq, get_find, s4]; rfl
  · simp only [synW]
    rw [(syN_get h.sl h.ol (Nat.le_refl _) q hq).2, sync_cell h.ok (by decide) hq, h.get q hq]
    by_cases c : s.op.getD q default = []
    · rw [if_pos c, if_neg (fun h => h.2 c), h.cell q hq]
    · rw [if_neg c, if_pos ⟨hq, c⟩]
theorem getD_rep {α : Type} (n q : Nat) (a d : α) (h : q < n) : (List.replicate n a).getD q d = a := by
  rw [List.getD_eq_getElem?_getD, List.getElem?_replicate, if_pos h]; rfl
theorem wr0_ok : WOk 0 ⟨newD 16, List.replicate 16 zeroSec, List.replicate 16 []⟩ := ⟨newD_ok 16, List.length_replicate, List.length_replicate, fun q hq => by
  show (newD 16).get q = (List.replicate 16 ([] : List Sec)).getD q default
  rw [getD_rep _ _ _ _ hq, get_find]; rfl, fun q hq => by
  show (newD 16).cell q = ⟨(List.replicate 16 zeroSec).getD q default, false⟩
  rw [getD_rep _ _ _ _ hq]
  show (List.replicate 16 (⟨zeroSec, false⟩ : DCell)).getD _ default = _
  rw [Int.toNat_natCast, getD_rep _ _ _ _ hq]⟩
theorem wr_ok (sy : Int) (l : List ROp) : ∀ n, n ≤ 1000000 → WOk (2 * n) (wr sy l n)
  | 0, _ => wr0_ok
  | n + 1, hn => by
    have h1 := ((wr_ok sy l n (by omega)).wr (by omega) (l.getD n default)).2
    unfold Go.Proofs.Ytilcpcpmkklobaa.wr
    split
    · exact h1.sync.2.mono (by omega)
    · exact h1.mono (by omega)
theorem row_le {n k : Nat} {D : DM} (h : OkD n k D) (q : Int) : (D.get q).length ≤ k := by
  by_cases c : D.get q = []
  · rw [c]; simp
  · have h1 := opFind_get h q
    rw [if_neg c, opFind_idx D.op 0] at h1
    cases hj : opIdx q D.op 0 with
    | none => rw [hj] at h1; cases h1
    | some j =>
      rw [hj] at h1
      obtain ⟨-, h2, s', v, h3⟩ := opIdx_lt hj
      simp only [Nat.sub_zero, List.getD_eq_getElem?_getD] at h3 h1
      rw [h3] at h1
      simp only [Option.getD_some, Option.some.injEq] at h1
      rw [← h1]
      exact h.room _ (List.mem_of_getElem? h3)
end Go.Proofs.Ytilcpcpmkklobaa

/- Pure states: a variable that will not be written to any more becomes a value; a new slice as a value. -/
namespace Go.Proofs.Ytilcpcpmkklobaa
set_option linter.unusedSimpArgs false
set_option linter.unusedVariables false
set_option linter.unnecessarySimpa false
open Go.RowKit

section
variable {Φ0 : Ent} {W : World} {M : Nat} {Φ : Imm} {μ : Nat → Option Nat} {ω : Nat → Option Who} {σ : PS} {a : Act} {w : World} {P : Program} {T : Tab}

/-- A block of one's own that nobody writes to any more. -/
theorem RelG.still (h : RelG Φ0 W M Φ μ ω σ a w) {g : Nat} {cur : Array Value} {Ty : TypeId} (hg : w.heap[g]? = some (.cells cur Ty (0, 0))) (hB : Mine Φ0 W g) (hω : ω g = none) (hΦ : ∀ j, Φ g j = none) : RelG Φ0 W M (immRow Φ g cur) μ ω σ a w := by
  refine h.grow h.below ?_ ?_ ?_ ?_ (Nat.le_refl _)
  · intro b o u e
    unfold immRow at e
    split at e
    · subst b; simp only [World.cell?, hg]; simpa using e
    · exact h.imm b o u e
  · intro b o hb; unfold immRow; rw [if_neg]; rintro rfl; exact hB.ne hb rfl
  · intro b o u e; unfold immRow; rw [if_neg]
    · exact e
    · rintro rfl; rw [hΦ] at e; cases e
  · intro g' p e
    refine ⟨rfl, fun j => ?_⟩
    unfold immRow; rw [if_neg]; rintro rfl; rw [hω] at e; cases e

/-- A slot is seen otherwise. -/
theorem RelG.see (h : RelG Φ0 W M Φ μ ω σ a w) {s : Nat} {p : PV} (hp : Rep Φ μ p (a.tmps.getD s undef)) (ho : p.ownB = false) : RelG Φ0 W M Φ μ ω (σ.put s p) a w := by
  refine { h with tmps := fun u => ?_, own := fun u n k cs E e => ?_ }
  · by_cases hu : u = s
    · subst hu; simp only [PS.put, upd_if, if_true]; exact hp
    · simp only [PS.put, upd_if, if_neg hu]; exact h.tmps u
  · by_cases hu : u = s
    · subst hu; simp only [PS.put, upd_if, if_true] at e; rw [e] at ho; simp [PV.ownB] at ho
    · simp only [PS.put, upd_if, if_neg hu] at e ⊢; exact h.own u n k cs E e

/-- A variable becomes a value: nothing else in what is kept of the state knows its number. -/
theorem Sub.freeze {σ' : PS} {id s n k : Nat} {cs : List PV} (hb : σ.b id = some cs) (hs : σ.t s = .msl id 0 n k) (hl : cs.length = n * k) (hlow : ∀ c ∈ cs, Low c) (hsub : SubR (fun i => i) (Kn σ') σ σ') (hid : σ'.freeB id = true) : Sub M σ (σ'.put s (.sl n k cs none)) := by
  rintro Φ0 W a w ⟨Φ, μ, ω, hg⟩
  have h1 := hsub.rel (fun i hi => hi.spec) (fun i j _ _ e => e) (fun i _ _ => rfl) hg
  obtain ⟨g, cur, Ty, b1, b2, b3, b4, b5, b6, b7⟩ := hg.box id cs hb
  have hun : unren (fun i => i) (Kn σ') (ω g) = none := by
    rw [b4]
    unfold unren
    split
    · rename_i h2; cases h2
    · split
      · rename_i hh
        obtain ⟨q, ⟨i, hi, hq⟩, e⟩ := hh
        exfalso
        rcases hq with rfl | ⟨j, rfl⟩
        · simp only [renW, Option.some.injEq, Who.box.injEq] at e
          subst e
          rw [Kn, hid] at hi; cases hi
        · simp [renW] at e
      · rfl
  have h2 := h1.still b2 b3 hun b5
  refine ⟨_, _, _, h2.see ?_ rfl⟩
  have hv := hg.tmps s
  rw [hs] at hv
  obtain ⟨ad, cap, hvv, c1, c2, c4⟩ := hv.msl_inv
  rw [hvv]
  rcases Nat.eq_zero_or_pos n with h0 | h0
  · subst h0
    have : cs = [] := List.eq_nil_of_length_eq_zero (by simpa using hl)
    subst this
    exact .sl0 _ _ _ _ (by assumption)
  · obtain ⟨g', hg', rfl⟩ := c4 h0
    rw [b1] at hg'; cases hg'
    refine .sl n k cs none g 0 cap (fun j => cur.getD j undef) hl (by assumption) (by assumption) (fun j hj => ?_) (fun j c hc => ?_)
    · unfold immRow
      rw [if_pos rfl, Nat.zero_add, Array.getD_eq_getD_getElem?]
      rw [Array.getElem?_eq_getElem (by omega)]; rfl
    · obtain ⟨u, r1, r2, r3, -⟩ := b7 j c hc
      rw [Array.getD_eq_getD_getElem?, r1]
      refine Rep.mono (Φ := Φ) (fun b o u e => ?_) (fun _ _ e => e) (r3.low (hlow c (mem_of_get hc)))
      unfold immRow
      rw [if_neg]
      · exact e
      · rintro rfl; rw [b5] at e; cases e
theorem PW.freeze {σ' : PS} {id s n k : Nat} {cs : List PV} {c : Code} {Q : Exit → PS → Prop} (hb : σ.b id = some cs) (hs : σ.t s = .msl id 0 n k) (hl : cs.length = n * k) (hlow : ∀ c ∈ cs, Low c) (hsub : SubR (fun i => i) (Kn σ') σ σ') (hid : σ'.freeB id = true) (h : PW P M c Q (σ'.put s (.sl n k cs none))) : PW P M c Q σ :=
  h.sub (Sub.freeze hb hs hl hlow hsub hid)

/-- A new slice, as a value. -/
theorem mkI_does (hT : T = tabOf P) (h : RelG Φ0 W M Φ μ ω σ a w) (o : Oper) {d : Nat} (hd : o.dst = some d) (hM : d < M) {t : TypeId} {l c : Operand} (hop : o.op = .makeSlice t l c) {ti : TyI} (ht : T.at t = some ti) {e k by_ : Nat} {zr out : List PV} (hk : ti.kind = .slice e k by_ zr) {kx ky : IntKind} {x : Int} (hx : pev σ l = .val (.int kx x)) (hy : pev σ c = .val (.int ky x)) (hc : 0 ≤ x ∧ (by_ : Int) * x ≤ 281474976710656 ∧ x ≤ 9223372036854775807) (he : e < 1000000) (hout : (List.replicate x.toNat zr).flatten = out) :
    Does P Φ0 W M a w o (σ.put d (.sl x.toNat k out (some e))) := by
  obtain ⟨c1, c3, c4⟩ := hc
  obtain ⟨hu, i, z, e1, e2, e3, e4, e5, e6, e7, e8⟩ := slice_get (tab_at hT ht) hk
  subst e8
  have hzr := zero_rows (Φ := Φ) (μ := μ) (len := x.toNat) (z := z.cells) e5 e6 (repL_pv0 _) e7 (by intro c hc; obtain ⟨v, -, rfl⟩ := List.mem_map.1 hc; exact pv0_own v)
  rw [hout] at hzr
  have hcs : ((Array.range (x.toNat * k)).map (fun i => z.cells[i % z.cells.size]!)).size = x.toNat * k := by simp
  have hmax : x.toNat ≤ maxLen := by unfold maxLen; omega
  obtain ⟨Φ', ω', h2, -⟩ := h.newOwn (d := d) hM (N := x.toNat) (k := k) (cap := x.toNat) (L := out) (cur := (Array.range (x.toNat * k)).map (fun i => z.cells[i % z.cells.size]!)) (e := e) (by rw [← hzr.1.1]; simp) (by rw [List.take_of_length_le (by simp)]; exact hzr.1) (Nat.le_refl _) hmax hcs he
  refine ⟨_, .slice (some ⟨w.heap.size, 0, none⟩) x.toNat x.toNat, w.alloc (.cells ((Array.range (x.toNat * k)).map (fun i => z.cells[i % z.cells.size]!)) e), ?_, .inl rfl, Φ', μ, ω', by rw [hd]; exact h2⟩
  have hxr := h.ev l
  rw [hx] at hxr
  obtain ⟨hxv, -⟩ := hxr.val_inv
  have hyr := h.ev c
  rw [hy] at hyr
  obtain ⟨hyv, -⟩ := hyr.val_inv
  have w1 : IntKind.i64.wrap x = x := IntWalk.i64_in x ⟨by omega, by omega⟩
  have n1 : ¬ x < 0 := by omega
  have p48 : (2 : Int) ^ 48 = 281474976710656 := by decide
  have n2 : ¬ ((2 : Int) ^ 48 < (i.bytes : Int) * x) := by rw [e4, p48]; omega
  simp only [execOp, hop, hxv, hyv, Instr.makeSlice, Sem.run_bind, run_underlying hu, Result.andThen_ok, asInt, asIntOf, typeInfo, run_program, e1, Sem.run_pure, w1]
  have n3 : ¬ x > x := by omega
  simp only [n1, decide_false, Bool.false_or, n2, gt_iff_lt, Bool.or_self, Int.lt_irrefl, if_false, Bool.false_eq_true, run_askRoom, Result.andThen_ok, run_size e1, e3, zeroValue, typeInfo, run_program, e1, e2]
  by_cases hz0 : x.toNat * k = 0
  · have hr1 : (Array.map (fun (_ : Nat) => (default : Value)) (Array.range 0)) = #[] := by simp
    simp [hz0, newRow, run_size e1, e3]
    have hr2 : (Array.map (fun i => z.cells[i % z.cells.size]!) (Array.range 0)) = #[] := by simp
    rw [hr1, hr2]
  · simp only [hz0, if_false, Sem.run_bind, run_size e1, e3, zeroValue, typeInfo, run_program, Result.andThen_ok, e1, e2, Sem.run_pure, run_askRoom]
    rfl
end
section
variable {P : Program} {T : Tab} {σ : PS} {o : Oper} {i base : Nat} {ops : Array Oper} {ok : Nat → Nat → Bool} {rest : List (Nat × Oper)} {K : PS → Prop}
/-- make([]T, n) as a value of one's own. -/
theorem PWops.mkI {d e k by_ : Nat} {x : Int} {kx ky : IntKind} {out zr : List PV} {X Y : Operand} {t : TypeId} {ti : TyI} (hT : T = tabOf P) (hg : pguard ops σ o = some true) (hok : ∀ j id, ok j id = true) (hd : o.dst = some d) (hop : o.op = .makeSlice t X Y) (hx : pev σ X = .val (.int kx x)) (hy : pev σ Y = .val (.int ky x)) (ht : T.at t = some ti) (hk : ti.kind = .slice e k by_ zr) (he : Nat.blt e 1000000 = true) (hc : 0 ≤ x ∧ (by_ : Int) * x ≤ 281474976710656 ∧ x ≤ 9223372036854775807) (hout : (List.replicate x.toNat zr).flatten = out)
    (kn : PWops P T ops base ok rest K (σ.put d (.sl x.toNat k out (some e)))) : PWops P T ops base ok ((i, o) :: rest) K σ := by
  refine PWops.sem (E := ⟨.sl x.toNat k out (some e), [], none, []⟩) hg hok ?_ (by rw [hd]; exact kn)
  intro Φ0 W M a w hM hrel
  obtain ⟨Φ, μ, ω, hr⟩ := hrel
  have := mkI_does hT hr o hd (hM d hd) hop ht hk hx hy hc (by simpa [Nat.blt_eq] using he) hout
  rw [hd]
  exact this
end
end Go.Proofs.Ytilcpcpmkklobaa

/- Pure states: a slice of numbers of one's own becomes a variable (it may then be written to). -/
namespace Go.Proofs.Ytilcpcpmkklobaa
set_option linter.unusedSimpArgs false
set_option linter.unusedVariables false
set_option linter.unnecessarySimpa false
open Go.RowKit

/-- A value that leans on no memory that will not change. -/
inductive FlatV : PV → Prop
  | undef : FlatV .undef
  | val (v : Value) : FlatV (.val v)
  | nilsl : FlatV .nilsl
  | ptr (id off : Nat) : FlatV (.ptr id off)
  | msl (id off n k : Nat) : FlatV (.msl id off n k)
  | mref (id : Nat) : FlatV (.mref id)
  | agg (cs : List PV) (h : ∀ c ∈ cs, FlatV c) : FlatV (.agg cs)
  | tup (cs : List PV) (h : ∀ c ∈ cs, FlatV c) : FlatV (.tup cs)
  | fn (f : FuncId) (cs : List PV) (h : ∀ c ∈ cs, FlatV c) : FlatV (.fn f cs)
theorem Rep.flatV {Φ Φ' : Imm} {μ μ' : Nat → Option Nat} (hμ : ∀ i g, μ i = some g → μ' i = some g) {p : PV} {v : Value} (h : Rep Φ μ p v) (hl : FlatV p) : Rep Φ' μ' p v := by
  induction h with
  | undef v => exact .undef v
  | val v h => exact .val v h
  | nilsl => exact .nilsl
  | sl0 => cases hl
  | sl => cases hl
  | ptr id off g h => exact .ptr id off g (hμ _ _ h)
  | msl id off n k a cap h h2 h3 => exact .msl id off n k a cap (fun hn => by obtain ⟨g, h1, h4⟩ := h hn; exact ⟨g, hμ _ _ h1, h4⟩) h2 h3
  | ep => cases hl
  | fn f cs us hr ih => cases hl with | fn _ _ hl => exact .fn f cs us (fun j c hj => ih j c hj (hl c (mem_of_get hj)))
  | agg cs us hr ih => cases hl with | agg _ hl => exact .agg cs us (fun j c hj => ih j c hj (hl c (mem_of_get hj)))
  | tup cs us hr ih => cases hl with | tup _ hl => exact .tup cs us (fun j c hj => ih j c hj (hl c (mem_of_get hj)))
  | mref id g h => exact .mref id g (hμ _ _ h)

/-- A value that leans at most on a block of its own. -/
def Stands (c : PV) : Prop := FlatV c ∨ ∃ n k cs E, c = .sl n k cs (some E) ∧ E < 1000000 ∧ ∀ x ∈ cs, FlatV x
structure StandsS (σ : PS) : Prop where
  t : ∀ t, Stands (σ.t t)
  b : ∀ i bs, σ.b i = some bs → ∀ c ∈ bs, Stands c
  m : ∀ i es clock, σ.m i = some (.map es clock) → ∀ e ∈ es, FlatV e.2.1 ∧ Stands e.2.2

theorem Stands.rep {c : PV} (hs : Stands c) {B : Nat → Prop} {Φ Φ' : Imm} {μ μ' : Nat → Option Nat} {ω : Nat → Option Who} {w : World} {q : Who} {v : Value} (hμ : ∀ i g, μ i = some g → μ' i = some g) (hr : Rep Φ μ c v) (ho : ∀ n k cs E, c = .sl n k cs (some E) → OwnAt B Φ ω w q n k E v) (hΦ : ∀ g, ω g = some q → ∀ j, Φ' g j = Φ g j) : Rep Φ' μ' c v := by
  rcases hs with hs | ⟨n, k, cs, E, rfl, hE, hf⟩
  · exact hr.flatV hμ hs
  · have h0 : ∀ ad cap, cap ≤ maxLen → n = 0 → v = .slice ad 0 cap → Rep Φ' μ' (.sl n k cs (some E)) v := by
      intro ad cap hc hn hv
      obtain ⟨_, _, _, _, _, _, _, _, q3, _⟩ := hr.sl_inv
      subst hn hv
      obtain rfl : cs = [] := List.eq_nil_of_length_eq_zero (by omega)
      exact .sl0 _ _ _ _ hc
    rcases ho n k cs E rfl with ⟨h1, h2⟩ | ⟨g, cap, cur, h1, h2, h3, h4, h5, h6, h7, h8⟩ | ⟨h1, -⟩
    · exact h0 none 0 (by unfold maxLen; omega) h2 h1
    · rcases Nat.eq_zero_or_pos n with hn | hn
      · exact h0 _ cap h5 hn (by rw [h1, hn])
      · obtain ⟨a, b, off, cap', us, hv, q1, q2, q3, q4, q5, q6⟩ := hr.sl_inv
        rw [h1] at hv
        cases hv
        have e := q4 hn
        cases e
        rw [h1]
        refine .sl n k cs _ _ _ _ us q3 q1 q2 (fun j hj => ?_) (fun j c hc => (q6 j c hc).flatV hμ (hf c (mem_of_get hc)))
        rw [hΦ g h7]; exact q5 j hj
    · exact absurd h1 (Nat.not_le.2 hE)

section
variable {Φ0 : Ent} {W : World} {M : Nat} {Φ : Imm} {μ : Nat → Option Nat} {ω : Nat → Option Who} {σ : PS} {a : Act} {w : World} {P : Program} {T : Tab}

open Classical in
theorem Sub.thaw {σ' : PS} {id s n : Nat} {l : List Int} {E : TypeId} (hs : σ.t s = .sl n 1 (l.map pint) (some E)) (hE : E < 1000000) (hn : 0 < n) (hsub : SubR (fun i => i) (Kn σ') σ σ') (hid : σ'.freeB id = true) (hlow : id < 1000000) (hs' : σ'.t s = .undef) (hst : StandsS σ') : Sub M σ ((σ'.setb id (l.map pint)).put s (.msl id 0 n 1)) := by
  rintro Φ0 W a w ⟨Φ, μ, ω, hg⟩
  have h1 := hsub.rel (fun i hi => hi.spec) (fun i j _ _ e => e) (fun i _ _ => rfl) hg
  obtain ⟨q1, q2⟩ := PS.freeB_spec hid
  have hv := hg.tmps s
  rw [hs] at hv
  rcases hg.own s n 1 _ E hs with ⟨-, h0⟩ | ⟨g, cap, cur, k1, k2, k3, k4, k5, k6, k7, k8⟩ | ⟨h0, -⟩
  · omega
  rotate_left
  · exact absurd h0 (Nat.not_le.2 hE)
  rw [k1] at hv
  obtain ⟨a0, b0, off, cap', us, hvv, p1, p2, p3, p4, p5, p6⟩ := hv.sl_inv
  cases hvv
  have e := p4 hn
  cases e
  have hlen : l.length = n := by simpa using p3
  -- the cells
  have hcell : ∀ j, j < n → ∃ z, l[j]? = some z ∧ us j = .int .i64 z ∧ cur[j]? = some (.int .i64 z) := by
    intro j hj
    have hj' : j < l.length := by omega
    have r1 := p6 j (pint l[j]) (by simp [hj'])
    obtain ⟨r2, -⟩ := r1.val_inv
    have r3 := hg.imm _ _ _ (p5 j (by simpa using hj'))
    simp only [World.cell?, k3, Nat.zero_add] at r3
    refine ⟨l[j], by simp [hj'], r2, ?_⟩
    rw [← r2]; simpa using r3
  have hwho : (fun g => unren (fun i => i) (Kn σ') (ω g)) g = some (.tmp s) := by show unren _ _ (ω g) = _; rw [k7]; rfl
  generalize hμ1 : (fun i => if Kn σ' i then μ ((fun i => i) i) else none) = μ1 at h1
  generalize hω1 : (fun g => unren (fun i => i) (Kn σ') (ω g)) = ω1 at h1 hwho
  let Φ' : Imm := fun b o => if b = g then none else Φ b o
  have hoth : ∀ b j, b ≠ g → Φ' b j = Φ b j := fun b j hb => if_neg hb
  have hself : ∀ j, Φ' g j = none := fun j => if_pos rfl
  have hμ : ∀ i g', μ1 i = some g' → upd μ1 id (some g) i = some g' := by
    intro i g' e'
    simp only [upd_if]
    rw [if_neg (by rintro rfl; rw [h1.gone _ q1 q2] at e'; cases e')]; exact e'
  have hω : ∀ q g', q ≠ .tmp s → ω1 g' = some q → g' ≠ g ∧ upd ω1 g (some (.box id)) g' = some q := by
    intro q g' hq e'
    have hne : g' ≠ g := by rintro rfl; rw [hwho] at e'; cases e'; exact hq rfl
    exact ⟨hne, by simp only [upd_if, if_neg hne]; exact e'⟩
  have hΦq : ∀ q, q ≠ .tmp s → ∀ g', ω1 g' = some q → ∀ j, Φ' g' j = Φ g' j := fun q hq g' e' j => hoth g' j (hω q g' hq e').1
  have hown : ∀ q n' k' E' v, q ≠ .tmp s → OwnAt (Mine Φ0 W) Φ ω1 w q n' k' E' v → OwnAt (Mine Φ0 W) Φ' (upd ω1 g (some (.box id))) w q n' k' E' v := by
    intro q n' k' E' v hq hh
    exact hh.step (fun g' e' => ⟨rfl, hΦq q hq g' e', (hω q g' hq e').2⟩)
  refine ⟨Φ', upd μ1 id (some g), upd ω1 g (some (.box id)), h1.below, h1.defers, h1.size, ?_, ?_, fun t => ?_, fun t n' k' cs' E' et => ?_, fun i bs eb => ?_, fun i e' em => ?_, fun g' p e' => ?_, h1.gmu, fun i g' e' hi => ?_, fun b o u e' => ?_, fun i X e' => ?_, fun g' p e' => ?_⟩
  · intro b o u e'
    by_cases hb : b = g
    · subst hb; rw [hself] at e'; cases e'
    · rw [hoth b o hb] at e'; exact h1.imm b o u e'
  · intro b o hb
    rw [hoth b o (k2.ne hb)]; exact h1.old b o hb
  · simp only [PS.put, PS.setb, upd_if]
    by_cases ht : t = s
    · subst ht
      simp only [if_true]
      rw [k1]
      exact .msl id 0 n 1 _ cap (fun _ => ⟨g, by simp [upd_if], rfl⟩) p1 p2
    · simp only [if_neg ht]
      exact (hst.t t).rep hμ (h1.tmps t) (fun n k cs E e' => h1.own t n k cs E e') (hΦq (.tmp t) (by simp [ht]))
  · simp only [PS.put, PS.setb, upd_if] at et
    by_cases ht : t = s
    · simp only [if_pos ht] at et; cases et
    · simp only [if_neg ht] at et
      exact hown _ _ _ _ _ (by simp [ht]) (h1.own t n' k' cs' E' et)
  · simp only [PS.put, PS.setb, upd_if] at eb
    by_cases hi : i = id
    · subst hi
      simp only [if_true] at eb
      cases eb
      refine ⟨g, cur, E, by simp [upd_if], k3, k2, by simp [upd_if], hself, by simp; omega, fun j c hc => ?_⟩
      have hj : j < n := by have := (List.getElem?_eq_some_iff.1 hc).1; simp at this; omega
      obtain ⟨z, z1, -, z3⟩ := hcell j hj
      rw [List.getElem?_map, z1] at hc
      simp only [Option.map_some, Option.some.injEq] at hc
      subst hc
      exact ⟨_, z3, rfl, .val _ rfl, fun n k cs E e' => by cases e'⟩
    · simp only [if_neg hi] at eb
      obtain ⟨g2, cur', Ty, r1, r2, r3, r4, r5, r6, r7⟩ := h1.box i bs eb
      obtain ⟨hne, hw2⟩ := hω (.box i) g2 (by simp) r4
      refine ⟨g2, cur', Ty, hμ _ _ r1, r2, r3, hw2, fun j => by rw [hoth g2 j hne]; exact r5 j, r6, fun j c hc => ?_⟩
      obtain ⟨u, s1, s2, s3, s4⟩ := r7 j c hc
      exact ⟨u, s1, s2, (hst.b i bs eb c (mem_of_get hc)).rep hμ s3 s4 (hΦq (.cell i j) (by simp)), fun n k cs E e' => hown _ _ _ _ _ (by simp) (s4 n k cs E e')⟩
  · simp only [PS.put, PS.setb, upd_if] at e' em
    by_cases hi : i = id
    · subst hi; simp at e'
    · simp only [if_neg hi] at e'
      simp only [upd_if, if_neg hi]
      exact h1.gone i e' em
  · simp only [upd_if] at e'
    split at e'
    · subst g'; exact (Array.getElem?_eq_some_iff.1 k3).1
    · exact h1.lt g' p e'
  · have hne : i ≠ id := by have := h1.gmu i g' e'; omega
    simp only [PS.put, PS.setb, upd_if, if_neg hne] at hi ⊢
    exact h1.kmu i g' e' hi
  · obtain ⟨e1, e2⟩ := h1.ext b o u e'
    refine ⟨?_, e2⟩
    rw [hoth b o]
    · exact e1
    · rintro rfl
      rcases k2 with hm | hm
      · omega
      · have hfl := Φ0.fl _ _ _ hm e'
        by_cases ho : o < n
        · have h5 := p5 o (by simp; omega)
          rw [Nat.zero_add, e1] at h5
          cases h5
          obtain ⟨z, -, z2, -⟩ := hcell o ho
          rw [z2] at hfl; cases hfl
        · rw [k8.2 o (by omega)] at e1; cases e1
  · simp only [PS.put, PS.setb] at e'
    obtain ⟨g2, r1, r2, r3, r4, r5⟩ := h1.map i X e'
    obtain ⟨hne, hw2⟩ := hω (.box i) g2 (by simp) r3
    refine ⟨g2, hμ _ _ r1, r2, hw2, fun j => by rw [hoth g2 j hne]; exact r4 j, ?_⟩
    cases X with
    | map es clock =>
      obtain ⟨t0, ents, t1, t2, t3⟩ := r5
      refine ⟨t0, ents, t1, t2, fun j st k c hj => ?_⟩
      obtain ⟨en, f1, f2, f3, f4, f5⟩ := t3 j st k c hj
      have hh := hst.m i es clock e' _ (mem_of_get hj)
      exact ⟨en, f1, f2, f3.flatV hμ hh.1, hh.2.rep hμ f4 f5 (hΦq (.cell i st) (by simp)), fun n kk cs E ec => hown _ _ _ _ _ (by simp) (f5 n kk cs E ec)⟩
    | iter mid since seen last =>
      obtain ⟨gm, t1, t2⟩ := r5
      exact ⟨gm, hμ _ _ t1, t2⟩
  · simp only [upd_if] at e'
    split at e'
    · subst g'; exact k2
    · exact h1.mine g' p e'
theorem PW.thaw {σ' : PS} {id s n : Nat} {l : List Int} {E : TypeId} {c : Code} {Q : Exit → PS → Prop} (hs : σ.t s = .sl n 1 (l.map pint) (some E)) (hE : E < 1000000) (hn : 0 < n) (hsub : SubR (fun i => i) (Kn σ') σ σ') (hid : σ'.freeB id = true) (hlow : id < 1000000) (hs' : σ'.t s = .undef) (hst : StandsS σ') (h : PW P M c Q ((σ'.setb id (l.map pint)).put s (.msl id 0 n 1))) : PW P M c Q σ :=
  h.sub (Sub.thaw hs hE hn hsub hid hlow hs' hst)
end
end Go.Proofs.Ytilcpcpmkklobaa

/- slices.Sort of a variable's numbers, over pure states. -/
namespace Go.Proofs.Ytilcpcpmkklobaa
set_option linter.unusedSimpArgs false
set_option linter.unusedVariables false
set_option linter.unnecessarySimpa false
open Go.RowKit Go.Sort

def sortI (l : List Int) : List Int := l.mergeSort fun x y => decide (x ≤ y)
theorem sortI_length (l : List Int) : (sortI l).length = l.length := List.length_mergeSort ..
theorem sortI_perm (l : List Int) : (sortI l).Perm l := List.mergeSort_perm ..
theorem sortI_sorted (l : List Int) : (sortI l).Pairwise (fun a b => a ≤ b) := by
  have := List.pairwise_mergeSort (le := fun x y : Int => decide (x ≤ y)) (fun a b c h1 h2 => by simp at *; omega) (fun a b => by simp; omega) l
  unfold sortI; simpa using this

theorem hc_sort (l : List Int) (hn : 0 < l.length ∧ l.length ≤ 1000000000) (id : Nat) : HCalls Try.prog 42 [.msl id 0 l.length 1] [(id, l.map pint)] [] (.tup []) [(id, (sortI l).map pint)] [] := by
  refine ⟨by kernel_rfl, fun Φ μ ω w vs himm hgl hrep hgb _ hlt => ?_⟩
  have hl1 := hrep.1
  match vs, hl1 with
  | [v], _ =>
  have hv := hrep.2 0 _ v rfl rfl
  obtain ⟨a, cap, rfl, c1, c2, c3⟩ := hv.msl_inv
  obtain ⟨g, hg, rfl⟩ := c3 hn.1
  obtain ⟨g', cur, T, b1, b2, -, b4, b5, b6, b7⟩ := hgb (id, l.map pint) (by simp)
  simp only at b1 b4 b6 b7
  rw [hg] at b1
  cases b1
  have hlt' := (Array.getElem?_eq_some_iff.1 b2).1
  have hsz : l.length ≤ cur.size := by simpa using b6
  have hcur : ∀ j, j < l.length → cur[j]? = some (.int .i64 (l.getD j 0)) := by
    intro j hj
    obtain ⟨u, r1, -, r3, -⟩ := b7 j (pint l[j]) (by simp [hj])
    obtain ⟨r4, -⟩ := r3.val_inv
    rw [r1, r4]; simp [hj]
  have ht : cur.toList.take l.length = l.map (Value.int .i64) := by
    apply List.ext_getElem?
    intro j
    by_cases hj : j < l.length
    · rw [List.getElem?_take_of_lt hj, Array.getElem?_toList, hcur j hj]
      simp [hj]
    · rw [List.getElem?_take_eq_none (by omega), List.getElem?_eq_none (by simp; omega)]
  refine (Try.slices_Sort_int g 0 cap l w (holds_of_blockI b2 ht) hlt' (by omega)).mono ?_
  rintro e w' ⟨rfl, n, os, hw⟩
  have hgr := grownBy_sortedI (w := w) (g := g) (n := n) (os := os) (sortI l).toArray
  have hheap := heap_sortedI (n := n) (os := os) (sortI l).toArray b2
  unfold sortI at hgr hheap
  rw [← hw] at hgr hheap
  rw [show (l.mergeSort fun x y => decide (x ≤ y)) = sortI l from rfl] at hheap
  have hgiv : Giv ω (ResIds [(id, l.map pint)] []) g := ⟨id, by simp [ResIds], .box id, .inl rfl, b4⟩
  have hoth : ∀ k, k < w.heap.size → k ≠ g → w'.heap[k]? = w.heap[k]? := fun k hk hne => hgr.block k hk (by simpa using hne)
  refine ⟨_, Φ, fun i => if i = id then μ i else none, fun g' => if g' = g then some (.box id) else none, rfl, RepL.nil.tup, fun b o u e => ?_, fun _ _ _ e => e, fun _ _ _ _ => rfl, ⟨hgr.os, hgr.tape, hgr.output, hgr.size, fun k hk => hoth k hk.1 (by rintro rfl; exact hk.2 hgiv)⟩, fun i hi => ?_, fun i g' e => ?_, fun x hx => ?_, fun x hx => by simp at hx, fun g' p e => ?_, fun n k cs E e => by cases e⟩
  · have h0 := himm b o u e
    have hne : b ≠ g := by rintro rfl; rw [b5] at e; cases e
    have hb := World.block_lt_of_cell? _ _ h0
    simp only [World.cell?] at h0 ⊢
    rw [hoth b hb hne]; exact h0
  · simp [ResIds] at hi; subst hi; simp
  · by_cases hi : i = id
    · subst hi; simp [ResIds]
    · simp [hi] at e
  · simp at hx
    subst hx
    refine ⟨g, _, T, by simpa using hg, hheap, .inr hgiv, by simp, b5, by simp [putCells, sortI_length]; omega, fun j c hc => ?_⟩
    have hj : j < l.length := by have := (List.getElem?_eq_some_iff.1 hc).1; simpa [sortI_length] using this
    have hj2 : j < (sortI l).length := by rw [sortI_length]; exact hj
    have htk := take_putCellsI cur (sortI l) (by rw [sortI_length]; exact hsz)
    have h3 : ((putCells (Value.int .i64) 0 (sortI l).toArray cur).toList.take (sortI l).length)[j]? = ((sortI l).map (Value.int .i64))[j]? := by rw [htk]
    rw [List.getElem?_take_of_lt hj2, Array.getElem?_toList] at h3
    simp only [List.getElem?_map, List.getElem?_eq_getElem hj2, Option.map_some, Option.some.injEq] at hc h3
    subst hc
    exact ⟨_, h3, rfl, .val _ rfl, fun n k cs E e => by cases e⟩
  · by_cases hg' : g' = g
    · subst hg'
      exact ⟨Nat.lt_of_lt_of_le hlt' hgr.size, .inr hgiv⟩
    · simp [hg'] at e
theorem pc_sort0 : PCalls Try.prog 42 [.sl 0 1 [] none] (· = .tup []) := by
  refine ⟨by kernel_rfl, fun Φ μ w vs himm hgl hrep => ?_⟩
  have hl1 := hrep.1
  match vs, hl1 with
  | [v], _ =>
  obtain ⟨a, -, -, cap, -, rfl, -⟩ := (hrep.2 0 _ v rfl rfl).sl_inv
  refine (Try.slices_Sort_int_none a cap w).mono ?_
  rintro e w' ⟨rfl, rfl⟩
  exact ⟨.tup [], _, Φ, rfl, rfl, RepL.nil.tup, himm, fun _ _ _ => rfl, Below.refl _ _, fun n k cs E e => by cases e⟩
end Go.Proofs.Ytilcpcpmkklobaa

/- The disk: the sectors with open writes, in order. -/
namespace Go.Proofs.Ytilcpcpmkklobaa
set_option linter.unusedSimpArgs false
set_option linter.unusedVariables false
set_option linter.unnecessarySimpa false
open Go.RowKit

def keysR (op : List (Nat × Int × List Sec)) : List Int := op.map (·.2.1)
def DM.keys (D : DM) : List Int := sortI (keysR D.op)

theorem stamp_inj {α : Type} {op : List (Nat × α)} (hn : (op.map (·.1)).Nodup) {e e' : Nat × α} (he : e ∈ op) (he' : e' ∈ op) (h : e.1 = e'.1) : e = e' := by
  induction op with
  | nil => simp at he
  | cons x op ih =>
    simp only [List.map_cons, List.nodup_cons] at hn
    rcases List.mem_cons.1 he with h1 | h1 <;> rcases List.mem_cons.1 he' with h2 | h2
    · rw [h1, h2]
    · exact (hn.1 (List.mem_map.2 ⟨e', h2, by rw [← h, h1]⟩)).elim
    · exact (hn.1 (List.mem_map.2 ⟨e, h1, by rw [h, h2]⟩)).elim
    · exact ih hn.2 h1 h2
theorem nodup_sub_len {l : List Nat} : ∀ {l' : List Nat}, l.Nodup → (∀ x ∈ l, x ∈ l') → l.length ≤ l'.length := by
  induction l with
  | nil => intro l' _ _; simp
  | cons a l ih =>
    intro l' hn h
    rw [List.nodup_cons] at hn
    have h1 := h a (by simp)
    have h2 := ih (l' := l'.erase a) hn.2 (fun x hx => (List.mem_erase_of_ne (by rintro rfl; exact hn.1 hx)).2 (h x (by simp [hx])))
    rw [List.length_erase_of_mem h1] at h2
    have h3 := List.length_pos_of_mem h1
    simp; omega

/-- All stamps have been seen, each once: the keys are those of the map. -/
theorem perm_seen {op : List (Nat × Int × List Sec)} (hn : (op.map (·.1)).Nodup) : ∀ {p : List (Nat × Int)}, (p.map (·.1)).Nodup → (∀ x ∈ p, ∃ e ∈ op, e.1 = x.1 ∧ e.2.1 = x.2) → (∀ e ∈ op, e.1 ∈ p.map (·.1)) → (p.map (·.2)).Perm (keysR op) := by
  intro p hp h1 h2
  have h3 : p.Perm (op.map fun e => (e.1, e.2.1)) := by
    rw [List.perm_ext_iff_of_nodup]
    · rintro ⟨s, k⟩
      constructor
      · intro hx
        obtain ⟨e, he, e1, e2⟩ := h1 _ hx
        exact List.mem_map.2 ⟨e, he, by rw [e1, e2]⟩
      · intro hx
        obtain ⟨e, he, e1⟩ := List.mem_map.1 hx
        cases e1
        obtain ⟨⟨s', k'⟩, hy, e2⟩ := List.mem_map.1 (h2 e he)
        simp only at e2
        subst e2
        obtain ⟨e', he', f1, f2⟩ := h1 _ hy
        simp only at f1 f2
        have : e' = e := stamp_inj hn he' he f1
        subst this
        rw [f2]; exact hy
    · exact (List.Pairwise.of_map (S := (· ≠ ·)) (fun x => x.1) (fun _ _ h e => h (by rw [e])) hp)
    · refine List.Pairwise.of_map (S := (· ≠ ·)) (fun x => x.1) (fun _ _ h e => h (by rw [e])) ?_
      rw [List.map_map]; exact hn
  have h4 := h3.map (·.2)
  rw [List.map_map] at h4
  exact h4
theorem sortI_eq {l l' : List Int} (h : l.Perm l') : sortI l = sortI l' := by
  have h1 := sortI_sorted l
  have h2 := sortI_sorted l'
  exact ((sortI_perm l).trans (h.trans (sortI_perm l').symm)).eq_of_pairwise (fun a b _ _ h1 h2 => by omega) h1 h2
theorem nodup_len {op : List (Nat × Int × List Sec)} {p : List (Nat × Int)} (hp : (p.map (·.1)).Nodup) (h1 : ∀ x ∈ p, ∃ e ∈ op, e.1 = x.1 ∧ e.2.1 = x.2) : p.length ≤ op.length := by
  have := nodup_sub_len (l' := op.map (·.1)) hp (fun s hs => by
    obtain ⟨x, hx, rfl⟩ := List.mem_map.1 hs
    obtain ⟨e, he, e1, -⟩ := h1 x hx
    exact List.mem_map.2 ⟨e, he, e1⟩)
  simpa using this

theorem dsf_stands (D : DM) : StandsS (((bot.setb 1000001 (dB 1000002 1000003 D)).setb 1000002 (dC D)).setm 1000003 (dM D)) := by
  refine ⟨fun t => .inl .undef, fun i bs e c hc => ?_, fun i es clock e x hx => ?_⟩
  · simp only [PS.setm, PS.setb, bot, upd_if] at e
    split at e
    · cases e
      obtain ⟨x, -, hx⟩ := List.mem_flatMap.1 hc
      rcases List.mem_append.1 hx with h | h
      · obtain ⟨z, -, rfl⟩ := List.mem_map.1 h; exact .inl (.val _)
      · simp at h; subst h; exact .inl (.val _)
    · split at e
      · cases e
        simp only [dB, List.mem_cons, List.not_mem_nil, or_false] at hc
        rcases hc with rfl | rfl | rfl | rfl | rfl
        · exact .inl (.msl ..)
        · exact .inl (.mref _)
        · exact .inl (.val _)
        · exact .inl (.val _)
        · exact .inl (.val _)
      · cases e
  · simp only [PS.setm, PS.setb, bot, upd_if] at e
    split at e
    · cases e
      obtain ⟨y, -, rfl⟩ := List.mem_map.1 hx
      refine ⟨.val _, .inr ⟨_, _, _, _, rfl, by decide, fun p hp => ?_⟩⟩
      obtain ⟨s, -, hs⟩ := List.mem_flatMap.1 hp
      obtain ⟨z, -, rfl⟩ := List.mem_map.1 hs
      exact .val _
    · cases e

set_option maxRecDepth 10000 in
set_option maxHeartbeats 2000000 in
theorem dc_sectors (D : DM) (hop : D.op.length ≤ 1000000000) : DCalls 36 [] D (pints D.keys) D := by
  refine dcalls_of_pw Try.func36 rfl rfl (by simp) (by simp) (Nat.le_of_ble_eq_true rfl) (by exact lw) ?_
  refine wk ?_
  refine PWops.rng rfl rfl rfl rfl rfl rfl rfl rfl ?_
  refine wk ?_
  refine PW.stamps (id := 1000003) rfl (fun hs => ?_)
  have hst : (D.op.map (·.1)).Nodup := by
    have := hs.1
    rw [List.map_map] at this; exact this
  refine PW.loop (fun p : List (Nat × Int) => ((((((bot.setb 1000001 (dB 1000002 1000003 D)).setb 1000002 (dC D)).setm 1000003 (dM D)).setm 2004 (.iter 1000003 D.clock (p.map (·.1)) D.clock)).put 0 (.ptr 1000001 0)).put 9 (.ptr 2004 0)).put 3 (.sl p.length 1 ((p.map (·.2)).map pint) (some 3)))
    (fun p => (p.map (·.1)).Nodup ∧ ∀ x ∈ p, ∃ e ∈ D.op, e.1 = x.1 ∧ e.2.1 = x.2) (fun p => D.op.length - p.length) [] ?_ ?_ ?_
  · exact ⟨List.nodup_nil, by simp⟩
  · have hl := dC_low D
    have hlm := dM_low D
    exact sb
  · rintro p ⟨i1, i2⟩
    have hpl := nodup_len i1 i2
    refine PW.seq ?_
    refine PWnext typeTab_ok (it := 2004) (mid := 1000003) (es := D.op.map dE) (clock := D.clock) rfl rfl rfl (by decide) rfl ?_ ?_ ?_
    · cases hsn : D.op with
      | nil => exact .inr (.inl rfl)
      | cons e r =>
        refine .inr (.inr ⟨dE e, by simp, ?_⟩)
        exact hs.2 _ (List.mem_map_of_mem (f := dE) (show e ∈ D.op by rw [hsn]; simp))
    · intro hno
      have hall : ∀ e ∈ D.op, e.1 ∈ p.map (·.1) := fun e he => hno (dE e) (List.mem_map_of_mem he) (hs.2 _ (List.mem_map_of_mem he))
      have hperm := perm_seen hst i1 i2 hall
      have hkeys : D.keys = sortI (p.map (·.2)) := by unfold DM.keys; exact (sortI_eq hperm).symm
      refine wg ?_
      rcases Nat.eq_zero_or_pos p.length with h0 | h0
      · obtain rfl : p = [] := List.eq_nil_of_length_eq_zero h0
        have hk0 : D.keys = [] := by rw [hkeys]; simp [sortI]
        rw [hk0]
        have hsort := pc_sort0
        refine wk ?_
        exact RetH.mk rfl (Weak.refl _) ⟨⟨_, rfl, WeakL.refl _⟩, ⟨_, rfl, WeakL.refl _⟩, trivial⟩ ⟨⟨rfl, rfl⟩, trivial⟩
      · have hsort := hc_sort (p.map (·.2)) ⟨by simpa using h0, by simp; omega⟩ 900001
        rw [← hkeys] at hsort
        have hkl : D.keys.length = p.length := by rw [hkeys, sortI_length, List.length_map]
        rw [List.length_map] at hsort
        refine PW.thaw (s := 3) (id := 900001) (σ' := ((bot.setb 1000001 (dB 1000002 1000003 D)).setb 1000002 (dC D)).setm 1000003 (dM D)) rfl (by decide) h0 ?_ rfl (by decide) rfl (dsf_stands D) ?_
        · have hl := dC_low D
          have hlm := dM_low D
          (repeat (first | exact SubR.bot | ((with_reducible refine SubR.isp ?_) ; refine SubR.put ?_ (by (first | exact .inl (.ptr _ _ rfl) | exact .inl (.msl _ _ _ _ rfl) | exact .inl (.mref _ rfl) | exact .inl (.low _ (by (first | exact low_mapI | exact low_mapS | exact low_mapB | assumption | exact hlow _ | exact hlow _ _ | exact Low.agg _ (low_map (fun _ => Low.val _) _) | (simp [low_pu32, low_pu64, low_val, low_nilsl, low_sl, low_ep, low_agg, low_tup, low_fn, low_pint, low_pstr, low_pbool, low_pints, low_pstrs, low_pbyte, low_pbytes, hlow] ; done) | (simp [low_pu32, low_pu64, low_val, low_nilsl, low_sl, low_ep, low_agg, low_tup, low_fn, low_pint, low_pstr, low_pbool, low_pints, low_pstrs, low_pbyte, low_pbytes] ; done) | simp [low_pu32, low_pu64, low_val, low_nilsl, low_sl, low_ep, low_agg, low_tup, low_fn, low_pint, low_pstr, low_pbool, low_pints, low_pstrs, low_pbyte, low_pbytes, low_pattrs, low_pdefs, low_pschema, low_pentry]))) | exact .inr (.inl (.low _ (by (first | exact low_mapI | exact low_mapS | exact low_mapB | assumption | exact hlow _ | exact hlow _ _ | exact Low.agg _ (low_map (fun _ => Low.val _) _) | (simp [low_pu32, low_pu64, low_val, low_nilsl, low_sl, low_ep, low_agg, low_tup, low_fn, low_pint, low_pstr, low_pbool, low_pints, low_pstrs, low_pbyte, low_pbytes, hlow] ; done) | (simp [low_pu32, low_pu64, low_val, low_nilsl, low_sl, low_ep, low_agg, low_tup, low_fn, low_pint, low_pstr, low_pbool, low_pints, low_pstrs, low_pbyte, low_pbytes] ; done) | simp [low_pu32, low_pu64, low_val, low_nilsl, low_sl, low_ep, low_agg, low_tup, low_fn, low_pint, low_pstr, low_pbool, low_pints, low_pstrs, low_pbyte, low_pbytes, low_pattrs, low_pdefs, low_pschema, low_pentry])))) | exact .inr (.inr ⟨_, _, rfl, rfl⟩)))) | ((with_reducible refine SubR.isb ?_) ; refine SubR.setb ?_ rfl rfl (by (first | exact RenQL.low (by first | assumption | exact hlow _ | exact hlow _ _ | exact low_map (fun _ => Low.val _) _) | exact RenQL.lowE (by assumption) (low_map (fun _ => Low.val _) _) | ((repeat (refine RenQL.cons (by (first | exact .inl (.ptr _ _ rfl) | exact .inl (.msl _ _ _ _ rfl) | exact .inl (.mref _ rfl) | exact .inl (.low _ (by (first | exact low_mapI | exact low_mapS | exact low_mapB | assumption | exact hlow _ | exact hlow _ _ | exact Low.agg _ (low_map (fun _ => Low.val _) _) | (simp [low_pu32, low_pu64, low_val, low_nilsl, low_sl, low_ep, low_agg, low_tup, low_fn, low_pint, low_pstr, low_pbool, low_pints, low_pstrs, low_pbyte, low_pbytes, hlow] ; done) | (simp [low_pu32, low_pu64, low_val, low_nilsl, low_sl, low_ep, low_agg, low_tup, low_fn, low_pint, low_pstr, low_pbool, low_pints, low_pstrs, low_pbyte, low_pbytes] ; done) | simp [low_pu32, low_pu64, low_val, low_nilsl, low_sl, low_ep, low_agg, low_tup, low_fn, low_pint, low_pstr, low_pbool, low_pints, low_pstrs, low_pbyte, low_pbytes, low_pattrs, low_pdefs, low_pschema, low_pentry]))) | exact .inr (.inl (.low _ (by (first | exact low_mapI | exact low_mapS | exact low_mapB | assumption | exact hlow _ | exact hlow _ _ | exact Low.agg _ (low_map (fun _ => Low.val _) _) | (simp [low_pu32, low_pu64, low_val, low_nilsl, low_sl, low_ep, low_agg, low_tup, low_fn, low_pint, low_pstr, low_pbool, low_pints, low_pstrs, low_pbyte, low_pbytes, hlow] ; done) | (simp [low_pu32, low_pu64, low_val, low_nilsl, low_sl, low_ep, low_agg, low_tup, low_fn, low_pint, low_pstr, low_pbool, low_pints, low_pstrs, low_pbyte, low_pbytes] ; done) | simp [low_pu32, low_pu64, low_val, low_nilsl, low_sl, low_ep, low_agg, low_tup, low_fn, low_pint, low_pstr, low_pbool, low_pints, low_pstrs, low_pbyte, low_pbytes, low_pattrs, low_pdefs, low_pschema, low_pentry])))) | exact .inr (.inr ⟨_, _, rfl, rfl⟩))) ?_)) ; exact RenQL.nil)))) | ((with_reducible refine SubR.ism ?_) ; refine SubR.setm ?_ rfl rfl (by (first | exact ⟨rfl, rfl, rfl, rfl, rfl⟩ | exact RenM.low (by first | assumption | exact hlowm _ | exact hlowm _ _))))))
        refine PW.region typeTab_ok (by kernel_rfl) ?_
        refine wg ?_
        refine PW.freeze (s := 3) (id := 900001) (σ' := ((bot.setb 1000001 (dB 1000002 1000003 D)).setb 1000002 (dC D)).setm 1000003 (dM D)) rfl rfl (by rw [List.length_map, hkl, Nat.mul_one]) (fun c hc => by obtain ⟨z, -, rfl⟩ := List.mem_map.1 hc; exact .val _) ?_ rfl ?_
        · have hl := dC_low D
          have hlm := dM_low D
          (repeat (first | exact SubR.bot | ((with_reducible refine SubR.isp ?_) ; refine SubR.put ?_ (by (first | exact .inl (.ptr _ _ rfl) | exact .inl (.msl _ _ _ _ rfl) | exact .inl (.mref _ rfl) | exact .inl (.low _ (by (first | exact low_mapI | exact low_mapS | exact low_mapB | assumption | exact hlow _ | exact hlow _ _ | exact Low.agg _ (low_map (fun _ => Low.val _) _) | (simp [low_pu32, low_pu64, low_val, low_nilsl, low_sl, low_ep, low_agg, low_tup, low_fn, low_pint, low_pstr, low_pbool, low_pints, low_pstrs, low_pbyte, low_pbytes, hlow] ; done) | (simp [low_pu32, low_pu64, low_val, low_nilsl, low_sl, low_ep, low_agg, low_tup, low_fn, low_pint, low_pstr, low_pbool, low_pints, low_pstrs, low_pbyte, low_pbytes] ; done) | simp [low_pu32, low_pu64, low_val, low_nilsl, low_sl, low_ep, low_agg, low_tup, low_fn, low_pint, low_pstr, low_pbool, low_pints, low_pstrs, low_pbyte, low_pbytes, low_pattrs, low_pdefs, low_pschema, low_pentry]))) | exact .inr (.inl (.low _ (by (first | exact low_mapI | exact low_mapS | exact low_mapB | assumption | exact hlow _ | exact hlow _ _ | exact Low.agg _ (low_map (fun _ => Low.val _) _) | (simp [low_pu32, low_pu64, low_val, low_nilsl, low_sl, low_ep, low_agg, low_tup, low_fn, low_pint, low_pstr, low_pbool, low_pints, low_pstrs, low_pbyte, low_pbytes, hlow] ; done) | (simp [low_pu32, low_pu64, low_val, low_nilsl, low_sl, low_ep, low_agg, low_tup, low_fn, low_pint, low_pstr, low_pbool, low_pints, low_pstrs, low_pbyte, low_pbytes] ; done) | simp [low_pu32, low_pu64, low_val, low_nilsl, low_sl, low_ep, low_agg, low_tup, low_fn, low_pint, low_pstr, low_pbool, low_pints, low_pstrs, low_pbyte, low_pbytes, low_pattrs, low_pdefs, low_pschema, low_pentry])))) | exact .inr (.inr ⟨_, _, rfl, rfl⟩)))) | ((with_reducible refine SubR.isb ?_) ; refine SubR.setb ?_ rfl rfl (by (first | exact RenQL.low (by first | assumption | exact hlow _ | exact hlow _ _ | exact low_map (fun _ => Low.val _) _) | exact RenQL.lowE (by assumption) (low_map (fun _ => Low.val _) _) | ((repeat (refine RenQL.cons (by (first | exact .inl (.ptr _ _ rfl) | exact .inl (.msl _ _ _ _ rfl) | exact .inl (.mref _ rfl) | exact .inl (.low _ (by (first | exact low_mapI | exact low_mapS | exact low_mapB | assumption | exact hlow _ | exact hlow _ _ | exact Low.agg _ (low_map (fun _ => Low.val _) _) | (simp [low_pu32, low_pu64, low_val, low_nilsl, low_sl, low_ep, low_agg, low_tup, low_fn, low_pint, low_pstr, low_pbool, low_pints, low_pstrs, low_pbyte, low_pbytes, hlow] ; done) | (simp [low_pu32, low_pu64, low_val, low_nilsl, low_sl, low_ep, low_agg, low_tup, low_fn, low_pint, low_pstr, low_pbool, low_pints, low_pstrs, low_pbyte, low_pbytes] ; done) | simp [low_pu32, low_pu64, low_val, low_nilsl, low_sl, low_ep, low_agg, low_tup, low_fn, low_pint, low_pstr, low_pbool, low_pints, low_pstrs, low_pbyte, low_pbytes, low_pattrs, low_pdefs, low_pschema, low_pentry]))) | exact .inr (.inl (.low _ (by (first | exact low_mapI | exact low_mapS | exact low_mapB | assumption | exact hlow _ | exact hlow _ _ | exact Low.agg _ (low_map (fun _ => Low.val _) _) | (simp [low_pu32, low_pu64, low_val, low_nilsl, low_sl, low_ep, low_agg, low_tup, low_fn, low_pint, low_pstr, low_pbool, low_pints, low_pstrs, low_pbyte, low_pbytes, hlow] ; done) | (simp [low_pu32, low_pu64, low_val, low_nilsl, low_sl, low_ep, low_agg, low_tup, low_fn, low_pint, low_pstr, low_pbool, low_pints, low_pstrs, low_pbyte, low_pbytes] ; done) | simp [low_pu32, low_pu64, low_val, low_nilsl, low_sl, low_ep, low_agg, low_tup, low_fn, low_pint, low_pstr, low_pbool, low_pints, low_pstrs, low_pbyte, low_pbytes, low_pattrs, low_pdefs, low_pschema, low_pentry])))) | exact .inr (.inr ⟨_, _, rfl, rfl⟩))) ?_)) ; exact RenQL.nil)))) | ((with_reducible refine SubR.ism ?_) ; refine SubR.setm ?_ rfl rfl (by (first | exact ⟨rfl, rfl, rfl, rfl, rfl⟩ | exact RenM.low (by first | assumption | exact hlowm _ | exact hlowm _ _))))))
        rw [← hkl]
        refine wk ?_
        exact RetH.mk rfl (Weak.refl _) ⟨⟨_, rfl, WeakL.refl _⟩, ⟨_, rfl, WeakL.refl _⟩, trivial⟩ ⟨⟨rfl, rfl⟩, trivial⟩
    · intro e' he' hns
      obtain ⟨e, he, rfl⟩ := List.mem_map.1 he'
      have hfs := find_stamp (es := D.op.map dE) (e := dE e) hs.1 he'
      have hlt : p.length < D.op.length := by
        have h1 := nodup_len (op := D.op) (p := p ++ [(e.1, e.2.1)]) (by
          rw [List.map_append, List.nodup_append]
          exact ⟨i1, by simp, fun x hx y hy => by simp at hy; subst hy; rintro rfl; exact hns hx⟩) (fun x hx => by
          rcases List.mem_append.1 hx with h | h
          · exact i2 x h
          · simp at h; subst h; exact ⟨e, he, rfl, rfl⟩)
        simp at h1; omega
      refine wk ?_
      refine PWops.ent (seen := p.map (·.1)) (s := e.1) rfl rfl rfl rfl rfl rfl rfl hfs rfl ?_
      refine wk ?_
      refine loopP (p ++ [(e.1, e.2.1)]) ⟨?_, ?_⟩ ?_ ?_
      · rw [List.map_append, List.nodup_append]
        exact ⟨i1, by simp, fun x hx y hy => by simp at hy; subst hy; rintro rfl; exact hns hx⟩
      · intro x hx
        rcases List.mem_append.1 hx with h | h
        · exact i2 x h
        · simp at h; subst h; exact ⟨e, he, rfl, rfl⟩
      · simp; omega
      · have hl := dC_low D
        have hlm := dM_low D
        try dsimp only
        have hp3 : Low (.sl (p.length + 1) 1 ((p.map (·.2)).map pint ++ [pint e.2.1]) (some 3)) := .sl _ _ _ _ (fun c hc => by
          rcases List.mem_append.1 hc with h | h
          · obtain ⟨z, -, rfl⟩ := List.mem_map.1 h; exact .val _
          · simp at h; subst h; exact .val _)
        rw [List.map_append, List.map_append, List.map_append, List.length_append]
        dsimp only [List.map_cons, List.map_nil, List.length_cons, List.length_nil, Nat.zero_add]
        exact sb
end Go.Proofs.Ytilcpcpmkklobaa

/- The disk: Crash. -/
namespace Go.Proofs.Ytilcpcpmkklobaa
set_option linter.unusedSimpArgs false
set_option linter.unusedVariables false
set_option linter.unnecessarySimpa false
open Go.RowKit

def keepAt (keep : List Int) (n : Nat) : Int := if keep = [] then 0 else keep.getD (n % keep.length) default
/-- The sectors after a failure: the first n of those with open writes are as they are found. -/
def crashL (D : DM) (keep : List Int) : Nat → List DCell
  | 0 => D.cells
  | n + 1 => (crashL D keep n).set (D.keys.getD n default).toNat (found (D.cell (D.keys.getD n default)) (D.get (D.keys.getD n default)) (keepAt keep n))
def DM.crash (D : DM) (keep : List Int) : DM := ⟨crashL D keep D.keys.length, [], 0, 0, -1, false⟩
theorem crashL_len (D : DM) (keep : List Int) : ∀ n, (crashL D keep n).length = D.cells.length
  | 0 => rfl
  | n + 1 => by rw [crashL, List.length_set]; exact crashL_len D keep n
theorem flat_bare {α : Type} {f : α → List PV} (h : ∀ x, (f x).map PV.bare = f x) (l : List α) : (l.flatMap f).map PV.bare = l.flatMap f := by
  rw [List.map_flatMap]; congr 1; funext x; exact h x
theorem dC_bare (D : DM) : (dC D).map PV.bare = dC D := flat_bare dcellL_bare _
theorem dC_len (D : DM) : (dC D).length = D.cells.length * 65 := flatMap_len dcellL_len _
theorem copy_cells {b : Nat → Option (List PV)} {id : Nat} (D : DM) (h : b id = some (dC D)) : copySrc b 65 (.msl id 0 D.cells.length 65) = some (D.cells.length, dC D) := by
  show (if (65 : Nat) = 65 then _ else none) = _
  rw [if_pos rfl, h]
  show (if 0 + D.cells.length * 65 ≤ (dC D).length then some (D.cells.length, (((dC D).drop 0).take (D.cells.length * 65)).map PV.bare) else none) = _
  rw [if_pos (by rw [dC_len]; omega), List.drop_zero, List.take_of_length_le (by rw [dC_len]; exact Nat.le_refl _), dC_bare]
theorem keys_len (D : DM) : D.keys.length = D.op.length := by unfold DM.keys keysR; rw [sortI_length, List.length_map]
theorem keys_mem {D : DM} {i : Int} : i ∈ D.keys ↔ i ∈ D.op.map (·.2.1) := by unfold DM.keys keysR; exact (sortI_perm _).mem_iff
theorem keys_at {D : DM} (hop : opOK D.cells.length D.op) {n : Nat} (hn : n < D.keys.length) : 0 ≤ D.keys.getD n default ∧ D.keys.getD n default < D.cells.length ∧ opIdx (D.keys.getD n default) D.op 0 ≠ none ∧ 0 < (D.get (D.keys.getD n default)).length ∧ (D.get (D.keys.getD n default)).length ≤ 1000000000 := by
  have hm : D.keys.getD n default ∈ D.keys := by
    rw [List.getD_eq_getElem?_getD, List.getElem?_eq_getElem hn]; exact List.getElem_mem hn
  generalize D.keys.getD n default = i at *
  obtain ⟨e, he, rfl⟩ := List.mem_map.1 (keys_mem.1 hm)
  obtain ⟨q1, q2, q3, q4⟩ := hop.2 e he
  obtain ⟨j, hj⟩ := List.getElem?_of_mem he
  have hix : opIdx e.2.1 D.op 0 = some j := by rw [opIdx_mem hop.1 hj, Nat.zero_add]
  have hget : D.get e.2.1 = e.2.2 := by
    unfold DM.get; rw [hix]
    simp only [List.getD_eq_getElem?_getD, hj, Option.getD_some]
  exact ⟨q1, q2, by rw [hix]; simp, by rw [hget]; exact q3, by rw [hget]; exact q4⟩

def crG (d c m d2 c2 m2 : Nat) (D D2 : DM) : List (Nat × List PV) := [(d, dB c m D), (c, dC D), (d2, dB c2 m2 D2), (c2, dC D2)]
def crM (m m2 : Nat) (D D2 : DM) : List (Nat × PMap) := [(m, dM D), (m2, dM D2)]

set_option maxRecDepth 10000 in
set_option maxHeartbeats 2000000 in
theorem dc_Crash1 (D : DM) (keep : List Int) (hsz : 1 ≤ D.cells.length ∧ D.cells.length ≤ 65536) (hop : opOK D.cells.length D.op) (hol : D.op.length ≤ 1000000000) (hk : keep.length ≤ 1000000000000000) (hki : ∀ x ∈ keep, -9223372036854775808 ≤ x ∧ x ≤ 9223372036854775807) :
    HCalls Try.prog 14 [.ptr 1000001 0, pints keep] (dG 1000001 1000002 1000003 D) (dMs 1000003 D) (.ptr 900005 0) (crG 1000001 1000002 1000003 900005 900006 900007 D (D.crash keep)) (crM 1000003 900007 D (D.crash keep)) := by
  have c1 := dC_low D
  have c2 := dM_low D
  have c3 := dC_low (D.crash keep)
  have c4 := dM_low (D.crash keep)
  have hsec := dc_sectors D hol 1000001 1000002 1000003 (by decide)
  have hnew := dc_New D.cells.length (by omega) 900005 900006 900007 (by decide)
  rw [Int.toNat_natCast] at hnew
  refine hcalls_of_pw typeTab_ok Try.func14 rfl rfl (by simp [PV.ownB, pints]) (Nat.le_of_ble_eq_true rfl) (by simp [ResIds, dG, dMs]) (by simp [ResIds, dG, dMs]) ⟨li_cons (.ptr _ _ (by first | simp [ResIds, dG, dMs, jG] | simp [ResIds, dG, dMs, crG, crM] | simp [ResIds, dG, dMs])) (li_cons (Low.lowI (by exact lw)) li_nil), by (repeat (first | exact li_nil | exact lb_nil | refine lb_cons ?_ ?_ | refine li_cons ?_ ?_ | exact dB_lowI (by first | simp [ResIds, dG, dMs, jG] | simp [ResIds, dG, dMs, crG, crM] | simp [ResIds, dG, dMs]) (by first | simp [ResIds, dG, dMs, jG] | simp [ResIds, dG, dMs, crG, crM] | simp [ResIds, dG, dMs]) _ | exact li_low (dC_low _) | exact LowI.ptr _ _ (by first | simp [ResIds, dG, dMs, jG] | simp [ResIds, dG, dMs, crG, crM] | simp [ResIds, dG, dMs]) | exact LowI.mref _ (by first | simp [ResIds, dG, dMs, jG] | simp [ResIds, dG, dMs, crG, crM] | simp [ResIds, dG, dMs]) | exact LowI.msl _ _ _ _ (by first | simp [ResIds, dG, dMs, jG] | simp [ResIds, dG, dMs, crG, crM] | simp [ResIds, dG, dMs]) | exact LowI.val _ | exact LowI.nilsl | exact Low.lowI (low_pputs _) | exact Low.lowI (psec_low _) | exact li_low (secL_low _) | exact li_low (by assumption) | refine LowI.agg _ ?_ | refine LowI.fn _ _ ?_ | refine LowI.tup _ ?_ | refine LowI.sl _ _ _ _ ?_)), lm_cons c2 lm_nil, .ptr _ _ (by simp [ResIds, crG, crM]), lb_cons (dB_lowI (by simp [ResIds, crG, crM]) (by simp [ResIds, crG, crM]) _) (lb_cons (li_low c1) (lb_cons (dB_lowI (by simp [ResIds, crG, crM]) (by simp [ResIds, crG, crM]) _) (lb_cons (li_low c3) lb_nil))), lm_cons c2 (lm_cons c4 lm_nil), by simp [crG, dG], by simp [crM, dMs]⟩ ?_
  have hnl : (newD D.cells.length).cells.length = D.cells.length := by simp [newD]
  have hnB : dB 900006 900007 (newD D.cells.length) = dB 900006 900007 (D.crash keep) := by simp [dB, newD, DM.crash, crashL_len]
  have hnM : dM (newD D.cells.length) = dM (D.crash keep) := rfl
  have hnC := dC_len (newD D.cells.length)
  rw [hnl] at hnC
  have hlk := keys_len D
  generalize hN : newD D.cells.length = N at *
  refine wk ?_
  refine PWops.copy (n2 := D.cells.length) (cs := dC D) (out := dC D) rfl rfl rfl rfl rfl ?_ rfl rfl rfl ?_ ?_ ?_ ?_
  · exact copy_cells D rfl
  · show 0 + min D.cells.length N.cells.length * 65 ≤ (dC N).length
    rw [hnC, hnl, Nat.min_self]; omega
  · rw [dC_len, hnl, Nat.min_self]; exact Nat.le_refl _
  · rw [hnl, Nat.min_self, ← dC_len D, List.take_length]
    unfold splice
    rw [List.take_zero, List.nil_append, Nat.zero_add, List.drop_of_length_le (by rw [hnC, dC_len]; exact Nat.le_refl _), List.append_nil]
  have hG : dG 900005 900006 900007 N = [(900005, dB 900006 900007 (D.crash keep)), (900006, dC N)] := by rw [← hnB]; rfl
  have hM : dMs 900007 N = [(900007, dM (D.crash keep))] := by rw [← hnM]; rfl
  rw [hG, hM, hnl, Nat.min_self]
  refine wk ?_
  refine PW.loop (fun n : Nat => (((((((((((bot.setb 1000001 (dB 1000002 1000003 D)).setb 1000002 (dC D)).setm 1000003 (dM D)).setb 900005 (dB 900006 900007 (D.crash keep))).setb 900006 ((crashL D keep n).flatMap dcellL)).setm 900007 (dM (D.crash keep))).put 0 (.ptr 1000001 0)).put 1 (pints keep)).put 5 (.ptr 900005 0)).put 25 (pints D.keys)).put 26 (pint D.keys.length)).put 27 (pint n))
    (fun n => n ≤ D.keys.length) (fun n => D.keys.length - n) 0 (Nat.zero_le _) ?_ ?_
  · exact sb
  · intro n hn
    by_cases hlt : n < D.keys.length
    · obtain ⟨k0, k1, k2, k3, k4⟩ := keys_at hop hlt
      obtain ⟨b, hb⟩ := dget D (D.keys.getD n default) (ki := ⟨1, false, .int .i64, [.val (.int .i64 0)], []⟩) (ei := ⟨1, false, .slice 33 64 64 (List.replicate 64 (.val (.int .u8 0))), [.nilsl], []⟩) rfl rfl
      rw [if_neg k2] at hb
      have hst : (crashL D keep (n + 1)) = (crashL D keep n).set (D.keys.getD n default).toNat (found (D.cell (D.keys.getD n default)) (D.get (D.keys.getD n default)) (keepAt keep n)) := rfl
      have hcl := crashL_len D keep n
      have hcc : (D.crash keep).cells.length = D.cells.length := crashL_len D keep _
      by_cases hk0 : keep = []
      · have hka : keepAt keep n = 0 := by rw [keepAt, if_pos hk0]
        have hf := pw_found (D.cell (D.keys.getD n default)) (D.get (D.keys.getD n default)) 0 ⟨k3, k4⟩ (by omega)
        rw [hka] at hst
        subst hk0
        refine wk ?_
        refine PWops.stBR (v := found (D.cell (D.keys.getD n default)) (D.get (D.keys.getD n default)) 0) rfl rfl rfl rfl rfl (by exact dcellL_cells _) rfl rfl rfl dcellL_len (by (first | omega | (dsimp only ; omega))) rfl ?_
        refine wk ?_
        refine loopP (n + 1) (by omega) (by omega) ?_
        try dsimp only
        rw [hst]
        have hlc : ∀ p ∈ ((crashL D [] n).set (D.keys.getD n default).toNat (found (D.cell (D.keys.getD n default)) (D.get (D.keys.getD n default)) 0)).flatMap dcellL, Low p := flat_low dcellL_low _
        exact sb
      · have hkl : 0 < keep.length := List.length_pos_iff.2 hk0
        have hka : keepAt keep n = keep.getD (n % keep.length) default := by rw [keepAt, if_neg hk0]
        have hkr : -9223372036854775808 ≤ keep.getD (n % keep.length) default ∧ keep.getD (n % keep.length) default ≤ 9223372036854775807 := by
          refine hki _ ?_
          rw [List.getD_eq_getElem?_getD, List.getElem?_eq_getElem (Nat.mod_lt _ hkl)]; exact List.getElem_mem _
        have hf := pw_found (D.cell (D.keys.getD n default)) (D.get (D.keys.getD n default)) _ ⟨k3, k4⟩ hkr
        rw [hka] at hst
        have hmod := Nat.mod_lt n hkl
        have hrem : ((n : Int)).tmod keep.length = ((n % keep.length : Nat) : Int) := rfl
        generalize n % keep.length = q at *
        refine wk ?_
        refine PWops.remY (z := (q : Int)) rfl rfl rfl rfl rfl rfl (by omega) hrem ?_
        refine wk ?_
        refine PWops.stBR (v := found (D.cell (D.keys.getD n default)) (D.get (D.keys.getD n default)) (keep.getD q default)) rfl rfl rfl rfl rfl (by exact dcellL_cells _) rfl rfl rfl dcellL_len (by (first | omega | (dsimp only ; omega))) rfl ?_
        refine wk ?_
        refine loopP (n + 1) (by omega) (by omega) ?_
        try dsimp only
        rw [hst]
        have hlc : ∀ p ∈ ((crashL D keep n).set (D.keys.getD n default).toNat (found (D.cell (D.keys.getD n default)) (D.get (D.keys.getD n default)) (keep.getD q default))).flatMap dcellL, Low p := flat_low dcellL_low _
        exact sb
    · obtain rfl : n = D.keys.length := by omega
      refine wk ?_
      exact RetH.mk rfl (Weak.refl _) ⟨⟨_, rfl, WeakL.refl _⟩, ⟨_, rfl, WeakL.refl _⟩, ⟨_, rfl, WeakL.refl _⟩, ⟨_, rfl, WeakL.refl _⟩, trivial⟩ ⟨⟨rfl, rfl⟩, ⟨rfl, rfl⟩, trivial⟩
theorem dc_Crash (D : DM) (keep : List Int) (hsz : 1 ≤ D.cells.length ∧ D.cells.length ≤ 65536) (hop : opOK D.cells.length D.op) (hol : D.op.length ≤ 1000000000) (hk : keep.length ≤ 1000000000000000) (hki : ∀ x ∈ keep, -9223372036854775808 ≤ x ∧ x ≤ 9223372036854775807) (d c m d2 c2 m2 : Nat) (hd : ([d, c, m, d2, c2, m2] : List Nat).Nodup) :
    HCalls Try.prog 14 [.ptr d 0, pints keep] (dG d c m D) (dMs m D) (.ptr d2 0) (crG d c m d2 c2 m2 D (D.crash keep)) (crM m m2 D (D.crash keep)) := by
  refine (dc_Crash1 D keep hsz hop hol hk hki).at [(1000001, d), (1000002, c), (1000003, m), (900005, d2), (900006, c2), (900007, m2)] (by simpa using hd) (by simp [ResIds, crG, crM]) (by simp [crG, dG]) (by simp [crM, dMs]) (.cons (.ptr _ _ (by first | simp [ResIds, dG, dMs, jG] | simp [ResIds, dG, dMs, crG, crM] | simp [ResIds, dG, dMs])) (.cons (.low _ (by exact lw)) .nil)) ?_ ?_ ?_ ?_ (.cons _ _ _ _ _ (RenM.low (dM_low _)) (.cons _ _ _ _ _ (RenM.low (dM_low _)) .nil)) <;> (repeat (first | exact RenL.nil | exact RenB.nil | exact RenMs.nil | exact RenMs.cons _ _ _ _ _ (RenM.low (dM_low _)) RenMs.nil | refine RenB.cons _ _ _ _ _ ?_ ?_ | exact RenL.low (dC_low _) | refine RenL.cons ?_ ?_ | exact Ren.ptr _ _ (by first | simp [ResIds, dG, dMs, jG] | simp [ResIds, dG, dMs, crG, crM] | simp [ResIds, dG, dMs]) | exact Ren.mref _ (by first | simp [ResIds, dG, dMs, jG] | simp [ResIds, dG, dMs, crG, crM] | simp [ResIds, dG, dMs]) | exact Ren.msl _ _ _ _ (by first | simp [ResIds, dG, dMs, jG] | simp [ResIds, dG, dMs, crG, crM] | simp [ResIds, dG, dMs]) | exact Ren.low _ (Low.val _) | exact Ren.low _ (low_pputs _) | exact Ren.low _ (psec_low _) | exact RenL.low (by assumption) | refine ren_agg ?_ | refine ren_fn ?_ | refine ren_sl ?_))
end Go.Proofs.Ytilcpcpmkklobaa

/- law22: written. -/
namespace Go.Proofs.Ytilcpcpmkklobaa
set_option linter.unusedSimpArgs false
set_option linter.unusedVariables false
set_option linter.unnecessarySimpa false
open Go.RowKit

theorem pcells_sec (s : Sec) : pcells (.agg (secL s)) = some (secL s) := by rw [pcells, secL_one, secL_bare]; rfl
theorem spl1 {cs : List PV} : ∀ {i : Nat} {v : PV}, i < cs.length → splice cs i [v] = cs.set i v := by
  intro i v h
  unfold splice
  rw [List.set_eq_take_append_cons_drop, if_pos h]
  simp
def wrR (d : Nat) (W : WS) : PV := .tup [.ptr d 0, .agg (W.sure.flatMap secL), .agg (W.op.map oB)]
def zRow : List PV := List.replicate 1024 (pbyte 0)
theorem kAt_mod (a : Int) : (a.tmod 16 + 16) % 16 = (kAt a : Nat) := by
  obtain ⟨h1, h2, h3⟩ := tmod_lo a 16 (by decide)
  rw [Int.tmod_eq_emod_of_nonneg (a := a.tmod 16 + 16) (by omega)] at h3
  rw [h3]; unfold kAt; omega
theorem presult3 {T : Tab} {σ : PS} {x y z : ResultVar} {p q r : PV} (h1 : pres1 T σ x = some p) (h2 : pres1 T σ y = some q) (h3 : pres1 T σ z = some r) : presult T σ [x, y, z] = some (.tup [p.bare, q.bare, r.bare]) := by
  simp [presult, h1, h2, h3]
theorem oB_bare (l : List Sec) : (oB l).bare = oB l := by unfold oB; split <;> rfl
theorem oB_one (l : List Sec) : PV.one (oB l) = true := by unfold oB; split <;> rfl
theorem oBs_bare (L : List (List Sec)) : (L.map oB).map PV.bare = L.map oB := by
  rw [List.map_map]; exact List.map_congr_left fun l _ => oB_bare l
theorem oBs_one (L : List (List Sec)) : (L.map oB).all PV.one = true := by
  rw [List.all_map, List.all_eq_true]; exact fun l _ => oB_one l
theorem oCs_bare {L : List (List Sec)} (h : L.length = 16) : (((L.map oC).drop 0).take 16).map PV.bare = L.map oB := by
  rw [List.drop_zero, List.take_of_length_le (by rw [List.length_map]; omega), List.map_map]; exact List.map_congr_left fun l _ => oC_bare l
theorem secs_bare (L : List Sec) : (L.flatMap secL).map PV.bare = L.flatMap secL := flat_bare secL_bare L
theorem secs_one (L : List Sec) : (L.flatMap secL).all PV.one = true := by
  rw [List.all_flatMap, List.all_eq_true]; exact fun l _ => secL_one l
theorem secs_len {L : List Sec} (h : L.length = 16) : (L.flatMap secL).length = 1024 := by rw [flatMap_len secL_len, h]

set_option maxRecDepth 10000 in
set_option maxHeartbeats 4000000 in
theorem wc_written1 (l : List ROp) (sy : Int) (hl : l.length ≤ 10000) (hsy : -9223372036854775808 ≤ sy ∧ sy ≤ 9223372036854775807) :
    HCalls Try.prog 13 [props l, pint sy] [] [] (wrR 900001 (wr sy l l.length)) (dG 900001 900002 900003 (wr sy l l.length).D) (dMs 900003 (wr sy l l.length).D) := by
  have c1 := fun n => dC_low (wr sy l n).D
  have c2 := fun n => dM_low (wr sy l n).D
  have hlp := low_props l
  have c3 : ∀ n, Low (.agg ((wr sy l n).sure.flatMap secL)) := fun n => .agg _ (flat_low secL_low _)
  have c4 : ∀ n, Low (.agg ((wr sy l n).op.map oB)) := fun n => .agg _ (low_map oB_low _)
  refine hcalls_of_pw typeTab_ok Try.func13 rfl rfl (by simp [PV.ownB, props, pint]) (Nat.le_of_ble_eq_true rfl) (by simp [ResIds]) (by simp [ResIds]) ⟨li_cons (Low.lowI (low_props l)) (li_cons (Low.lowI (.val _)) li_nil), lb_nil, lm_nil, by (refine .tup _ ?_ ; intro c hc ; simp at hc ; rcases hc with rfl | rfl | rfl ; exact .ptr _ _ (by simp [ResIds, dG]) ; exact (c3 _).lowI ; exact (c4 _).lowI), lb_cons (dB_lowI (by simp [ResIds, dG]) (by simp [ResIds, dMs]) _) (lb_cons (li_low (c1 _)) lb_nil), lm_cons (c2 _) lm_nil, by simp [dG], by simp [dMs]⟩ ?_
  have hnew := dc_New 16 (by decide) 900001 900002 900003 (by decide)
  rw [show (16 : Int).toNat = 16 from rfl] at hnew
  have e0 : newD 16 = (wr sy l 0).D := rfl
  rw [e0] at hnew
  refine wk ?_
  refine PW.loop (fun n : Nat => (((((((((((((((((bot.setb 900001 (dB 900002 900003 (wr sy l n).D)).setb 900002 (dC (wr sy l n).D)).setm 900003 (dM (wr sy l n).D)).setb 1 ((List.replicate 16 zeroSec).flatMap secL)).setb 2 ((List.replicate 16 ([] : List Sec)).map oB)).setb 2000 ((wr sy l n).sure.flatMap secL)).setb 3000 ((wr sy l n).op.map oC)).put 0 (props l)).put 1 (pint sy)).put 4 (.val (.pointer none))).put 5 (.ptr 1 0)).put 6 (.ptr 2 0)).put 7 (.ptr 900001 0)).put 8 (.ptr 2000 0)).put 9 (.ptr 3000 0)).put 17 (props l)).put 18 (pint l.length)).put 19 (pint n)) (fun n => n ≤ l.length) (fun n => l.length - n) 0 (Nat.zero_le _) ?_ ?_
  · have b1 := c1 0
    have b2 := c2 0
    have z1 : ∀ c ∈ (List.replicate 16 zeroSec).flatMap secL, Low c := flat_low secL_low _
    have z2 : ∀ c ∈ (List.replicate 16 ([] : List Sec)).map oB, Low c := low_map oB_low _
    have z3 : ∀ c ∈ (wr sy l 0).op.map oC, Low c := low_map oC_low _
    have z4 : ∀ c ∈ (wr sy l 0).sure.flatMap secL, Low c := flat_low secL_low _
    exact sb
  · intro n hn
    have w := wr_ok sy l n (by omega)
    by_cases hlt : n < l.length
    · have hW : wr sy l (n + 1) = if (n : Int) + 1 = sy then synW (putW (wr sy l n) (l.getD n default)) else putW (wr sy l n) (l.getD n default) := rfl
      clear hnew
      refine wk ?_
      have hlr : ∀ n, ((wr sy l n).sure.length = 16) → True := fun _ _ => trivial
      have hfl := pw_filled (l.getD n default).b
      obtain ⟨g1, g2⟩ := w.wr (by omega) (l.getD n default)
      have hwr := dc_Write (wr sy l n).D (kAt (l.getD n default).a : Nat) (fillB (l.getD n default).b) ⟨w.ok.steps.1, by have := w.ok.steps.2; omega, by rw [w.ok.after]; decide⟩ (by rw [w.ok.after]; decide) (fun e he => by have := w.ok.room e he; omega) 900001 900002 900003 (by decide)
      rw [g1] at hwr
      have hop1 : (putW (wr sy l n) (l.getD n default)).op = (wr sy l n).op.set (kAt (l.getD n default).a) ((wr sy l n).op.getD (kAt (l.getD n default).a) default ++ [fillB (l.getD n default).b]) := rfl
      have hsu1 : (putW (wr sy l n) (l.getD n default)).sure = (wr sy l n).sure := rfl
      have hrow := row_le w.ok (kAt (l.getD n default).a : Nat)
      rw [w.get _ (kAt_lt _)] at hrow
      have hk := kAt_lt (l.getD n default).a
      have hkm := kAt_mod (l.getD n default).a
      have ht := tmod_lo (l.getD n default).a 16 (by decide)
      have hol := w.ol
      have hsl := w.sl
      generalize putW (wr sy l n) (l.getD n default) = W1 at *
      generalize wr sy l n = W at *
      generalize l.getD n default = x at *
      generalize kAt x.a = k at *
      generalize hT : x.a.tmod 16 = tm at *
      generalize fillB x.b = f at *
      refine PWops.remY (z := tm) rfl rfl rfl rfl rfl rfl (by decide) hT ?_
      refine wk ?_
      rw [hkm]
      refine wk ?_
      rw [Int.toNat_natCast]
      refine PWops.ldOC rfl rfl rfl rfl rfl rfl rfl rfl rfl (by omega) ?_
      refine wk ?_
      refine PWops.appOC rfl rfl rfl rfl rfl rfl rfl (by omega) (by omega) ?_
      refine wk ?_
      rw [Int.toNat_natCast]
      refine PWops.stOC rfl rfl rfl rfl rfl (by simp) rfl rfl rfl rfl (by omega) ?_
      rw [← hop1, ← hsu1]
      have hol1 := g2.ol
      have hsl1 := g2.sl
      by_cases hc : (n : Int) + 1 = sy
      · rw [if_pos hc] at hW
        obtain ⟨g3, g4⟩ := g2.sync
        have hsyn := dc_Sync W1.D ⟨g2.ok.steps.1, by have := g2.ok.steps.2; omega, by rw [g2.ok.after]; decide⟩ (by rw [g2.ok.after]; decide) (by rw [g2.ok.len]; decide) (by rw [g2.ok.len]; exact g2.ok.op) 900001 900002 900003 (by decide)
        rw [g3] at hsyn
        have hsy : ∀ q, q = 16 → (synW W1).sure = (syN W1.sure W1.op q).1 ∧ (synW W1).op = (syN W1.sure W1.op q).2 := by
          rintro q rfl
          exact ⟨by simp only [synW], by simp only [synW]⟩
        generalize synW W1 = W2 at *
        refine wk ?_
        refine PW.loop (fun i : Nat => ((((((((((((((((((bot.setb 900001 (dB 900002 900003 W2.D)).setb 900002 (dC W2.D)).setm 900003 (dM W2.D)).setb 1 ((List.replicate 16 zeroSec).flatMap secL)).setb 2 ((List.replicate 16 ([] : List Sec)).map oB)).setb 2000 ((syN W1.sure W1.op i).1.flatMap secL)).setb 3000 ((syN W1.sure W1.op i).2.map oC)).put 0 (props l)).put 1 (pint sy)).put 4 (.val (.pointer none))).put 5 (.ptr 1 0)).put 6 (.ptr 2 0)).put 7 (.ptr 900001 0)).put 8 (.ptr 2000 0)).put 9 (.ptr 3000 0)).put 17 (props l)).put 18 (pint l.length)).put 19 (pint n)).put 58 (pint i)) (fun i => i ≤ 16) (fun i => 16 - i) 0 (Nat.zero_le _) ?_ ?_
        · have b1 := dC_low W2.D
          have b2 := dM_low W2.D
          have z1 : ∀ c ∈ (List.replicate 16 zeroSec).flatMap secL, Low c := flat_low secL_low _
          have z2 : ∀ c ∈ (List.replicate 16 ([] : List Sec)).map oB, Low c := low_map oB_low _
          have z3 : ∀ c ∈ W1.op.map oC, Low c := low_map oC_low _
          have z4 : ∀ c ∈ W1.sure.flatMap secL, Low c := flat_low secL_low _
          have e0 : syN W1.sure W1.op 0 = (W1.sure, W1.op) := rfl
          dsimp only
          rw [e0]
          exact sb
        · intro i hi
          obtain ⟨q1, q2⟩ := syN_len W1.sure W1.op i
          by_cases hlt2 : i < 16
          · have hP : syN W1.sure W1.op (i + 1) = if (syN W1.sure W1.op i).2.getD i default = [] then syN W1.sure W1.op i else ((syN W1.sure W1.op i).1.set i (lastS ((syN W1.sure W1.op i).2.getD i default)), (syN W1.sure W1.op i).2.set i []) := rfl
            have hrow2 : ((syN W1.sure W1.op i).2.getD i default).length ≤ 1000000 := by
              rw [(syN_get hsl1 hol1 hi i hlt2).1, if_neg (Nat.lt_irrefl i), ← g2.get i hlt2]
              have := row_le g2.ok i
              omega
            generalize syN W1.sure W1.op i = p at *
            obtain ⟨su, op'⟩ := p
            simp only at q1 q2 hrow2 hP ⊢
            have hg : ∀ r : List Sec, lastS r = r.getD ((r.length : Int) - 1).toNat default := fun _ => rfl
            have hset : splice (op'.map oC) i [.nilsl] = (op'.set i []).map oC := by
              rw [List.map_set]
              exact spl1 (v := oC []) (by rw [List.length_map]; omega)
            generalize hro : op'.getD i default = r at *
            by_cases hr : r = []
            · rw [if_pos hr] at hP
              refine wk ?_
              rw [Int.toNat_natCast]
              refine PWops.ldOB rfl rfl rfl rfl rfl rfl rfl rfl rfl (by omega) ?_
              rw [hro, oB_nil hr]
              refine wk ?_
              refine loopP (i + 1) (by omega) (by omega) ?_
              try dsimp only
              rw [hP]
              have b1 := dC_low W2.D
              have b2 := dM_low W2.D
              have z1 : ∀ c ∈ (List.replicate 16 zeroSec).flatMap secL, Low c := flat_low secL_low _
              have z2 : ∀ c ∈ (List.replicate 16 ([] : List Sec)).map oB, Low c := low_map oB_low _
              have z3 : ∀ c ∈ op'.map oC, Low c := low_map oC_low _
              have z4 : ∀ c ∈ su.flatMap secL, Low c := flat_low secL_low _
              exact sb
            · rw [if_neg hr] at hP
              have hrl : 0 < r.length := List.length_pos_iff.2 hr
              refine wk ?_
              rw [Int.toNat_natCast]
              refine PWops.ldOB rfl rfl rfl rfl rfl rfl rfl rfl rfl (by omega) ?_
              rw [hro, oB_ne hr]
              refine wk ?_
              rw [Int.toNat_natCast]
              refine PWops.ldOB rfl rfl rfl rfl rfl rfl rfl rfl rfl (by omega) ?_
              rw [hro, oB_ne hr]
              refine wk ?_
              rw [Int.toNat_natCast]
              refine PWops.stBR (v := r.getD ((r.length : Int) - 1).toNat default) rfl rfl rfl rfl rfl (by exact (pcells_sec _)) rfl rfl rfl secL_len (by omega) rfl ?_
              refine wk ?_
              rw [Int.toNat_natCast]
              refine PWops.stB (new := [.nilsl]) rfl rfl rfl rfl rfl rfl rfl rfl rfl ⟨rfl, by rw [List.length_map]; show i + 1 ≤ _; omega⟩ hset ?_
              refine wk ?_
              refine loopP (i + 1) (by omega) (by omega) ?_
              try dsimp only
              rw [hP, hg]
              have b1 := dC_low W2.D
              have b2 := dM_low W2.D
              have z1 : ∀ c ∈ (List.replicate 16 zeroSec).flatMap secL, Low c := flat_low secL_low _
              have z2 : ∀ c ∈ (List.replicate 16 ([] : List Sec)).map oB, Low c := low_map oB_low _
              have z3 : ∀ c ∈ (op'.set i []).map oC, Low c := low_map oC_low _
              have z4 : ∀ c ∈ (su.set i (r.getD ((r.length : Int) - 1).toNat default)).flatMap secL, Low c := flat_low secL_low _
              exact sb
          · obtain ⟨y1, y2⟩ := hsy i (by omega)
            rw [← y1, ← y2]
            clear y1 y2 q1 q2 hsy
            refine wk ?_
            refine loopP (n + 1) (by omega) (by omega) ?_
            try dsimp only
            rw [hW]
            have b1 := dC_low W2.D
            have b2 := dM_low W2.D
            have z1 : ∀ c ∈ (List.replicate 16 zeroSec).flatMap secL, Low c := flat_low secL_low _
            have z2 : ∀ c ∈ (List.replicate 16 ([] : List Sec)).map oB, Low c := low_map oB_low _
            have z3 : ∀ c ∈ W2.op.map oC, Low c := low_map oC_low _
            have z4 : ∀ c ∈ W2.sure.flatMap secL, Low c := flat_low secL_low _
            exact sb
      · rw [if_neg hc] at hW
        refine wk ?_
        refine loopP (n + 1) (by omega) (by omega) ?_
        try dsimp only
        rw [hW]
        have b1 := dC_low W1.D
        have b2 := dM_low W1.D
        have z1 : ∀ c ∈ (List.replicate 16 zeroSec).flatMap secL, Low c := flat_low secL_low _
        have z2 : ∀ c ∈ (List.replicate 16 ([] : List Sec)).map oB, Low c := low_map oB_low _
        have z3 : ∀ c ∈ W1.op.map oC, Low c := low_map oC_low _
        have z4 : ∀ c ∈ W1.sure.flatMap secL, Low c := flat_low secL_low _
        exact sb
    · obtain rfl : n = l.length := by omega
      have hol := w.ol
      have hsl := w.sl
      generalize wr sy l l.length = W at *
      refine wg ?_
      refine PW.region typeTab_ok (by kernel_rfl) ?_
      refine wg ?_
      refine PW.drawE typeTab_ok (by kernel_rfl) (by kernel_rfl) (by kernel_rfl) ?_
      have hbl := secs_len hsl
      have hob : (W.op.map oB).length = 16 := by rw [List.length_map]; exact hol
      refine wk ?_
      refine PWops.ldAll rfl rfl rfl rfl rfl rfl rfl hbl (secs_bare _) ?_
      refine PWops.ldBA (row := W.op.map oB) rfl rfl rfl rfl rfl rfl rfl (by rw [List.length_map]; omega) (oCs_bare hol) ?_
      refine wk ?_
      refine PWops.stAll rfl rfl rfl rfl rfl rfl rfl rfl rfl hbl (secs_len (by simp)) (secs_one _) (secs_bare _) ?_
      refine PWops.stAll rfl rfl rfl rfl rfl rfl rfl rfl rfl hob (by simp) (oBs_one _) (oBs_bare _) ?_
      refine wk ?_
      exact RetH.mk (presult3 rfl (pres_cell rfl rfl rfl hbl (secs_bare _)) (pres_cell rfl rfl rfl hob (oBs_bare _))) (Weak.refl _) ⟨⟨_, rfl, WeakL.refl _⟩, ⟨_, rfl, WeakL.refl _⟩, trivial⟩ ⟨⟨rfl, rfl⟩, trivial⟩
end Go.Proofs.Ytilcpcpmkklobaa

/- slices.Repeat of one number; the disk: Open. -/
namespace Go.Proofs.Ytilcpcpmkklobaa
set_option linter.unusedSimpArgs false
set_option linter.unusedVariables false
set_option linter.unnecessarySimpa false
open Go.RowKit

section
variable {P : Program} {T : Tab} {σ : PS} {o : Oper} {i base : Nat} {ops : Array Oper} {ok : Nat → Nat → Bool} {rest : List (Nat × Oper)} {K : PS → Prop}
/-- Part of a slice that may be written to. -/
theorem PWops.slcW {d id o' n k h l e by_ : Nat} {zr : List PV} {x : Operand} {lo hi : Option Operand} {t : TypeId} {ti : TyI} (hg : pguard ops σ o = some true) (hd : o.dst = some d) (hop : o.op = .slice t x lo hi none) (hx : pev σ x = .msl id o' n k) (ht : T.at t = some ti) (hk : ti.kind = .slice e k by_ zr) (hb : σ.freeB (base + i) = true) (hh : pbound n n (hi.map (pev σ)) = some h) (hlo : pbound 0 h (lo.map (pev σ)) = some l)
    (kn : PWops P T ops base ok rest K (σ.put d (.msl id (o' + l * k) (h - l) k))) : PWops P T ops base ok ((i, o) :: rest) K σ := by
  refine PWops.valEq hg hd (p := .msl id (o' + l * k) (h - l) k) ?_ rfl hb kn
  have e1 : ∀ x : Operand, pev (σ.only (ok i)) x = pev σ x := fun x => pev_only ..
  have e2 : ∀ x : Option Operand, x.map (pev (σ.only (ok i))) = x.map (pev σ) := fun x => by cases x <;> simp [e1]
  simp [hop, presE, pvalA, pval, pev_only, e2, hx, ht, hk, pslice, hh, hlo]
end

def pU64 (z : Int) : PV := .val (.int .u64 z)
theorem pc_mul (x y : Nat) (hx : x < 18446744073709551616) (hy : y < 18446744073709551616) : PCalls Try.prog 43 [pU64 x, pU64 y] (· = .tup [pU64 (x * y / 18446744073709551616 : Nat), pU64 (x * y % 18446744073709551616 : Nat)]) := by
  refine ⟨by kernel_rfl, fun Φ μ w vs himm hgl hrep => ?_⟩
  have hl1 := hrep.1
  match vs, hl1 with
  | [v1, v2], _ =>
  obtain ⟨rfl, -⟩ := (hrep.2 0 _ v1 rfl rfl).val_inv
  obtain ⟨rfl, -⟩ := (hrep.2 1 _ v2 rfl rfl).val_inv
  refine (Try.bits_Mul x y hx hy w).mono ?_
  rintro e w' ⟨rfl, rfl⟩
  exact ⟨_, _, Φ, rfl, rfl, (RepL.cons (.val _ rfl) (RepL.cons (.val _ rfl) .nil)).tup, himm, fun _ _ _ => rfl, Below.refl _ _, fun n k cs E e => by cases e⟩

theorem rep_zeros (N : Nat) : (List.replicate N [PV.val (.int .i64 0)]).flatten = List.replicate N (pint 0) := by
  induction N with
  | zero => rfl
  | succ n ih => rw [List.replicate_succ, List.flatten_cons, ih]; rfl
def rfill (i : Int) (N a : Nat) : List PV := List.replicate a (pint i) ++ List.replicate (N - a) (pint 0)
theorem rfill_len {i : Int} {N a : Nat} (h : a ≤ N) : (rfill i N a).length = N := by simp [rfill]; omega
theorem rfill_low (i : Int) (N a : Nat) : ∀ c ∈ rfill i N a, Low c := by
  intro c hc
  rcases List.mem_append.1 hc with h | h
  · rw [(List.mem_replicate.1 h).2]; exact .val _
  · rw [(List.mem_replicate.1 h).2]; exact .val _

theorem rfill_src {b : Nat → Option (List PV)} {id : Nat} {i : Int} {N a : Nat} (h : a ≤ N) (hb : b id = some (rfill i N a)) : copySrc b 1 (.msl id (0 + 0 * 1) (a - 0) 1) = some (a, List.replicate a (pint i)) := by
  show (if (1 : Nat) = 1 then _ else none) = _
  rw [if_pos rfl, hb]
  show (if 0 + 0 * 1 + (a - 0) * 1 ≤ (rfill i N a).length then some (a - 0, (((rfill i N a).drop (0 + 0 * 1)).take ((a - 0) * 1)).map PV.bare) else none) = _
  rw [if_pos (by rw [rfill_len h]; omega)]
  simp only [Nat.sub_zero, Nat.mul_one, Nat.zero_add, List.drop_zero]
  have e : (rfill i N a).take a = List.replicate a (pint i) := List.take_left' (by simp)
  rw [e, List.map_replicate]; rfl
theorem rfill_splice {i : Int} {N a m : Nat} (h : a + m ≤ N) (hm : m ≤ a) : splice (rfill i N a) (0 + a * 1) ((List.replicate a (pint i)).take (m * 1)) = rfill i N (a + m) := by
  simp only [Nat.zero_add, Nat.mul_one, List.take_replicate, Nat.min_eq_left hm]
  unfold splice
  rw [List.length_replicate, ← List.drop_drop]
  have e1 : (rfill i N a).take a = List.replicate a (pint i) := List.take_left' (by simp)
  have e2 : (rfill i N a).drop a = List.replicate (N - a) (pint 0) := List.drop_left' (by simp)
  rw [e1, e2, List.drop_replicate, List.replicate_append_replicate, rfill]
  congr 2; omega

set_option maxRecDepth 10000 in
set_option maxHeartbeats 1000000 in
theorem pc_repeat (i : Int) (N : Nat) (hN : 1 ≤ N ∧ N ≤ 1000000000) : PCalls Try.prog 38 [.sl 1 1 [pint i] none, pint N] (· = .sl N 1 (List.replicate N (pint i)) none) := by
  refine pcalls_of_pw typeTab_ok Try.func38 rfl (by kernel_rfl) (by exact lw) (by simp [pint, PV.ownB]) (Nat.le_of_ble_eq_true rfl) ?_
  have hmul := pc_mul 1 N (by decide) (by omega)
  rw [show 1 * N / 18446744073709551616 = 0 by omega, show 1 * N % 18446744073709551616 = N by omega] at hmul
  have w1 : IntKind.u64.wrap ((1 : Nat) : Int) = ((1 : Nat) : Int) := by decide
  have w2 : IntKind.u64.wrap (N : Int) = (N : Int) := by
    simp [IntKind.wrap, IntKind.signed, IntKind.bits]; omega
  have w3 : IntKind.i64.wrap (N : Int) = (N : Int) := IntWalk.i64_in _ ⟨by omega, by omega⟩
  unfold pU64 at hmul
  rw [← w1, ← w2] at hmul
  have e1 : (rfill i N 1) = splice (List.replicate N (pint 0)) 0 ([pint i].take (min 1 N * 1)) := by
    have : min 1 N * 1 = 1 := by omega
    rw [this]
    simp [rfill, splice]
  refine wk ?_
  rw [w2]
  refine wk ?_
  try rw [w3]
  refine PWops.mkS (out := List.replicate N (pint 0)) rfl rfl rfl rfl rfl rfl rfl rfl ⟨by omega, by omega, by omega⟩ (rep_zeros N) ?_
  refine wk ?_
  rw [Int.toNat_natCast]
  refine PWops.copy (n2 := 1) (cs := [pint i]) (out := rfill i N 1) rfl rfl rfl rfl rfl rfl rfl rfl rfl (by rw [List.length_replicate]; omega) (by show min 1 N * 1 ≤ 1; omega) e1.symm ?_
  refine wk ?_
  have e2 : min 1 N = 1 := by omega
  rw [e2]
  refine PW.loop (fun a : Nat => ((bot.setb 6002 (rfill i N a)).put 7 (.msl 6002 0 N 1)).put 8 (pint a)) (fun a => 1 ≤ a ∧ a ≤ N) (fun a => N - a) 1 ⟨Nat.le_refl _, hN.1⟩ ?_ ?_
  · have hl := rfill_low i N 1
    exact sb
  · rintro a ⟨a1, a2⟩
    by_cases ha : a < N
    · refine wk ?_
      refine PWops.slcW (h := N) (l := a) rfl rfl rfl rfl rfl rfl rfl rfl ?_ ?_
      · show (if 0 ≤ (a : Int) ∧ (a : Int) ≤ N then some (a : Int).toNat else none) = some a
        rw [if_pos ⟨by omega, by omega⟩]; rfl
      refine wk ?_
      refine PWops.slcW (h := a) (l := 0) rfl rfl rfl rfl rfl rfl rfl ?_ rfl ?_
      · show (if 0 ≤ (a : Int) ∧ (a : Int) ≤ N then some (a : Int).toNat else none) = some a
        rw [if_pos ⟨by omega, by omega⟩]; rfl
      refine wk ?_
      refine PWops.copy (n2 := a) (cs := (List.replicate a (pint i))) (out := rfill i N (a + min a (N - a))) rfl rfl rfl rfl rfl ?_ rfl rfl rfl ?_ ?_ ?_ ?_
      · exact rfill_src a2 rfl
      · rw [rfill_len a2]; omega
      · rw [List.length_replicate]; omega
      · exact rfill_splice (by omega) (by omega)
      have hc : ((a : Int) + ((min a (N - a) : Nat) : Int)) = ((a + min a (N - a) : Nat) : Int) := rfl
      refine wk ?_
      rw [hc]
      refine loopP (a + min a (N - a)) ⟨by omega, by omega⟩ (by omega) ?_
      have hl := rfill_low i N (a + min a (N - a))
      exact sb
    · obtain rfl : a = N := by omega
      have hfull : rfill i a a = List.replicate a (pint i) := by simp [rfill]
      rw [hfull]
      refine PW.freeze (s := 7) (id := 6002) (σ' := bot.put 8 (pint a)) rfl rfl (by rw [List.length_replicate, Nat.mul_one]) ?_ ?_ rfl ?_
      · intro c hc; rw [(List.mem_replicate.1 hc).2]; exact .val _
      · (repeat (first | exact SubR.bot | ((with_reducible refine SubR.isp ?_) ; refine SubR.put ?_ (by (first | exact .inl (.ptr _ _ rfl) | exact .inl (.msl _ _ _ _ rfl) | exact .inl (.mref _ rfl) | exact .inl (.low _ (by (first | exact low_mapI | exact low_mapS | exact low_mapB | assumption | exact hlow _ | exact hlow _ _ | exact Low.agg _ (low_map (fun _ => Low.val _) _) | (simp [low_pu32, low_pu64, low_val, low_nilsl, low_sl, low_ep, low_agg, low_tup, low_fn, low_pint, low_pstr, low_pbool, low_pints, low_pstrs, low_pbyte, low_pbytes, hlow] ; done) | (simp [low_pu32, low_pu64, low_val, low_nilsl, low_sl, low_ep, low_agg, low_tup, low_fn, low_pint, low_pstr, low_pbool, low_pints, low_pstrs, low_pbyte, low_pbytes] ; done) | simp [low_pu32, low_pu64, low_val, low_nilsl, low_sl, low_ep, low_agg, low_tup, low_fn, low_pint, low_pstr, low_pbool, low_pints, low_pstrs, low_pbyte, low_pbytes, low_pattrs, low_pdefs, low_pschema, low_pentry]))) | exact .inr (.inl (.low _ (by (first | exact low_mapI | exact low_mapS | exact low_mapB | assumption | exact hlow _ | exact hlow _ _ | exact Low.agg _ (low_map (fun _ => Low.val _) _) | (simp [low_pu32, low_pu64, low_val, low_nilsl, low_sl, low_ep, low_agg, low_tup, low_fn, low_pint, low_pstr, low_pbool, low_pints, low_pstrs, low_pbyte, low_pbytes, hlow] ; done) | (simp [low_pu32, low_pu64, low_val, low_nilsl, low_sl, low_ep, low_agg, low_tup, low_fn, low_pint, low_pstr, low_pbool, low_pints, low_pstrs, low_pbyte, low_pbytes] ; done) | simp [low_pu32, low_pu64, low_val, low_nilsl, low_sl, low_ep, low_agg, low_tup, low_fn, low_pint, low_pstr, low_pbool, low_pints, low_pstrs, low_pbyte, low_pbytes, low_pattrs, low_pdefs, low_pschema, low_pentry])))) | exact .inr (.inr ⟨_, _, rfl, rfl⟩)))) | ((with_reducible refine SubR.isb ?_) ; refine SubR.setb ?_ rfl rfl (by (first | exact RenQL.low (by first | assumption | exact hlow _ | exact hlow _ _ | exact low_map (fun _ => Low.val _) _) | exact RenQL.lowE (by assumption) (low_map (fun _ => Low.val _) _) | ((repeat (refine RenQL.cons (by (first | exact .inl (.ptr _ _ rfl) | exact .inl (.msl _ _ _ _ rfl) | exact .inl (.mref _ rfl) | exact .inl (.low _ (by (first | exact low_mapI | exact low_mapS | exact low_mapB | assumption | exact hlow _ | exact hlow _ _ | exact Low.agg _ (low_map (fun _ => Low.val _) _) | (simp [low_pu32, low_pu64, low_val, low_nilsl, low_sl, low_ep, low_agg, low_tup, low_fn, low_pint, low_pstr, low_pbool, low_pints, low_pstrs, low_pbyte, low_pbytes, hlow] ; done) | (simp [low_pu32, low_pu64, low_val, low_nilsl, low_sl, low_ep, low_agg, low_tup, low_fn, low_pint, low_pstr, low_pbool, low_pints, low_pstrs, low_pbyte, low_pbytes] ; done) | simp [low_pu32, low_pu64, low_val, low_nilsl, low_sl, low_ep, low_agg, low_tup, low_fn, low_pint, low_pstr, low_pbool, low_pints, low_pstrs, low_pbyte, low_pbytes, low_pattrs, low_pdefs, low_pschema, low_pentry]))) | exact .inr (.inl (.low _ (by (first | exact low_mapI | exact low_mapS | exact low_mapB | assumption | exact hlow _ | exact hlow _ _ | exact Low.agg _ (low_map (fun _ => Low.val _) _) | (simp [low_pu32, low_pu64, low_val, low_nilsl, low_sl, low_ep, low_agg, low_tup, low_fn, low_pint, low_pstr, low_pbool, low_pints, low_pstrs, low_pbyte, low_pbytes, hlow] ; done) | (simp [low_pu32, low_pu64, low_val, low_nilsl, low_sl, low_ep, low_agg, low_tup, low_fn, low_pint, low_pstr, low_pbool, low_pints, low_pstrs, low_pbyte, low_pbytes] ; done) | simp [low_pu32, low_pu64, low_val, low_nilsl, low_sl, low_ep, low_agg, low_tup, low_fn, low_pint, low_pstr, low_pbool, low_pints, low_pstrs, low_pbyte, low_pbytes, low_pattrs, low_pdefs, low_pschema, low_pentry])))) | exact .inr (.inr ⟨_, _, rfl, rfl⟩))) ?_)) ; exact RenQL.nil)))) | ((with_reducible refine SubR.ism ?_) ; refine SubR.setm ?_ rfl rfl (by (first | exact ⟨rfl, rfl, rfl, rfl, rfl⟩ | exact RenM.low (by first | assumption | exact hlowm _ | exact hlowm _ _))))))
      refine wk ?_
      exact retP rfl (by exact lw) rfl

theorem one_rep (i : Int) : ∀ N : Nat, (List.replicate N (pint i)).all PV.one = true
  | 0 => rfl
  | n + 1 => by rw [List.replicate_succ, List.all_cons, one_rep i n]; rfl

/-- The open writes: each sector as often as it has some; of the first n sectors. -/
def openN (D : DM) (n : Nat) : List Int := (D.keys.take n).flatMap fun i => List.replicate (D.get i).length i
def DM.openL (D : DM) : List Int := D.keys.flatMap fun i => List.replicate (D.get i).length i
theorem openN_all (D : DM) : openN D D.keys.length = D.openL := by rw [openN, List.take_length, DM.openL]
theorem openN_succ {D : DM} {n : Nat} (h : n < D.keys.length) : openN D (n + 1) = openN D n ++ List.replicate (D.get (D.keys.getD n default)).length (D.keys.getD n default) := by
  have e : D.keys.getD n default = D.keys[n] := by rw [List.getD_eq_getElem?_getD, List.getElem?_eq_getElem h]; rfl
  rw [e, openN, List.take_add_one, List.getElem?_eq_getElem h, List.flatMap_append]
  simp [openN]
theorem openN_le (D : DM) (n : Nat) : (openN D n).length ≤ D.openL.length := by
  have h : D.openL = openN D n ++ (D.keys.drop n).flatMap fun i => List.replicate (D.get i).length i := by
    rw [openN, DM.openL, ← List.flatMap_append, List.take_append_drop]
  rw [h, List.length_append]; omega

set_option maxRecDepth 10000 in
set_option maxHeartbeats 2000000 in
theorem dc_Open (D : DM) (hop : opOK D.cells.length D.op) (hol : D.op.length ≤ 1000000000) (htot : D.openL.length ≤ 1000000000) : DCalls 18 [] D (pints D.openL) D := by
  refine dcalls_of_pw Try.func18 rfl rfl (by simp) (by simp) (Nat.le_of_ble_eq_true rfl) (by exact lw) ?_
  have hsec := dc_sectors D hol 1000001 1000002 1000003 (by decide)
  have c1 := dC_low D
  have c2 := dM_low D
  have hlk := keys_len D
  refine wk ?_
  refine PW.loop (fun n : Nat => (((((((bot.setb 1000001 (dB 1000002 1000003 D)).setb 1000002 (dC D)).setm 1000003 (dM D)).put 0 (.ptr 1000001 0)).put 3 (.sl (openN D n).length 1 ((openN D n).map pint) (some 3))).put 7 (pints D.keys)).put 8 (pint D.keys.length)).put 9 (pint n))
    (fun n => n ≤ D.keys.length) (fun n => D.keys.length - n) 0 (Nat.zero_le _) ?_ ?_
  · have e0 : openN D 0 = [] := rfl
    dsimp only
    rw [e0]
    exact sb
  · intro n hn
    by_cases hlt : n < D.keys.length
    · obtain ⟨k0, k1, k2, k3, k4⟩ := keys_at hop hlt
      obtain ⟨b, hb⟩ := dget D (D.keys.getD n default) (ki := ⟨1, false, .int .i64, [.val (.int .i64 0)], []⟩) (ei := ⟨1, false, .slice 33 64 64 (List.replicate 64 (.val (.int .u8 0))), [.nilsl], []⟩) rfl rfl
      rw [if_neg k2] at hb
      have hs := openN_succ hlt
      have hle := openN_le D (n + 1)
      rw [hs, List.length_append, List.length_replicate] at hle
      have hrep := pc_repeat (D.keys.getD n default) (D.get (D.keys.getD n default)).length ⟨k3, by omega⟩
      refine wk ?_
      refine PWops.app rfl rfl rfl rfl rfl rfl rfl rfl (by omega) (by omega) (one_rep _ _) ?_
      refine wk ?_
      refine loopP (n + 1) (by omega) (by omega) ?_
      try dsimp only
      have hq : (.sl ((openN D n).length + (D.get (D.keys.getD n default)).length) 1 ((openN D n).map pint ++ List.replicate (D.get (D.keys.getD n default)).length (pint (D.keys.getD n default))) (some 3) : PV) = .sl (openN D (n + 1)).length 1 ((openN D (n + 1)).map pint) (some 3) := by
        rw [hs, List.length_append, List.length_replicate, List.map_append, List.map_replicate]
      rw [hq]
      exact sb
    · obtain rfl : n = D.keys.length := by omega
      have e0 := openN_all D
      rw [e0]
      refine wk ?_
      exact RetH.mk rfl (Weak.refl _) ⟨⟨_, rfl, WeakL.refl _⟩, ⟨_, rfl, WeakL.refl _⟩, trivial⟩ ⟨⟨rfl, rfl⟩, trivial⟩
end Go.Proofs.Ytilcpcpmkklobaa
