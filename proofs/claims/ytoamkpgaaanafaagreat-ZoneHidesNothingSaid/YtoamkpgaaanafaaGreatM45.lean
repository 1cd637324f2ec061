/- Out of: Wn. -/
import Derived.Test.YtoamkpgaaanafaaGreatM42
namespace Go.Proofs.YtoamkpgaaanafaaGreat
set_option linter.unusedSimpArgs false
set_option linter.unusedVariables false
set_option linter.unnecessarySimpa false
section
open Go.RowKit
theorem pcRefFind (s:PSchema) (nm:ByteArray) (hl:s.defs.length≤1000):PCalls Tryz.prog 83 [pschema s,pstr nm] (· = pint (findI s.defs nm)):=
 pcalls2 (by kernel_rfl) fun Φ μ w v u himm hr hr2=>by
  obtain ⟨rfl,-⟩:=hr2.val_inv
  exact (refFind v s nm w (schema_of_rep himm hr) hl).mono (by
   rintro e w' ⟨rfl,hb⟩
   exact post_flat himm (.val _ rfl) rfl rfl hb)
theorem one_prs (l:List PPred):(l.flatMap prL).all PV.one=true:=by
 rw [List.all_eq_true]
 intro c hc
 obtain ⟨a,-,h⟩:=List.mem_flatMap.1 hc
 rw [prL_eq] at h
 simp only [List.mem_cons,List.not_mem_nil,or_false] at h
 rcases h with rfl|rfl|rfl|rfl|rfl|rfl<;>rfl
theorem low_prs (l:List PPred):∀c∈l.flatMap prL,Low c:=fun c hc=>by
 obtain ⟨a,-,h⟩:=List.mem_flatMap.1 hc
 exact low_prL a c h
theorem low_prsl (n:Nat) (l:List PPred) (o:Option TypeId):Low (.sl n 6 (l.flatMap prL) o):=.sl _ _ _ _ (low_prs l)
set_option maxRecDepth 10000 in
set_option maxHeartbeats 4000000 in
theorem pw_form (p:PPred):PCalls Tryz.prog 82 [ppred p] (· = pbool (formB p)):=by
 have hps:Low (ppreds p.subs):=(low_ppreds _).2 trivial
 have f:∀v,v=formB p→pbool v=pbool (formB p):=fun v h=>by rw [h]
 refine pcalls_of_pw typeTab_ok Tryz.func82 rfl (by kernel_rfl) (by simp [low_pint,low_pints,low_pstr,low_pbool,low_pbox,low_pvecs,low_pentry,low_pentries,low_psum,low_pschema,low_pshells,low_pstrs,low_pfld,low_pdef,low_ppred]) (by simp [pint,pints,pstr,pbool,pbox,pvecs,pentry,pentries,psum,psumL,pschema,pshells,pstrs,pfld,pfldL,pdefL,PV.ownB,ppred]) (by rw [Tryz.ntmps82];simp) ?_
 rw [Tryz.ntmps82,Tryz.results82]
 unfold ppred
 rw [prL_eq]
 (repeat' (first|(with_reducible first|refine PW.seq ?_|refine PW.block ?_|refine PW.skip ?_|refine PW.exit ?_|refine PW.ret ?_|refine thenP ?_|refine thenP_exit ?_|refine thenP_ret ?_|refine blockP ?_|refine blockP_exit ?_|refine blockP_ret ?_|refine loopP_exit ?_|refine loopP_ret ?_|refine loopU_exit ?_|refine loopU_ret ?_)|((with_reducible refine PWops.idd ?_);first|(first|refine PWops.cvI rfl rfl rfl rfl (by (first|omega|(dsimp only;omega))) (by (first|omega|(dsimp only;omega))) rfl ?_|refine PWops.stepA rfl ?_|refine PWops.doneI rfl ?_|refine PWops.boolK true rfl rfl rfl rfl (by (first|rfl|assumption|(simp only [decide_eq_true_eq,decide_eq_false_iff_not,bne_iff_ne,beq_iff_eq,beq_eq_false_iff_ne,bne_eq_false_iff_eq,ne_eq];omega))) rfl ?_|refine PWops.boolK false rfl rfl rfl rfl (by (first|rfl|assumption|(simp only [decide_eq_true_eq,decide_eq_false_iff_not,bne_iff_ne,beq_iff_eq,beq_eq_false_iff_ne,bne_eq_false_iff_eq,ne_eq];omega))) rfl ?_|refine PWops.fitsK rfl rfl rfl rfl (by (first|omega|(dsimp only;omega))) (by (first|omega|(dsimp only;omega))) rfl ?_|refine PWops.remK rfl rfl rfl rfl (by (first|omega|(dsimp only;omega))) rfl ?_|refine PWops.quoK rfl rfl rfl rfl (by (first|omega|(dsimp only;omega))) rfl ?_|refine PWops.app rfl rfl rfl rfl rfl rfl rfl rfl (by (first|omega|(dsimp only;omega))) (by (first|omega|(dsimp only;omega))) (by first|rfl|exact secL_one _|exact putL_one _|exact one_pint _|exact one_pstr _|exact one_pbyte _|exact one_pattrs _) ?_|refine PWops.app0 rfl rfl rfl rfl rfl rfl rfl rfl (by (first|omega|(dsimp only;omega))) (by (first|omega|(dsimp only;omega))) (by first|rfl|exact secL_one _|exact putL_one _|exact one_pint _|exact one_pstr _|exact one_pbyte _|exact one_pattrs _) ?_|refine PWops.idx1 rfl rfl rfl rfl rfl rfl rfl rfl (by (first|omega|(dsimp only;omega))) ?_|refine PWops.idx rfl rfl rfl rfl rfl rfl rfl rfl (by (first|omega|(dsimp only;omega))) ?_|refine PWops.ld rfl rfl rfl rfl rfl rfl rfl (by assumption) rfl ?_|refine PWops.ldA rfl rfl rfl rfl rfl rfl (by (first|omega|(dsimp only;omega))) (by assumption) ?_|refine PWops.str rfl rfl rfl rfl rfl rfl rfl rfl rfl rfl rfl ?_)|(first|refine PWops.arU rfl rfl rfl rfl rfl rfl ?_|refine PWops.boxA rfl rfl rfl rfl rfl (by (first|rfl|exact secL_one _|exact dcellL_one _|exact putL_one _|exact one_map (fun _=>rfl) _)) (by (first|rfl|exact secL_bare _|exact dcellL_bare _|exact putL_bare _|exact bare_map (fun _=>rfl) _)) ?_|refine PWops.litA rfl rfl rfl rfl rfl rfl rfl (by (first|rfl|exact secL_len _|exact dcellL_len _|exact putL_len _|exact len_map (by assumption)|exact len_map rfl)) rfl rfl rfl (by (first|rfl|exact secL_one _|exact dcellL_one _|exact putL_one _|exact one_map (fun _=>rfl) _)) (by (first|rfl|exact secL_bare _|exact dcellL_bare _|exact putL_bare _|exact bare_map (fun _=>rfl) _)) ?_|refine PWops.shlK rfl rfl rfl rfl rfl rfl (by (first|omega|(dsimp only;omega)|decide)) ?_|refine PWops.shrK rfl rfl rfl rfl rfl rfl (by (first|omega|(dsimp only;omega)|decide)) ?_|refine PWops.ldBC rfl rfl rfl rfl rfl rfl rfl rfl (by (first|exact secL_len|exact dcellL_len|exact putL_len|(intro;rfl))) (by (first|omega|(dsimp only;omega))) (by (first|rfl|exact dcellL_64 _)) rfl ?_|refine PWops.ldRB rfl rfl rfl rfl rfl rfl (by (first|exact secL_len|exact dcellL_len|exact putL_len|(intro;rfl))) (by (first|omega|(dsimp only;omega))) (by (first|exact secL_bare|exact dcellL_bare|exact putL_bare|(intro;rfl))) ?_|refine PWops.ldSec rfl rfl rfl rfl rfl rfl rfl (by first|with_reducible rfl|with_reducible exact dC_flat _) (by rfl) (by (first|omega|(dsimp only;omega))) ?_|refine PWops.ldBR rfl rfl rfl rfl rfl rfl rfl (by (first|exact secL_len|exact dcellL_len|exact putL_len|(intro;rfl))) (by (first|omega|(dsimp only;omega))) (by (first|exact secL_bare _|exact dcellL_bare _|exact putL_bare _|rfl)) ?_|refine PWops.lkp rfl rfl rfl rfl rfl rfl rfl rfl rfl rfl rfl (by assumption) ?_|refine PWops.ldAll rfl rfl rfl rfl rfl rfl rfl (by (first|rfl|exact secL_len _|exact dcellL_len _|exact putL_len _|exact len_map (by assumption)|exact len_map rfl)) (by (first|rfl|exact secL_bare _|exact dcellL_bare _|exact putL_bare _|exact bare_map (fun _=>rfl) _)) ?_|refine PWops.stAll rfl rfl rfl rfl rfl rfl rfl rfl rfl (by (first|rfl|exact secL_len _|exact dcellL_len _|exact putL_len _|exact len_map (by assumption)|exact len_map rfl)) (by (first|rfl|exact secL_len _|exact dcellL_len _|exact putL_len _|exact len_map (by assumption)|exact len_map rfl)) (by (first|rfl|exact secL_one _|exact dcellL_one _|exact putL_one _|exact one_map (fun _=>rfl) _)) (by (first|rfl|exact secL_bare _|exact dcellL_bare _|exact putL_bare _|exact bare_map (fun _=>rfl) _)) ?_|refine PWops.idxM rfl rfl rfl rfl rfl rfl rfl rfl (by (first|omega|(dsimp only;omega))) ?_|refine PWops.idxP1 rfl rfl rfl rfl rfl rfl rfl rfl (by (first|omega|(dsimp only;omega))) ?_|refine PWops.idxP rfl rfl rfl rfl rfl rfl rfl rfl (by (first|omega|(dsimp only;omega))) ?_|(refine PWops.call rfl rfl rfl (by assumption) ?_)|(refine PWops.callR rfl rfl (by assumption) (by (first|exact trivial|exact ⟨⟨rfl,rfl⟩,trivial⟩|exact ⟨⟨rfl,rfl⟩,⟨rfl,rfl⟩,trivial⟩|exact ⟨⟨rfl,rfl⟩,⟨rfl,rfl⟩,⟨rfl,rfl⟩,trivial⟩|exact ⟨⟨rfl,rfl⟩,⟨rfl,rfl⟩,⟨rfl,rfl⟩,⟨rfl,rfl⟩,trivial⟩|exact ⟨⟨rfl,rfl⟩,⟨rfl,rfl⟩,⟨rfl,rfl⟩,⟨rfl,rfl⟩,⟨rfl,rfl⟩,trivial⟩|exact ⟨⟨rfl,rfl⟩,⟨rfl,rfl⟩,⟨rfl,rfl⟩,⟨rfl,rfl⟩,⟨rfl,rfl⟩,⟨rfl,rfl⟩,trivial⟩|exact ⟨⟨rfl,rfl⟩,⟨rfl,rfl⟩,⟨rfl,rfl⟩,⟨rfl,rfl⟩,⟨rfl,rfl⟩,⟨rfl,rfl⟩,⟨rfl,rfl⟩,trivial⟩|exact ⟨⟨rfl,rfl⟩,⟨rfl,rfl⟩,⟨rfl,rfl⟩,⟨rfl,rfl⟩,⟨rfl,rfl⟩,⟨rfl,rfl⟩,⟨rfl,rfl⟩,⟨rfl,rfl⟩,trivial⟩)) (by (first|exact trivial|exact ⟨⟨rfl,rfl⟩,trivial⟩|exact ⟨⟨rfl,rfl⟩,⟨rfl,rfl⟩,trivial⟩|exact ⟨⟨rfl,rfl⟩,⟨rfl,rfl⟩,⟨rfl,rfl⟩,trivial⟩|exact ⟨⟨rfl,rfl⟩,⟨rfl,rfl⟩,⟨rfl,rfl⟩,⟨rfl,rfl⟩,trivial⟩|exact ⟨⟨rfl,rfl⟩,⟨rfl,rfl⟩,⟨rfl,rfl⟩,⟨rfl,rfl⟩,⟨rfl,rfl⟩,trivial⟩|exact ⟨⟨rfl,rfl⟩,⟨rfl,rfl⟩,⟨rfl,rfl⟩,⟨rfl,rfl⟩,⟨rfl,rfl⟩,⟨rfl,rfl⟩,trivial⟩|exact ⟨⟨rfl,rfl⟩,⟨rfl,rfl⟩,⟨rfl,rfl⟩,⟨rfl,rfl⟩,⟨rfl,rfl⟩,⟨rfl,rfl⟩,⟨rfl,rfl⟩,trivial⟩|exact ⟨⟨rfl,rfl⟩,⟨rfl,rfl⟩,⟨rfl,rfl⟩,⟨rfl,rfl⟩,⟨rfl,rfl⟩,⟨rfl,rfl⟩,⟨rfl,rfl⟩,⟨rfl,rfl⟩,trivial⟩)) rfl (by first|exact .inl rfl|exact .inr (fun _ _=>rfl)) ?_)|(refine PWops.callH rfl rfl (by assumption) (by (first|exact trivial|exact ⟨⟨rfl,rfl⟩,trivial⟩|exact ⟨⟨rfl,rfl⟩,⟨rfl,rfl⟩,trivial⟩|exact ⟨⟨rfl,rfl⟩,⟨rfl,rfl⟩,⟨rfl,rfl⟩,trivial⟩|exact ⟨⟨rfl,rfl⟩,⟨rfl,rfl⟩,⟨rfl,rfl⟩,⟨rfl,rfl⟩,trivial⟩|exact ⟨⟨rfl,rfl⟩,⟨rfl,rfl⟩,⟨rfl,rfl⟩,⟨rfl,rfl⟩,⟨rfl,rfl⟩,trivial⟩|exact ⟨⟨rfl,rfl⟩,⟨rfl,rfl⟩,⟨rfl,rfl⟩,⟨rfl,rfl⟩,⟨rfl,rfl⟩,⟨rfl,rfl⟩,trivial⟩|exact ⟨⟨rfl,rfl⟩,⟨rfl,rfl⟩,⟨rfl,rfl⟩,⟨rfl,rfl⟩,⟨rfl,rfl⟩,⟨rfl,rfl⟩,⟨rfl,rfl⟩,trivial⟩|exact ⟨⟨rfl,rfl⟩,⟨rfl,rfl⟩,⟨rfl,rfl⟩,⟨rfl,rfl⟩,⟨rfl,rfl⟩,⟨rfl,rfl⟩,⟨rfl,rfl⟩,⟨rfl,rfl⟩,trivial⟩)) (by (first|exact trivial|exact ⟨⟨rfl,rfl⟩,trivial⟩|exact ⟨⟨rfl,rfl⟩,⟨rfl,rfl⟩,trivial⟩|exact ⟨⟨rfl,rfl⟩,⟨rfl,rfl⟩,⟨rfl,rfl⟩,trivial⟩|exact ⟨⟨rfl,rfl⟩,⟨rfl,rfl⟩,⟨rfl,rfl⟩,⟨rfl,rfl⟩,trivial⟩|exact ⟨⟨rfl,rfl⟩,⟨rfl,rfl⟩,⟨rfl,rfl⟩,⟨rfl,rfl⟩,⟨rfl,rfl⟩,trivial⟩|exact ⟨⟨rfl,rfl⟩,⟨rfl,rfl⟩,⟨rfl,rfl⟩,⟨rfl,rfl⟩,⟨rfl,rfl⟩,⟨rfl,rfl⟩,trivial⟩|exact ⟨⟨rfl,rfl⟩,⟨rfl,rfl⟩,⟨rfl,rfl⟩,⟨rfl,rfl⟩,⟨rfl,rfl⟩,⟨rfl,rfl⟩,⟨rfl,rfl⟩,trivial⟩|exact ⟨⟨rfl,rfl⟩,⟨rfl,rfl⟩,⟨rfl,rfl⟩,⟨rfl,rfl⟩,⟨rfl,rfl⟩,⟨rfl,rfl⟩,⟨rfl,rfl⟩,⟨rfl,rfl⟩,trivial⟩)) rfl (by first|exact .inl rfl|exact .inr (fun _ _=>rfl)) ?_)|refine PWops.idxZ1 rfl rfl rfl rfl rfl rfl rfl rfl (by (first|omega|(dsimp only;omega))) ?_|refine PWops.idxZ rfl rfl rfl rfl rfl rfl rfl rfl (by (first|omega|(dsimp only;omega))) ?_|refine PWops.ld rfl rfl rfl rfl rfl rfl rfl rfl rfl ?_|refine PWops.slcL rfl rfl rfl rfl rfl rfl rfl rfl (by (first|omega|(dsimp only;omega))) ?_|refine PWops.slcH rfl rfl rfl rfl rfl rfl rfl rfl (by (first|omega|(dsimp only;omega))) ?_|refine PWops.slcRL rfl rfl rfl rfl rfl rfl rfl rfl (by intro;rfl) (by (first|omega|(dsimp only;omega))) ?_|refine PWops.slcRH rfl rfl rfl rfl rfl rfl rfl rfl (by intro;rfl) (by (first|omega|(dsimp only;omega))) ?_|refine PWops.slcM rfl rfl rfl rfl rfl rfl rfl rfl rfl (by (first|omega|(dsimp only;omega))) ?_|refine PWops.ldM rfl rfl rfl rfl rfl rfl rfl (by (first|omega|(dsimp only;omega))) rfl ?_|refine PWops.ldR rfl rfl rfl rfl rfl rfl rfl (by (first|exact secL_len|exact dcellL_len|exact putL_len|(intro;rfl))) (by (first|omega|(dsimp only;omega))) rfl rfl ?_|refine PWops.ldRA rfl rfl rfl rfl rfl rfl (by intro;rfl) (by (first|omega|(dsimp only;omega))) rfl ?_|refine PWops.slcP rfl rfl rfl rfl rfl rfl rfl rfl rfl (by decide) ?_|refine PWops.idxE1 rfl rfl rfl rfl rfl rfl rfl rfl (by (first|omega|(dsimp only;omega))) ?_|refine PWops.ldG rfl rfl rfl rfl rfl rfl (by (first|rfl|exact secL_len _|exact dcellL_len _|exact putL_len _|exact len_map (by assumption)|exact len_map rfl)) (by (first|rfl|exact secL_bare _|exact dcellL_bare _|exact putL_bare _|exact bare_map (fun _=>rfl) _)) ?_|refine PWops.ldMB rfl rfl rfl rfl rfl rfl rfl rfl (by (first|omega|(dsimp only;omega))) rfl rfl ?_|refine PWops.stMB rfl rfl rfl rfl rfl rfl rfl rfl rfl rfl (by (first|omega|(dsimp only;omega))) ?_|refine PWops.idxV rfl rfl rfl rfl rfl rfl rfl rfl (by (first|omega|(dsimp only;omega))) rfl ?_))|(first|((with_reducible refine PW.idd ?_);(first|refine PW.region typeTab_ok (by kernel_rfl) ?_|refine PW.draw typeTab_ok (by kernel_rfl) (by kernel_rfl) (by kernel_rfl) ?_|refine PW.condT rfl ?_|refine PW.condF rfl ?_|refine PW.condTe rfl (by assumption) ?_|refine PW.condFe rfl (by assumption) ?_|refine blockP_other (by decide) ?_))|with_reducible refine blockP_other (by decide) ?_)|(refine PWops.boolS rfl rfl rfl rfl rfl ?_ ?_<;>(intro hsp;simp only [decide_eq_true_eq,decide_eq_false_iff_not,bne_iff_ne,beq_iff_eq,beq_eq_false_iff_ne,bne_eq_false_iff_eq,ne_eq,Decidable.not_not] at hsp))))
 all_goals (refine retP rfl (by exact lw) (f _ ?_);unfold formB;(repeat' split)<;>first|rfl|(exfalso;omega)|exact (decide_eq_true (by omega)).symm|exact (decide_eq_false (by omega)).symm)
set_option maxRecDepth 10000 in
set_option maxHeartbeats 2000000 in
theorem pw_partsW (p:PPred) (hl:p.subs.length≤20000000000000) (h:∀k,k < p.subs.length→PCalls Tryz.prog 81 [ppred (p.subs.getD k default)] (· = ppreds (partsR (p.subs.getD k default)))):PCalls Tryz.prog 81 [ppred p] (· = ppreds (partsR p)):=by
 have hps:Low (ppreds p.subs):=(low_ppreds _).2 trivial
 have hlp:=low_prL p
 have e0:partsG [] [p] = [p]:=by rw [partsG]
 have hl1:Low (.sl 1 6 (prL p) (some 54)):=.sl _ _ _ _ hlp
 have hl2:=fun (G:List PPred)=>low_prsl G.length G (some 54)
 refine pcalls_of_pw typeTab_ok Tryz.func81 rfl (by kernel_rfl) (by simp [low_pint,low_pints,low_pstr,low_pbool,low_pbox,low_pvecs,low_pentry,low_pentries,low_psum,low_pschema,low_pshells,low_pstrs,low_pfld,low_pdef,low_ppred]) (by simp [pint,pints,pstr,pbool,pbox,pvecs,pentry,pentries,psum,psumL,pschema,pshells,pstrs,pfld,pfldL,pdefL,PV.ownB,ppred]) (by rw [Tryz.ntmps81];simp) ?_
 rw [Tryz.ntmps81,Tryz.results81]
 unfold ppred at *
 rw [prL_eq p]
 refine wk ?_
 refine PW.loop (fun k:Nat=>(bot.setb 0 [pint p.op,pstr p.name,pint p.n,pint p.m,pstr p.s,ppreds p.subs] |>.put 1 (.ptr 0 0) |>.put 3 (.sl (partsG (p.subs.take k) [p]).length 6 ((partsG (p.subs.take k) [p]).flatMap prL) (some 54)) |>.put 4 (pint k))) (fun k=>k≤p.subs.length) (fun k=>p.subs.length - k) 0 (by omega) ?_ ?_
 ·rw [prL_eq p] at hl1
  simp only [List.take_zero,e0,List.flatMap_cons,List.flatMap_nil,List.append_nil,prL_eq p,List.length_cons,List.length_nil]
  exact sb
 intro k hk
 have hG:=partsG_len (p.subs.take k) [p] (by simp)
 have hlG:=low_prs (partsG (p.subs.take k) [p])
 have hlG2:=hl2 (partsG (p.subs.take k) [p])
 by_cases hlt:k < p.subs.length
 ·have hd:=h k hlt
  have hlk:=low_prL (p.subs.getD k default)
  have hRl:=partsR_len (p.subs.getD k default)
  have hone:=one_prs (partsR (p.subs.getD k default))
  have hlR:=low_prs (partsR (p.subs.getD k default))
  have e:partsG (p.subs.take (k+1)) [p]=if (partsG (p.subs.take k) [p]).length < 1000 then partsG (p.subs.take k) [p] ++ partsR (p.subs.getD k default) else partsG (p.subs.take k) [p]:=by
   rw [take_getD default hlt,partsG_app,partsG_one]
  have e9:1000≤(partsG (p.subs.take k) [p]).length→partsG p.subs [p]=partsG (p.subs.take k) [p]:=fun h9=>by
   conv=>lhs;rw [←List.take_append_drop k p.subs]
   rw [partsG_app,partsG_stop _ _ h9]
  have eR:=partsR_eq p
  generalize partsG (p.subs.take k) [p]=G at *
  by_cases h1:G.length < 1000
  ·rw [if_pos h1] at e
   generalize partsR (p.subs.getD k default)=R at *
   unfold ppreds at hd
   refine wk ?_
   refine PWops.idd ?_
   refine PWops.app rfl rfl rfl rfl rfl rfl rfl rfl (by (first|omega|(dsimp only;omega))) (by (first|omega|(dsimp only;omega))) hone ?_
   refine wk ?_
   refine loopP (k+1) (by omega) (by omega) ?_
   simp only [e,List.length_append,List.flatMap_append]
   have hll:Low (.sl (G.length+R.length) 6 (G.flatMap prL ++ R.flatMap prL) (some 54)):=.sl _ _ _ _ fun c hc=>(List.mem_append.1 hc).elim (hlG c) (hlR c)
   exact sb
  ·rw [e9 (by omega)] at eR
   by_cases h2:1000 < G.length
   ·refine wk ?_
    refine retP rfl (low_prsl _ _ _) ?_
    rw [eR];rfl
   ·refine wk ?_
    refine retP rfl (low_prsl _ _ _) ?_
    rw [eR,List.take_of_length_le (by omega)];rfl
 ·have eR:=partsR_eq p
  have eT:p.subs.take k=p.subs:=List.take_of_length_le (by omega)
  rw [eT] at hG hlG hlG2 ⊢
  generalize partsG p.subs [p]=G at *
  by_cases h2:1000 < G.length
  ·refine wk ?_
   refine retP rfl (low_prsl _ _ _) ?_
   rw [eR];rfl
  ·refine wk ?_
   refine retP rfl (low_prsl _ _ _) ?_
   rw [eR,List.take_of_length_le (by omega)];rfl
mutual
theorem pw_parts:∀p:PPred,lenP p→PCalls Tryz.prog 81 [ppred p] (· = ppreds (partsR p))
 | .mk op nm n m w subs,h=>by
  rw [lenP] at h
  exact pw_partsW (.mk op nm n m w subs) h.1 (pw_partsL subs h.2)
theorem pw_partsL:∀l:List PPred,lenPL l→∀k,k < l.length→PCalls Tryz.prog 81 [ppred (l.getD k default)] (· = ppreds (partsR (l.getD k default)))
 | [],_,k,hk=>by simp at hk
 |p :: l,h,k,hk=>by
  rw [lenPL] at h
  cases k with
  |zero=>exact pw_parts p h.1
  |succ k=>
   have:=pw_partsL l h.2 k (by simpa using hk)
   simpa using this
end
set_option maxRecDepth 10000 in
theorem pw_size (p:PPred) (h:lenP p):PCalls Tryz.prog 80 [ppred p] (· = pint (partsR p).length):=by
 have c1:=pw_parts p h
 have hl:=partsR_len p
 have hlR:=low_prs (partsR p)
 have hlp:=low_prL p
 refine pcalls_of_pw typeTab_ok Tryz.func80 rfl (by kernel_rfl) (by simp [low_pint,low_pints,low_pstr,low_pbool,low_pbox,low_pvecs,low_pentry,low_pentries,low_psum,low_pschema,low_pshells,low_pstrs,low_pfld,low_pdef,low_ppred]) (by simp [pint,pints,pstr,pbool,pbox,pvecs,pentry,pentries,psum,psumL,pschema,pshells,pstrs,pfld,pfldL,pdefL,PV.ownB,ppred]) (by rw [Tryz.ntmps80];simp) ?_
 rw [Tryz.ntmps80,Tryz.results80]
 generalize partsR p=R at *
 unfold ppred ppreds at *
 refine wk ?_
 exact retP rfl (by exact lw) rfl
set_option maxRecDepth 10000 in
set_option maxHeartbeats 2000000 in
theorem pw_fewW (p:PPred) (d:Int) (hd : -1000≤d∧d≤1000) (hl:lenP p) (hs:p.subs.length≤20000000000000) (h:1≤d→∀k,k < p.subs.length→PCalls Tryz.prog 29 [ppred (p.subs.getD k default),pint (d - 1)] (· = pbool (fewPB (p.subs.getD k default) (d - 1)))) :
  PCalls Tryz.prog 29 [ppred p,pint d] (· = pbool (if d < 1∨100 < (partsR p).length then false else p.subs.all fun q=>fewPB q (d - 1))):=by
 have c1:=pw_size p hl
 have hlR:=partsR_len p
 have hps:Low (ppreds p.subs):=(low_ppreds _).2 trivial
 have hlp:=low_prL p
 refine pcalls_of_pw typeTab_ok Tryz.func29 rfl (by kernel_rfl) (by simp [low_pint,low_pints,low_pstr,low_pbool,low_pbox,low_pvecs,low_pentry,low_pentries,low_psum,low_pschema,low_pshells,low_pstrs,low_pfld,low_pdef,low_ppred]) (by simp [pint,pints,pstr,pbool,pbox,pvecs,pentry,pentries,psum,psumL,pschema,pshells,pstrs,pfld,pfldL,pdefL,PV.ownB,ppred]) (by rw [Tryz.ntmps29];simp) ?_
 rw [Tryz.ntmps29,Tryz.results29]
 generalize partsR p=R at *
 unfold ppred at *
 rw [prL_eq p] at c1 hlp ⊢
 by_cases q1:d < 1
 ·rw [if_pos (.inl q1)]
  refine wk ?_
  exact retP (r:=pbool false) rfl (by exact lw) rfl
 by_cases q2:100 < R.length
 ·rw [if_pos (.inr q2)]
  refine wk ?_
  exact retP (r:=pbool false) rfl (by exact lw) rfl
 rw [if_neg (by omega)]
 refine wk ?_
 refine PW.loop (fun k:Nat=>(bot.setb 0 [pint p.op,pstr p.name,pint p.n,pint p.m,pstr p.s,ppreds p.subs] |>.put 1 (pint d) |>.put 2 (.ptr 0 0) |>.put 5 (pint k))) (fun k=>k≤p.subs.length∧∀j,j < k→fewPB (p.subs.getD j default) (d - 1)=true) (fun k=>p.subs.length - k) 0 ⟨by omega,by simp⟩ ?_ ?_
 ·exact sb
 rintro k ⟨hk,ha⟩
 by_cases hlt:k < p.subs.length
 ·have h1:=h (by omega) k hlt
  have hlk:=low_prL (p.subs.getD k default)
  cases e1:fewPB (p.subs.getD k default) (d - 1) with
  |true=>
   rw [e1] at h1
   refine wk ?_
   refine loopP (k+1) ⟨by omega,fun j hj=>?_⟩ (by omega) ?_
   ·rcases Nat.lt_succ_iff_lt_or_eq.1 hj with h|h
    ·exact ha j h
    ·rw [h];exact e1
   ·exact sb
  |false=>
   rw [e1] at h1
   have:(p.subs.all fun q=>fewPB q (d - 1))=false:=by
    rw [List.all_eq_false];exact ⟨_,getD_mem hlt,by rw [e1];decide⟩
   rw [this]
   refine wk ?_
   exact retP (r:=pbool false) rfl (by exact lw) rfl
 ·have:(p.subs.all fun q=>fewPB q (d - 1))=true:=by
   rw [List.all_eq_true]
   intro x hx
   obtain ⟨j,hj,rfl⟩:=List.getElem_of_mem hx
   rw [←getD_atW hj]
   exact ha j (by omega)
  rw [this]
  refine wk ?_
  exact retP (r:=pbool true) rfl (by exact lw) rfl
mutual
theorem pw_fewP:∀(p:PPred) (d:Int),-1000≤d∧d≤1000→lenP p→PCalls Tryz.prog 29 [ppred p,pint d] (· = pbool (fewPB p d))
 | .mk op nm n m w subs,d,hd,h=>by
  have h0:=h
  rw [lenP] at h0
  rw [fewPB,fewPBL_eq]
  exact pw_fewW (.mk op nm n m w subs) d hd h h0.1 (fun h1 k hk=>pw_fewPL subs (d - 1) (by omega) h0.2 k hk)
theorem pw_fewPL:∀(l:List PPred) (d:Int),-1000≤d∧d≤1000→lenPL l→∀k,k < l.length→PCalls Tryz.prog 29 [ppred (l.getD k default),pint d] (· = pbool (fewPB (l.getD k default) d))
 | [],_,_,_,k,hk=>by simp at hk
 |p :: l,d,hd,h,k,hk=>by
  rw [lenPL] at h
  cases k with
  |zero=>exact pw_fewP p d hd h.1
  |succ k=>
   have:=pw_fewPL l d hd h.2 k (by simpa using hk)
   simpa using this
end
set_option maxRecDepth 10000 in
set_option maxHeartbeats 4000000 in
theorem pw_checkP (s:PSchema) (p:PPred) (hl:lenP p) (hd:s.defs.length≤1000):PCalls Tryz.prog 30 [pschema s,ppred p] (· = pint (checkP s p)):=by
 have c1:=pw_parts p hl
 have hlR:=partsR_len p
 have hlp:=low_prL p
 have hls:=low_schCells s
 have hll:∀l:List PPred,Low (ppreds l):=fun l=>(low_ppreds l).2 trivial
 refine pcalls_of_pw typeTab_ok Tryz.func30 rfl (by kernel_rfl) (by simp [low_pint,low_pints,low_pstr,low_pbool,low_pbox,low_pvecs,low_pentry,low_pentries,low_psum,low_pschema,low_pshells,low_pstrs,low_pfld,low_pdef,low_ppred]) (by simp [pint,pints,pstr,pbool,pbox,pvecs,pentry,pentries,psum,psumL,pschema,pshells,pstrs,pfld,pfldL,pdefL,PV.ownB,ppred]) (by rw [Tryz.ntmps30];simp) ?_
 rw [Tryz.ntmps30,Tryz.results30]
 unfold checkP
 generalize partsR p=R at *
 unfold ppred at *
 unfold ppreds at c1
 have hlq:=low_prs R
 have hlq2:=low_prsl R.length R none
 by_cases q1:64 < R.length
 ·rw [if_pos q1]
  refine wk ?_
  exact retP (r:=pint 2) rfl (by exact lw) rfl
 rw [if_neg q1]
 refine wk ?_
 clear c1
 refine PW.loop (fun k:Nat=>(bot.setb 0 (schCellsP s) |>.put 2 (.ptr 0 0) |>.put 5 (.sl R.length 6 (R.flatMap prL) none) |>.put 6 (pint k))) (fun k=>k≤R.length∧∀j,j < k→chk1 s (R.getD j default)=0) (fun k=>R.length - k) 0 ⟨by omega,by simp⟩ ?_ ?_
 ·exact sb
 rintro k ⟨hk,ha⟩
 by_cases hlt:k < R.length
 ·have hlk:=low_prL (R.getD k default)
  have hnx:chk1 s (R.getD k default)=0→∀j,j < k+1→chk1 s (R.getD j default)=0:=fun h0 j hj=>by
   rcases Nat.lt_succ_iff_lt_or_eq.1 hj with h|h
   ·exact ha j h
   ·rw [h];exact h0
  have hbad:∀v:Int,v≠0→chk1 s (R.getD k default)=v→pint v=pint ((R.find? fun x=>decide (chk1 s x≠0)).elim 0 (chk1 s)):=fun v hv he=>by
   have:R.find? (fun x=>decide (chk1 s x≠0))=some (R.getD k default):=by
    rw [List.find?_eq_some_iff_getElem]
    refine ⟨decide_eq_true (by rw [he];exact hv),k,hlt,(getD_atW hlt).symm,fun j hj=>?_⟩
    have:=ha j hj
    rw [getD_atW (by omega)] at this
    simp [this]
   rw [this]
   simp only [Option.elim]
   rw [he]
  have c2:=pw_form (R.getD k default)
  have c3:=pcRefFind s (R.getD k default).name hd
  have hfi:0≤findI s.defs (R.getD k default).name→(findI s.defs (R.getD k default).name).toNat < s.defs.length:=fun h=>by
   obtain ⟨d,hd⟩:=findI_get h
   exact (List.getElem?_eq_some_iff.1 hd).1
  generalize ((R.find? fun x=>decide (chk1 s x≠0)).elim 0 (chk1 s))=E at *
  unfold ppred at c2
  by_cases r1:(R.getD k default).op < 1
  ·have h1:=hbad 1 (by decide) (by unfold chk1;rw [if_pos (.inl r1)])
   clear hbad hnx hfi c3
   refine wk ?_
   exact retP rfl (by exact lw) h1
  by_cases r2:(R.getD k default).op > 7
  ·have h1:=hbad 1 (by decide) (by unfold chk1;rw [if_pos (.inr r2)])
   clear hbad hnx hfi c3
   refine wk ?_
   exact retP rfl (by exact lw) h1
  cases r3:formB (R.getD k default) with
  |false=>
   rw [r3] at c2
   have h1:=hbad 3 (by decide) (by unfold chk1;rw [if_neg (by omega),if_pos r3])
   clear hbad hnx hfi c3
   refine wk ?_
   exact retP rfl (by exact lw) h1
  |true=>
  rw [r3] at c2
  by_cases r4:(R.getD k default).op < 5
  ·have h1:=hnx (by unfold chk1;rw [if_neg (by omega),if_neg (by rw [r3];decide),if_pos r4])
   clear hbad hnx hfi c3
   refine wk ?_
   refine loopP (k+1) ⟨by omega,h1⟩ (by omega) ?_
   exact sb
  by_cases r5:findI s.defs (R.getD k default).name < 0
  ·have h1:=hbad 5 (by decide) (by unfold chk1;rw [if_neg (by omega),if_neg (by rw [r3];decide),if_neg r4,if_pos r5])
   clear hbad hnx hfi
   refine wk ?_
   exact retP rfl (by exact lw) h1
  have hlt2:=hfi (by omega)
  have e9:chk1 s (R.getD k default)=if ((R.getD k default).op=6∧(s.defs.getD (findI s.defs (R.getD k default).name).toNat default).kind≠1)∨((R.getD k default).op=7∧(s.defs.getD (findI s.defs (R.getD k default).name).toNat default).kind≠2) then 130 else 0:=by
   unfold chk1;rw [if_neg (by omega),if_neg (by rw [r3];decide),if_neg r4,if_neg r5]
  clear hfi
  obtain ⟨j,hj⟩:∃j:Nat,findI s.defs (R.getD k default).name=j:=⟨(findI s.defs (R.getD k default).name).toNat,by omega⟩
  rw [hj] at c3 e9 hlt2
  rw [Int.toNat_natCast] at e9 hlt2
  clear r5 hj
  have hdk:=low_pdefL (s.defs.getD j default)
  by_cases r6:(R.getD k default).op=6
  ·by_cases r7:(s.defs.getD j default).kind=1
   ·have h1:=hnx (by rw [e9,if_neg (by omega)])
    clear hbad hnx e9
    refine wk ?_
    refine loopP (k+1) ⟨by omega,h1⟩ (by omega) ?_
    exact sb
   ·have h1:=hbad 130 (by decide) (by rw [e9,if_pos (.inl ⟨r6,r7⟩)])
    clear hbad hnx e9
    refine wk ?_
    exact retP rfl (by exact lw) h1
  ·by_cases r8:(R.getD k default).op=7
   ·by_cases r7:(s.defs.getD j default).kind=2
    ·have h1:=hnx (by rw [e9,if_neg (by omega)])
     clear hbad hnx e9
     refine wk ?_
     refine loopP (k+1) ⟨by omega,h1⟩ (by omega) ?_
     exact sb
    ·have h1:=hbad 130 (by decide) (by rw [e9,if_pos (.inr ⟨r8,r7⟩)])
     clear hbad hnx e9
     refine wk ?_
     exact retP rfl (by exact lw) h1
   ·have h1:=hnx (by rw [e9,if_neg (by omega)])
    clear hbad hnx e9
    refine wk ?_
    refine loopP (k+1) ⟨by omega,h1⟩ (by omega) ?_
    exact sb
 ·have:R.find? (fun x=>decide (chk1 s x≠0))=none:=by
   rw [List.find?_eq_none]
   intro x hx
   obtain ⟨j,hj,rfl⟩:=List.getElem_of_mem hx
   have:=ha j (by omega)
   rw [getD_atW hj] at this
   simp [this]
  rw [this]
  refine wk ?_
  exact retP (r:=pint 0) rfl (by exact lw) rfl
end
end Go.Proofs.YtoamkpgaaanafaaGreat
