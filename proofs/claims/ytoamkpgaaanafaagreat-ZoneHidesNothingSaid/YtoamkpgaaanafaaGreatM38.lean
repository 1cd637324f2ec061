/- Out of: Qg. -/
import Derived.Test.YtoamkpgaaanafaaGreatM36
namespace Go.Proofs.YtoamkpgaaanafaaGreat
set_option linter.unusedSimpArgs false
set_option linter.unusedVariables false
set_option linter.unnecessarySimpa false
section
open Go.RowKit
variable (s:PSchema) (z:PSum)
theorem w_args (p:PPred):∀q ∈ [PV.ptr 1000001 0,ppred p],LowI (fun i=>i∈ResIds (wG s z 1000001 1000002) (wMs 1000002)) q:=
 li_cons (.ptr _ _ (by simp [ResIds,wG,wMs])) (li_cons ((low_ppred p).2 trivial).lowI li_nil)
theorem low_ptruth (t:PTruth):Low (ptruth t):=.agg _ (by
 intro c hc
 simp only [truthL,List.mem_cons,List.not_mem_nil,or_false] at hc
 rcases hc with rfl|rfl<;>exact .val _)
set_option maxRecDepth 10000 in
theorem hc_w5 (p:PPred):WCalls s z 164 [.ptr 1000001 0,ppred p] (ptruth ⟨true,false⟩):=by
 have hps:Low (ppreds p.subs):=(low_ppreds _).2 trivial
 unfold WCalls
 refine hcalls_of_pw typeTab_ok Tryz.func164 rfl (by kernel_rfl) (by simp [ppred,PV.ownB]) (by rw [Tryz.ntmps164];simp) (by simp [ResIds,wG,wMs]) (by simp [ResIds,wG,wMs]) (w_ok s z (w_args s z p) (low_ptruth _)) ?_ (w_givB s z) w_givM
 rw [Tryz.ntmps164,Tryz.results164]
 unfold ppred
 rw [prL_eq]
 refine wk ?_
 exact w_ret (r:=ptruth ⟨true,false⟩) rfl rfl rfl
set_option maxRecDepth 10000 in
set_option maxHeartbeats 1000000 in
theorem hc_w6 (p:PPred) (hl:p.subs.length≤1000000) (h:WCalls s z 166 [.ptr 1000001 0,ppred p] (ptruths (p.subs.map (canZ s z)))):WCalls s z 165 [.ptr 1000001 0,ppred p,fNever,fNo] (ptruth ⟨!(p.subs.map (canZ s z)).any (fun t => !t.yes),(p.subs.map (canZ s z)).any (fun t=>t.no)⟩):=by
 have hps:Low (ppreds p.subs):=(low_ppreds _).2 trivial
 have hl2:(p.subs.map (canZ s z)).length≤1000000000000:=by rw [List.length_map];omega
 have s1:=pw_some 162 (fun t => !t.yes) (p.subs.map (canZ s z)) rfl hl2 pw_never
 have s2:=pw_some 161 (fun t=>t.no) (p.subs.map (canZ s z)) rfl hl2 pw_no
 have e1:=low_fe 162
 have e2:=low_fe 161
 have k1:=low_fep 162
 have k2:=low_fep 161
 unfold WCalls at *
 refine hcalls_of_pw typeTab_ok Tryz.func165 rfl (by kernel_rfl) (by simp [ppred,PV.ownB,fNever,fNo]) (by rw [Tryz.ntmps165];simp) (by simp [ResIds,wG,wMs]) (by simp [ResIds,wG,wMs]) (w_ok s z (li_cons (.ptr _ _ (by simp [ResIds,wG,wMs])) (li_cons ((low_ppred p).2 trivial).lowI (li_cons k1.lowI (li_cons k2.lowI li_nil)))) (low_ptruth _)) ?_ (w_givB s z) w_givM
 rw [Tryz.ntmps165,Tryz.results165]
 unfold fNever fNo
 generalize p.subs.map (canZ s z)=l at *
 unfold ppred at *
 rw [prL_eq] at *
 refine wk ?_
 exact w_ret (r:=ptruth ⟨!l.any (fun t => !t.yes),l.any (fun t=>t.no)⟩) rfl rfl rfl
set_option maxRecDepth 10000 in
set_option maxHeartbeats 1000000 in
theorem hc_w7 (p:PPred) (hl:p.subs.length≤1000000) (h:WCalls s z 166 [.ptr 1000001 0,ppred p] (ptruths (p.subs.map (canZ s z)))):WCalls s z 168 [.ptr 1000001 0,ppred p,fYes,fAlways] (ptruth ⟨(p.subs.map (canZ s z)).any (fun t=>t.yes),!(p.subs.map (canZ s z)).any (fun t => !t.no)⟩):=by
 have hps:Low (ppreds p.subs):=(low_ppreds _).2 trivial
 have hl2:(p.subs.map (canZ s z)).length≤1000000000000:=by rw [List.length_map];omega
 have s1:=pw_some 160 (fun t=>t.yes) (p.subs.map (canZ s z)) rfl hl2 pw_yes
 have s2:=pw_some 163 (fun t => !t.no) (p.subs.map (canZ s z)) rfl hl2 pw_always
 have e1:=low_fe 160
 have e2:=low_fe 163
 have k1:=low_fep 160
 have k2:=low_fep 163
 unfold WCalls at *
 refine hcalls_of_pw typeTab_ok Tryz.func168 rfl (by kernel_rfl) (by simp [ppred,PV.ownB,fYes,fAlways]) (by rw [Tryz.ntmps168];simp) (by simp [ResIds,wG,wMs]) (by simp [ResIds,wG,wMs]) (w_ok s z (li_cons (.ptr _ _ (by simp [ResIds,wG,wMs])) (li_cons ((low_ppred p).2 trivial).lowI (li_cons k1.lowI (li_cons k2.lowI li_nil)))) (low_ptruth _)) ?_ (w_givB s z) w_givM
 rw [Tryz.ntmps168,Tryz.results168]
 unfold fYes fAlways
 generalize p.subs.map (canZ s z)=l at *
 unfold ppred at *
 rw [prL_eq] at *
 refine wk ?_
 exact w_ret (r:=ptruth ⟨l.any (fun t=>t.yes),!l.any (fun t => !t.no)⟩) rfl rfl rfl
set_option maxRecDepth 10000 in
set_option maxHeartbeats 1000000 in
theorem hc_w8 (p:PPred) (hl:p.subs.length≤1000000) (h0:0 < p.subs.length) (h:WCalls s z 85 [.ptr 1000001 0,ppred (p.subs.getD 0 default)] (ptruth (canZ s z (p.subs.getD 0 default)))):WCalls s z 169 [.ptr 1000001 0,ppred p] (ptruth ⟨(canZ s z (p.subs.getD 0 default)).no,(canZ s z (p.subs.getD 0 default)).yes⟩):=by
 have hps:Low (ppreds p.subs):=(low_ppreds _).2 trivial
 have hlk:=low_prL (p.subs.getD 0 default)
 unfold WCalls at *
 refine hcalls_of_pw typeTab_ok Tryz.func169 rfl (by kernel_rfl) (by simp [ppred,PV.ownB]) (by rw [Tryz.ntmps169];simp) (by simp [ResIds,wG,wMs]) (by simp [ResIds,wG,wMs]) (w_ok s z (w_args s z p) (low_ptruth _)) ?_ (w_givB s z) w_givM
 rw [Tryz.ntmps169,Tryz.results169]
 generalize canZ s z (p.subs.getD 0 default)=t at *
 unfold ptruth truthL at h
 unfold ppred at *
 rw [show prL p = [pint p.op,pstr p.name,pint p.n,pint p.m,pstr p.s,ppreds p.subs] from prL_eq p]
 refine wk ?_
 exact w_ret (r:=ptruth ⟨t.no,t.yes⟩) rfl rfl rfl
set_option maxRecDepth 10000 in
set_option maxHeartbeats 1000000 in
theorem hc_w9 (p:PPred) (h:WCalls s z 171 [.ptr 1000001 0,pstr p.name] (pfld (fieldAt s z p.name))):WCalls s z 170 [.ptr 1000001 0,ppred p] (ptruth ⟨decide ((fieldAt s z p.name).has > 0),decide ((fieldAt s z p.name).has < z.count)⟩):=by
 have hps:Low (ppreds p.subs):=(low_ppreds _).2 trivial
 unfold WCalls at *
 refine hcalls_of_pw typeTab_ok Tryz.func170 rfl (by kernel_rfl) (by simp [ppred,PV.ownB]) (by rw [Tryz.ntmps170];simp) (by simp [ResIds,wG,wMs]) (by simp [ResIds,wG,wMs]) (w_ok s z (w_args s z p) (low_ptruth _)) ?_ (w_givB s z) w_givM
 rw [Tryz.ntmps170,Tryz.results170]
 generalize fieldAt s z p.name=f at *
 have hlf:=low_pfldL f
 unfold pfld at h
 unfold ppred
 rw [prL_eq]
 by_cases q1:f.has > 0
 ·by_cases q2:f.has < z.count
  ·rw [decide_eq_true q1,decide_eq_true q2]
   refine wk ?_
   exact w_ret (r:=ptruth ⟨true,true⟩) rfl rfl rfl
  ·rw [decide_eq_true q1,decide_eq_false q2]
   refine wk ?_
   exact w_ret (r:=ptruth ⟨true,false⟩) rfl rfl rfl
 ·by_cases q2:f.has < z.count
  ·rw [decide_eq_false q1,decide_eq_true q2]
   refine wk ?_
   exact w_ret (r:=ptruth ⟨false,true⟩) rfl rfl rfl
  ·rw [decide_eq_false q1,decide_eq_false q2]
   refine wk ?_
   exact w_ret (r:=ptruth ⟨false,false⟩) rfl rfl rfl
set_option maxRecDepth 10000 in
set_option maxHeartbeats 4000000 in
theorem hc_w10 (p:PPred) (h:WCalls s z 171 [.ptr 1000001 0,pstr p.name] (pfld (fieldAt s z p.name))):WCalls s z 172 [.ptr 1000001 0,ppred p] (ptruth (if (fieldAt s z p.name).has=0 then ⟨false,true⟩ else ⟨decide (mxI (fieldAt s z p.name).lo p.n≤mnI (fieldAt s z p.name).hi p.m),decide ((fieldAt s z p.name).has < z.count) || (decide ((fieldAt s z p.name).lo < p.n) || decide ((fieldAt s z p.name).hi > p.m))⟩)):=by
 have hps:Low (ppreds p.subs):=(low_ppreds _).2 trivial
 unfold WCalls at *
 refine hcalls_of_pw typeTab_ok Tryz.func172 rfl (by kernel_rfl) (by simp [ppred,PV.ownB]) (by rw [Tryz.ntmps172];simp) (by simp [ResIds,wG,wMs]) (by simp [ResIds,wG,wMs]) (w_ok s z (w_args s z p) (low_ptruth _)) ?_ (w_givB s z) w_givM
 rw [Tryz.ntmps172,Tryz.results172]
 generalize fieldAt s z p.name=f at *
 have hlf:=low_pfldL f
 unfold pfld at h
 unfold ppred
 rw [prL_eq]
 by_cases q0:f.has=0
 ·rw [if_pos q0]
  refine wk ?_
  exact w_ret (r:=ptruth ⟨false,true⟩) rfl rfl rfl
 rw [if_neg q0]
 cases q1:decide (mxI f.lo p.n≤mnI f.hi p.m) with
 |true=>
  by_cases q2:f.has < z.count
  ·rw [decide_eq_true q2]
   refine wk ?_
   exact w_ret (r:=ptruth ⟨true,true⟩) rfl rfl rfl
  rw [decide_eq_false q2]
  by_cases q3:f.lo < p.n
  ·rw [decide_eq_true q3]
   refine wk ?_
   exact w_ret (r:=ptruth ⟨true,true⟩) rfl rfl rfl
  rw [decide_eq_false q3]
  by_cases q4:f.hi > p.m
  ·rw [decide_eq_true q4]
   refine wk ?_
   exact w_ret (r:=ptruth ⟨true,true⟩) rfl rfl rfl
  rw [decide_eq_false q4]
  refine wk ?_
  exact w_ret (r:=ptruth ⟨true,false⟩) rfl rfl rfl
 |false=>
  by_cases q2:f.has < z.count
  ·rw [decide_eq_true q2]
   refine wk ?_
   exact w_ret (r:=ptruth ⟨false,true⟩) rfl rfl rfl
  rw [decide_eq_false q2]
  by_cases q3:f.lo < p.n
  ·rw [decide_eq_true q3]
   refine wk ?_
   exact w_ret (r:=ptruth ⟨false,true⟩) rfl rfl rfl
  rw [decide_eq_false q3]
  by_cases q4:f.hi > p.m
  ·rw [decide_eq_true q4]
   refine wk ?_
   exact w_ret (r:=ptruth ⟨false,true⟩) rfl rfl rfl
  rw [decide_eq_false q4]
  refine wk ?_
  exact w_ret (r:=ptruth ⟨false,false⟩) rfl rfl rfl
set_option maxRecDepth 10000 in
set_option maxHeartbeats 2000000 in
theorem hc_w11 (p:PPred) (hw:(fieldAt s z p.name).words.length≤1000000) (h:WCalls s z 171 [.ptr 1000001 0,pstr p.name] (pfld (fieldAt s z p.name))):WCalls s z 173 [.ptr 1000001 0,ppred p] (ptruth ⟨hasB (fieldAt s z p.name).words p.s,decide ((fieldAt s z p.name).has < z.count) || (fieldAt s z p.name).words.any (fun x => !eqB x p.s)⟩):=by
 have hps:Low (ppreds p.subs):=(low_ppreds _).2 trivial
 have hp1:Low (pdefs s.defs):=(low_pdefs _).2 trivial
 have hp2:Low (pshells z.shells):=(low_pshells _).2 trivial
 have hp3:Low (pflds z.fields):=(low_pflds _).2 trivial
 have hlw:=low_ways
 have hlp:=low_prL p
 have hlp1:Low (.ep (prL p) 0):=.ep _ _ hlp
 have hlz:=low_ptruth ⟨false,false⟩
 unfold WCalls at *
 refine hcalls_of_pw typeTab_ok Tryz.func173 rfl (by kernel_rfl) (by simp [ppred,PV.ownB]) (by rw [Tryz.ntmps173];simp) (by simp [ResIds,wG,wMs]) (by simp [ResIds,wG,wMs]) (w_ok s z (w_args s z p) (low_ptruth _)) ?_ (w_givB s z) w_givM
 rw [Tryz.ntmps173,Tryz.results173]
 generalize fieldAt s z p.name=f at *
 have hlf:=low_pfldL f
 have c1:=pc_containsS f.words p.s (by omega)
 have c2:=pw_anyS 174 [.ep (prL p) 0] (fun x => !eqB x p.s) f.words rfl (by omega) (by simp [hlp1]) (fun k _=>pw_other p _)
 unfold pfld at h
 unfold ppred
 refine PW.seq ?_
 refine PW.region typeTab_ok (by kernel_rfl) ?_
 refine wg ?_
 refine PW.freezeP (id:=0) (s:=3) (off:=0) (σ':=(bot.setb 1000001 (wC s z 1000002) |>.setb 1 [pbool false,pbool false] |>.setm 1000002 waysM |>.put 0 (.ptr 1000001 0) |>.put 4 (.ptr 1 0))) rfl rfl hlp (by exact sbr0) rfl ?_
 by_cases q2:f.has < z.count
 ·rw [decide_eq_true q2]
  refine wk ?_
  exact w_ret (r:=ptruth ⟨hasB f.words p.s,true⟩) rfl rfl rfl
 ·rw [decide_eq_false q2]
  refine wk ?_
  exact w_ret (r:=ptruth ⟨hasB f.words p.s,f.words.any (fun x => !eqB x p.s)⟩) rfl rfl rfl
end
end Go.Proofs.YtoamkpgaaanafaaGreat
