/- Merged: We. -/
import Derived.Test.YtoamkpgaaanafaaGreatS48
import Derived.Test.YtoamkpgaaanafaaGreatS49
/- law18: ZoneSumsAsSpecified. -/
namespace Go.Proofs.YtoamkpgaaanafaaGreat
set_option linter.unusedSimpArgs false
set_option linter.unusedVariables false
set_option linter.unnecessarySimpa false
open Go.RowKit
theorem refOf_num {s:PSchema} {pv:List (List Int)} {l:List PEntry} (hs:s.defs.length≤100) (hl:l.length≤1000) (hA:FitL l) (hT:∀e∈l,Fit64 e.frm∧Fit64 e.to∧Fit64 e.born):NumZ (refOf s pv l).1:=by
 unfold refOf
 split
 ·exact zero_enc
 ·rename_i h1
  split
  ·exact zero_enc
  ·rename_i h2
   split
   ·exact zero_enc
   ·simp only [not_or,Classical.not_not] at h1 h2
    have he:∀e∈l,entryE s e=0:=fun e h=>by
     by_cases q:entryE s e=0
     ·exact q
     ·exact absurd (List.any_eq_true.2 ⟨e,h,by simpa using q⟩) h2.1
    have hS:=sumOK_of h1.1 h1.2.1 h1.2.2 he
    simp only
    rw [refL_of l (by omega) hS (by omega)]
    exact of_num hS (by omega) hl hs hA hT
theorem entry_right {s:PSchema} {e:PEntry} (hc:checkE s=0) (h:entryA s e=0):vecB e.vec=true∧(e.vec.length:Int)=s.dims:=by
 rw [entryA_E hc] at h
 exact entryE_vec h
theorem pivS_get {s:PSchema} {pv:List (List Int)} (h:pivS s pv=true):pv.length≤8∧∀k,k < pv.length→vecB (pv.getD k default)=true∧((pv.getD k default).length:Int)=s.dims:=by
 simp only [pivS,Bool.and_eq_true,Bool.not_eq_true',decide_eq_true_eq] at h
 exact ⟨h.2,fun k hk=>wrongV_ok (by rw [h.1];decide) _ (getD_mem hk)⟩
set_option maxRecDepth 10000 in
set_option maxHeartbeats 8000000 in
theorem pw_lSums (s:PSchema) (pv:List (List Int)) (l:List PEntry) (z:PSum) (n:Int) (hl:s.defs.length≤20000000000000) (hw:∀d∈s.defs,d.words.length≤20000000000000) (hp:pv.length≤20000000000000)
  (hl1:l.length≤20000000000000) (hE:∀e∈l,e.attrs.length≤20000000000000∧e.vec.length≤20000000000000) (hT:∀e∈l,Fit64 e.frm∧Fit64 e.to∧Fit64 e.born) (hN:∀e∈l,∀a∈e.attrs,Fit64 a.n)
  (bz:z.box.lo.length≤20000000000000∧z.box.hi.length≤20000000000000∧z.shells.length≤20000000000000∧z.fields.length≤20000000000000∧∀f∈z.fields,f.words.length≤20000000000000) :
  PCalls Tryz.prog 3 [pschema s,pvecs pv,pentries l,psum z,pint n] (· = pbool true):=by
 obtain ⟨a1,a2,a3,a4,a5⟩:=bz
 have k0:=pw_sanity
 have k1:=pw_lsmall s pv hl hw hp
 have k2:=pw_fewEs l 25 hl1 hE
 have k3:=pw_rFew z a1 a2 a3 a4 a5
 have hls:=low_schCells s
 have hlz:=low_psumL z
 have hlp:Low (pvecs pv):=(low_pvecs pv).2 trivial
 have hll:Low (pentries l):=(low_pentries l).2 trivial
 refine pcalls_of_pw typeTab_ok Tryz.func3 rfl (by kernel_rfl) (by simp [low_pint,low_pints,low_pstr,low_pbool,low_pbox,low_pvecs,low_pentry,low_pentries,low_psum,low_pschema,low_pshells,low_pstrs,low_pfld,low_pdef]) (by simp [pint,pints,pstr,pbool,pbox,pvecs,pentry,pentries,psum,psumL,pschema,pshells,pstrs,pfld,pfldL,pdefL,PV.ownB]) (by rw [Tryz.ntmps3];simp) ?_
 rw [Tryz.ntmps3,Tryz.results3]
 cases e1:(fewDefs6B s && few9 pv 9) with
 |false=>
  rw [e1] at k1
  clear k2 k3
  refine wk ?_
  exact retP (r:=pbool true) rfl (by exact lw) rfl
 |true=>
 rw [e1] at k1
 rw [Bool.and_eq_true] at e1
 have hS:SmallS s:=(fewDefs6B_few e1.1).small
 have hd6:=fewDefs6_len e1.1
 obtain ⟨p1,p2⟩:=few9_get e1.2
 cases e2:fewEs l 25 with
 |false=>
  rw [e2] at k2
  clear k3
  refine wk ?_
  exact retP (r:=pbool true) rfl (by exact lw) rfl
 |true=>
 rw [e2] at k2
 obtain ⟨m1,m2⟩:=fewEs_get e2
 cases e3:fewZ z with
 |false=>
  rw [e3] at k3
  refine wk ?_
  exact retP (r:=pbool true) rfl (by exact lw) rfl
 |true=>
 rw [e3] at k3
 have hA:FitL l:=fun e he a ha=>⟨hN e he a ha,by have:=(m2 e he).2.2 a ha;omega⟩
 have hpv:∀v∈pv,v.length≤1000000:=fun v hv=>by have:=p2 v hv;omega
 have k4:=pw_zOf s pv l hS (by omega) hpv (by omega) (fun k hk=>by
  obtain ⟨b1,b2,b3⟩:=m2 _ (getD_mem hk)
  exact ⟨by omega,by omega,fun a ha=>by have:=b3 a ha;omega⟩)
 have k5:=pw_rOf s pv l hS (by omega) hpv (by omega) (fun e he=>by
  obtain ⟨b1,b2,b3⟩:=m2 e he
  exact ⟨by omega,by omega⟩) hA
 rw [zOf_ref] at k4
 have hQ:=(refOf_num (s:=s) (pv:=pv) (l:=l) (by omega) (by omega) hA hT).enc
 generalize refOf s pv l=J at *
 obtain ⟨x,e⟩:=J
 have k6:=pw_rSame x x hQ hQ
 rw [show ((strI (encZ x)).toList == (strI (encZ x)).toList)=true by simp] at k6
 have hlx:=low_psumL x
 have hee:(e == e)=true:=by simp
 have he2:(e != e)=false:=by simp
 have he3:decide (e≠e)=false:=by simp
 have he4:(!(e == e))=false:=by simp
 have he5:(!decide (e=e))=false:=by simp
 simp only at k4 k5
 have k7:=pcRefCheck s hS
 by_cases e4:checkE s=0
 rotate_left
 ·refine wk ?_
  exact retP (r:=pbool true) rfl (by exact lw) rfl
 rw [e4] at k7
 have hdw:∀k,(s.defs.getD k default).words.length≤1000000:=fun k=>by
  rcases Nat.lt_or_ge k s.defs.length with hk|hk
  ·have:=((fewDefs6B_few e1.1).2 _ (getD_mem hk)).1
   omega
  ·rw [List.getD_eq_getElem?_getD,List.getElem?_eq_none hk]
   exact (by decide:(0:Nat)≤1000000)
 have k8:=pw_sumValid s n z (fewZ_small e3) (by omega) hdw
 have k9:=pw_rValid s n z (fewZ_small e3) (by omega) hdw
 have k10:=pw_rPivots s pv (by omega) hpv
 have k11:=pw_rValid s pv.length z (fewZ_small e3) (by omega) hdw
 cases e6:sumB s pv.length z with
 |false=>
  rw [e6] at k11
  generalize sumB s n z=w at *
  have hww:(w == w)=true:=by simp
  have hw2:(w != w)=false:=by simp
  have hw3:decide (w≠w)=false:=by simp
  have hw4:(!(w == w))=false:=by simp
  have hw5:(!decide (w=w))=false:=by simp
  cases e5:pivS s pv <;>
  ·rw [e5] at k10
   refine wk ?_
   exact retP (r:=pbool true) rfl (by exact lw) rfl
 |true=>
 rw [e6] at k11
 cases e5:pivS s pv with
 |false=>
  rw [e5] at k10
  generalize sumB s n z=w at *
  have hww:(w == w)=true:=by simp
  have hw2:(w != w)=false:=by simp
  have hw3:decide (w≠w)=false:=by simp
  have hw4:(!(w == w))=false:=by simp
  have hw5:(!decide (w=w))=false:=by simp
  refine wk ?_
  exact retP (r:=pbool true) rfl (by exact lw) rfl
 |true=>
 rw [e5] at k10
 generalize sumB s n z=w at *
 have hww:(w == w)=true:=by simp
 have hw2:(w != w)=false:=by simp
 have hw3:decide (w≠w)=false:=by simp
 have hw4:(!(w == w))=false:=by simp
 have hw5:(!decide (w=w))=false:=by simp
 refine wk ?_
 clear k1 k2 k3 k4 k5 k6 k7 k8 k9 k10 k11
 have vz:=sumV_of e6
 obtain ⟨pq,pp⟩:=pivS_get e5
 have hm:=(checkE_met e4).1
 refine PW.loop (fun k:Nat=>(bot.setb 0 (schCellsP s) |>.setb 1 (psumL z) |>.put 1 (pvecs pv) |>.put 2 (pentries l) |>.put 5 (.ptr 0 0) |>.put 8 (.ptr 1 0) |>.put 14 (pint k))) (fun k=>k≤l.length) (fun k=>l.length - k) 0 (by omega) ?_ ?_
 ·exact sb
 intro k hk
 by_cases hlt:k < l.length
 ·obtain ⟨b1,b2,b3⟩:=m2 _ (getD_mem hlt)
  have hAe:=hA _ (getD_mem hlt)
  have hle:=low_entCells (l.getD k default)
  have c1:=pw_obeys s pv z (l.getD k default) (fewZ_small e3) hS (by omega) (by omega) hm (by omega) pp (entry_right e4) (by rw [vz.len];omega)
  have c2:=pw_rObeys s pv z (l.getD k default) (fewZ_small e3) hS (by omega) (by omega) hAe hm (by omega) pp (fun h=>entryE_vec h) vz.len
  rw [obeysR_eq e4 vz] at c2
  generalize obeysZ s pv z (l.getD k default)=w2 at *
  have hv1:(w2 == w2)=true:=by simp
  have hv2:(w2 != w2)=false:=by simp
  have hv3:decide (w2≠w2)=false:=by simp
  have hv4:(!(w2 == w2))=false:=by simp
  have hv5:(!decide (w2=w2))=false:=by simp
  refine wk ?_
  refine loopP (k+1) (by omega) (by omega) ?_
  exact sb
 ·refine wk ?_
  exact retP (r:=pbool true) rfl (by exact lw) rfl
end Go.Proofs.YtoamkpgaaanafaaGreat
