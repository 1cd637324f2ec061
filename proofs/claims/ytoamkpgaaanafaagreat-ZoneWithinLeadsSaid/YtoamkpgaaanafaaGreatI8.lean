/- Out of: Wr. -/
import Derived.Test.YtoamkpgaaanafaaGreatG1
import Derived.Test.YtoamkpgaaanafaaGreatG10
import Derived.Test.YtoamkpgaaanafaaGreatG11
import Derived.Test.YtoamkpgaaanafaaGreatG12
import Derived.Test.YtoamkpgaaanafaaGreatG14
import Derived.Test.YtoamkpgaaanafaaGreatG15
import Derived.Test.YtoamkpgaaanafaaGreatG17
import Derived.Test.YtoamkpgaaanafaaGreatG19
import Derived.Test.YtoamkpgaaanafaaGreatG21
import Derived.Test.YtoamkpgaaanafaaGreatG23
import Derived.Test.YtoamkpgaaanafaaGreatG24
import Derived.Test.YtoamkpgaaanafaaGreatG29
import Derived.Test.YtoamkpgaaanafaaGreatG3
import Derived.Test.YtoamkpgaaanafaaGreatG30
import Derived.Test.YtoamkpgaaanafaaGreatG31
import Derived.Test.YtoamkpgaaanafaaGreatG32
import Derived.Test.YtoamkpgaaanafaaGreatG34
import Derived.Test.YtoamkpgaaanafaaGreatG37
import Derived.Test.YtoamkpgaaanafaaGreatG38
import Derived.Test.YtoamkpgaaanafaaGreatG41
import Derived.Test.YtoamkpgaaanafaaGreatG43
import Derived.Test.YtoamkpgaaanafaaGreatG44
import Derived.Test.YtoamkpgaaanafaaGreatG45
import Derived.Test.YtoamkpgaaanafaaGreatG6
import Derived.Test.YtoamkpgaaanafaaGreatG7
import Derived.Test.YtoamkpgaaanafaaGreatG8
import Derived.Test.YtoamkpgaaanafaaGreatI3
import Derived.Test.YtoamkpgaaanafaaGreatI5
import Derived.Test.YtoamkpgaaanafaaGreatI7
namespace Go.Proofs.YtoamkpgaaanafaaGreat
set_option linter.unusedSimpArgs false
set_option linter.unusedVariables false
set_option linter.unnecessarySimpa false
section
open Go.RowKit
set_option maxRecDepth 10000 in
set_option maxHeartbeats 16000000 in
theorem pw_lWithin (s:PSchema) (pv:List (List Int)) (a b c:PSum) (e:PEntry) (v:List Int) (p:PPred) (t:PSnap) (hl:s.defs.length≤20000000000000) (hw:∀d∈s.defs,d.words.length≤20000000000000) (hp:pv.length≤20000000000000)
  (ba:a.box.lo.length≤20000000000000∧a.box.hi.length≤20000000000000∧a.shells.length≤20000000000000∧a.fields.length≤20000000000000∧∀f∈a.fields,f.words.length≤20000000000000)
  (bb:b.box.lo.length≤20000000000000∧b.box.hi.length≤20000000000000∧b.shells.length≤20000000000000∧b.fields.length≤20000000000000∧∀f∈b.fields,f.words.length≤20000000000000)
  (bc:c.box.lo.length≤20000000000000∧c.box.hi.length≤20000000000000∧c.shells.length≤20000000000000∧c.fields.length≤20000000000000∧∀f∈c.fields,f.words.length≤20000000000000)
  (hE:e.attrs.length≤20000000000000∧e.vec.length≤20000000000000) (hv:v.length≤20000000000000) (hpl:lenP p) :
  PCalls Tryz.prog 6 [pschema s,pvecs pv,psum a,psum b,psum c,pentry e,pints v,ppred p,psnap t] (· = pbool true):=by
 obtain ⟨a1,a2,a3,a4,a5⟩:=ba
 obtain ⟨b1,b2,b3,b4,b5⟩:=bb
 obtain ⟨c1,c2,c3,c4,c5⟩:=bc
 have k0:=pw_sanity
 have k1:=pw_lsmall s pv hl hw hp
 have k3:=pw_rFew a a1 a2 a3 a4 a5
 have k4:=pw_rFew b b1 b2 b3 b4 b5
 have k5:=pw_rFew c c1 c2 c3 c4 c5
 have k6:=pw_few e hE.1 hE.2
 have k7:=pw_vecValid2 v hv
 have hls:=low_schCells s
 have hla:=low_psumL a
 have hlb:=low_psumL b
 have hlc:=low_psumL c
 have hle:=low_entCells e
 have hlp:=low_prL p
 have hlv:Low (pvecs pv):=(low_pvecs pv).2 trivial
 refine pcalls_of_pw typeTab_ok Tryz.func6 rfl (by kernel_rfl) (by simp [low_pint,low_pints,low_pstr,low_pbool,low_pbox,low_pvecs,low_pentry,low_pentries,low_psum,low_pschema,low_pshells,low_pstrs,low_pfld,low_pdef,low_ppred,low_psnap]) (by simp [pint,pints,pstr,pbool,pbox,pvecs,pentry,pentries,psum,psumL,pschema,pshells,pstrs,pfld,pfldL,pdefL,PV.ownB,ppred,psnap]) (by rw [Tryz.ntmps6];simp) ?_
 rw [Tryz.ntmps6,Tryz.results6]
 unfold ppred
 cases e1:(fewDefs6B s && few9 pv 9) with
 |false=>
  rw [e1] at k1
  clear k3 k4 k5 k6 k7
  refine wk ?_
  exact retP (r:=pbool true) rfl (by exact lw) rfl
 |true=>
 rw [e1] at k1
 rw [Bool.and_eq_true] at e1
 have hS:SmallS s:=(fewDefs6B_few e1.1).small
 have hd6:=fewDefs6_len e1.1
 obtain ⟨p1,p2⟩:=few9_get e1.2
 have hpv:∀v∈pv,v.length≤1000000:=fun v hv=>by have:=p2 v hv;omega
 have k2:=pw_lright s pv hS (by omega) hpv
 cases e2:(decide (checkE s=0) && pivS s pv) with
 |false=>
  rw [e2] at k2
  clear k3 k4 k5 k6 k7
  refine wk ?_
  exact retP (r:=pbool true) rfl (by exact lw) rfl
 |true=>
 rw [e2] at k2
 rw [Bool.and_eq_true,decide_eq_true_eq] at e2
 obtain ⟨hc,hpS⟩:=e2
 obtain ⟨pq,pp⟩:=pivS_get hpS
 have hm:=(checkE_met hc).1
 cases e3:fewZ a with
 |false=>
  rw [e3] at k3
  clear k4 k5 k6 k7
  refine wk ?_
  exact retP (r:=pbool true) rfl (by exact lw) rfl
 |true=>
 rw [e3] at k3
 cases e4:fewZ b with
 |false=>
  rw [e4] at k4
  clear k5 k6 k7
  refine wk ?_
  exact retP (r:=pbool true) rfl (by exact lw) rfl
 |true=>
 rw [e4] at k4
 cases e5:fewZ c with
 |false=>
  rw [e5] at k5
  clear k6 k7
  refine wk ?_
  exact retP (r:=pbool true) rfl (by exact lw) rfl
 |true=>
 rw [e5] at k5
 cases e6:fewB e with
 |false=>
  rw [e6] at k6
  clear k7
  refine wk ?_
  exact retP (r:=pbool true) rfl (by exact lw) rfl
 |true=>
 rw [e6] at k6
 have hev:e.vec.length≤40∧e.attrs.length≤20:=by
  simp only [fewB,Bool.and_eq_true,decide_eq_true_eq] at e6
  exact e6.2
 cases e7:vecB v with
 |false=>
  rw [e7] at k7
  refine wk ?_
  exact retP (r:=pbool true) rfl (by exact lw) rfl
 |true=>
 rw [e7] at k7
 have hv2:=(vecB_get e7).1
 by_cases e8:(v.length:Int)=s.dims
 rotate_left
 ·refine wk ?_
  exact retP (r:=pbool true) rfl (by exact lw) rfl
 have hdw:∀k,(s.defs.getD k default).words.length≤1000000:=fun k=>by
  rcases Nat.lt_or_ge k s.defs.length with hk|hk
  ·have:=((fewDefs6B_few e1.1).2 _ (getD_mem hk)).1
   omega
  ·rw [List.getD_eq_getElem?_getD,List.getElem?_eq_none hk]
   exact (by decide:(0:Nat)≤1000000)
 have k8:=pw_rValid s pv.length a (fewZ_small e3) (by omega) hdw
 have k9:=pw_rValid s pv.length b (fewZ_small e4) (by omega) hdw
 have k10:=pw_rValid s pv.length c (fewZ_small e5) (by omega) hdw
 cases e9:sumB s pv.length a with
 |false=>
  rw [e9] at k8
  clear k9 k10
  refine wk ?_
  exact retP (r:=pbool true) rfl (by exact lw) rfl
 |true=>
 rw [e9] at k8
 cases e10:sumB s pv.length b with
 |false=>
  rw [e10] at k9
  clear k10
  refine wk ?_
  exact retP (r:=pbool true) rfl (by exact lw) rfl
 |true=>
 rw [e10] at k9
 cases e11:sumB s pv.length c with
 |false=>
  rw [e11] at k10
  refine wk ?_
  exact retP (r:=pbool true) rfl (by exact lw) rfl
 |true=>
 rw [e11] at k10
 have va:=sumV_of e9
 have vb:=sumV_of e10
 have vc:=sumV_of e11
 have la:=va.len
 have lb:=vb.len
 have lc:=vc.len
 have k11:=pw_within s a a (fewZ_small e3) (fewZ_small e3) va.countZ va.countZ (by omega) (by omega) (by omega)
 rw [with_self va] at k11
 have k12:=pw_within s a b (fewZ_small e3) (fewZ_small e4) va.countZ vb.countZ (by omega) (by omega) (by omega)
 have k13:=pw_within s b c (fewZ_small e4) (fewZ_small e5) vb.countZ vc.countZ (by omega) (by omega) (by omega)
 have k14:=pw_within s a c (fewZ_small e3) (fewZ_small e5) va.countZ vc.countZ (by omega) (by omega) (by omega)
 have hT:withinZ s a b=true→withinZ s b c=true→withinZ s a c=true:=fun h g=>with_trans (withinZ_iff.1 h) (withinZ_iff.1 g)
 cases e12:withinZ s a b with
 |false=>
  rw [e12] at k12
  clear hT k13 k14
  refine wk ?_
  exact retP (r:=pbool true) rfl (by exact lw) rfl
 |true=>
 rw [e12] at k12
 have hT2:=hT e12
 have hW:=withinZ_iff.1 e12
 have hna:a.shells.length=pv.length:=by have:=va.num;omega
 obtain ⟨n1,n2,n3⟩:=with_bound hW va vb hm e7 e8 (fun k hk=>(pp k hk).1) hna
 have k15:=pw_r9Keys s.metric pv v hm (by omega) (fun k hk=>by obtain ⟨q1,q2⟩:=pp k hk;exact ⟨q1,by omega⟩) e7
 have hkl:=keysP_len s.metric pv v
 have k16:=pw_zBound s a v (keysP s.metric pv v) (fewZ_small e3) (by omega) (by omega)
 have k17:=pw_zBound s b v (keysP s.metric pv v) (fewZ_small e4) (by omega) (by omega)
 have k18:=pw_zSeen a t
 have k19:=pw_zSeen b t
 have k20:=pw_obeys s pv a e (fewZ_small e3) hS (by omega) (by omega) hm (by omega) pp (entry_right hc) (by omega)
 have k21:=pw_obeys s pv b e (fewZ_small e4) hS (by omega) (by omega) hm (by omega) pp (entry_right hc) (by omega)
 have k22:=pw_fewP p 8 (by omega) hpl
 have k23:=pw_checkP s p hpl (by omega)
 have hWa:SmallW s a:=⟨by omega,by omega,by omega,(fewZ_small e3).2.2.2.2⟩
 have hWb:SmallW s b:=⟨by omega,by omega,by omega,(fewZ_small e4).2.2.2.2⟩
 have hC:checkP s p=0→PCalls Tryz.prog 31 [pschema s,psum a,ppred p] (· = .tup [pbool (canZ s a p).yes,pbool (canZ s a p).no])∧PCalls Tryz.prog 31 [pschema s,psum b,ppred p] (· = .tup [pbool (canZ s b p).yes,pbool (canZ s b p).no])∧CanLe (canZ s a p) (canZ s b p):=fun h=>by
  obtain ⟨h1,h2⟩:=check_ok h
  exact ⟨pw_can hWa p h1,pw_can hWb p h1,can_away hW va p h1 h2⟩
 have hS1:zSeen a t=false∨(zSeen a t=true∧zSeen b t=true):=by
  cases h:zSeen a t with
  |false=>exact .inl rfl
  |true=>exact .inr ⟨rfl,with_seen hW t h⟩
 have hO1:obeysZ s pv a e=false∨(obeysZ s pv a e=true∧obeysZ s pv b e=true):=by
  cases h:obeysZ s pv a e with
  |false=>exact .inl rfl
  |true=>exact .inr ⟨rfl,with_obeys hW va h⟩
 have hB:withinZ s b c=false∨(withinZ s b c=true∧withinZ s a c=true):=by
  cases h:withinZ s b c with
  |false=>exact .inl rfl
  |true=>exact .inr ⟨rfl,hT2 h⟩
 generalize zBound s a v (keysP s.metric pv v)=A at *
 generalize zBound s b v (keysP s.metric pv v)=B at *
 generalize keysP s.metric pv v=ks at *
 generalize zSeen a t=sa at *
 generalize zSeen b t=sb at *
 generalize obeysZ s pv a e=oa at *
 generalize obeysZ s pv b e=ob at *
 generalize withinZ s b c=wb at *
 generalize withinZ s a c=wc at *
 generalize checkP s p=ce at *
 obtain ⟨x,y⟩:=A
 obtain ⟨x2,y2⟩:=B
 simp only at n1 n2 n3 k16 k17
 subst n1
 subst n2
 have hlk:Low (pints ks):=(low_pints ks).2 trivial
 clear e1 e3 e4 e5 e6 e9 e10 e11 e12 hdw hd6 hS va vb vc hT hT2 hW hWa hWb hpS pq pp hpv p1 p2 hc a5 b5 c5 hw hkl hna
 unfold ppred at *
 generalize hfw:fewPB p 8=fw at *
 clear hfw
 refine wk ?_
 rcases hB with rfl|⟨rfl,rfl⟩
 all_goals
  refine wk ?_
  rcases hS1 with rfl|⟨rfl,rfl⟩
  all_goals
   refine wk ?_
   rcases hO1 with rfl|⟨rfl,rfl⟩
   all_goals
    refine wk ?_
    cases fw with
    |false=>
     clear k23 hC
     refine wk ?_
     exact retP (r:=pbool true) rfl (by exact lw) rfl
    |true=>
     refine wk ?_
     by_cases q4:ce=0
     ·obtain ⟨k24,k25,hc1,hc2,hc3⟩:=hC q4
      clear hC
      generalize canZ s a p=ta at *
      generalize canZ s b p=tb at *
      obtain ⟨ya,na⟩:=ta
      obtain ⟨yb,nb⟩:=tb
      simp only at k24 k25 hc1 hc2 hc3
      have hD:(ya=true∧na=true∧yb=true∧nb=true)∨(ya=true∧na=false∧yb=true)∨(ya=false∧na=true∧nb=true):=by
       cases ya<;>cases na<;>simp_all
      clear hc1 hc2 hc3
      refine wk ?_
      rcases hD with ⟨rfl,rfl,rfl,rfl⟩|⟨rfl,rfl,rfl⟩|⟨rfl,rfl,rfl⟩
      all_goals
       refine wk ?_
       exact retP (r:=pbool true) rfl (by exact lw) rfl
     ·clear hC
      refine wk ?_
      exact retP (r:=pbool true) rfl (by exact lw) rfl
end
end Go.Proofs.YtoamkpgaaanafaaGreat
