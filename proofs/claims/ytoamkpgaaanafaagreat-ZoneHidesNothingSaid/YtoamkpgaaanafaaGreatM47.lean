/- Out of: Hr. -/
import Derived.Test.YtoamkpgaaanafaaGreatM44
import Derived.Test.YtoamkpgaaanafaaGreatM45
import Derived.Test.YtoamkpgaaanafaaGreatM46
namespace Go.Proofs.YtoamkpgaaanafaaGreat
set_option linter.unusedSimpArgs false
set_option linter.unusedVariables false
set_option linter.unnecessarySimpa false
section
open Go.RowKit
set_option maxRecDepth 10000 in
theorem pw_lcan {s:PSchema} {pv:List (List Int)} {z:PSum} {e:PEntry} {n:Int} (hc:checkE s=0) (hW:SmallW s z) (hz:SumV s n z) (ho:obeysZ s pv z e=true) (p:PPred) (hp:okP s p) (hk:okK s p) (hn:okN s p) (ha:e.attrs.length≤1000000):PCalls Tryz.prog 42 [pschema s,psum z,ppred p,pentry e] (· = pbool true):=by
 have c1:=pw_can hW p hp
 have c2:=pw_Holds e.attrs p (pw_hold e.attrs ha p hp)
 obtain ⟨t1,t2⟩:=can_true hc hz ho p hp hk hn
 have hls:=low_schCells s
 have hlz:=low_psumL z
 have hle:=low_entCells e
 have hlp:=low_prL p
 refine pcalls_of_pw typeTab_ok Tryz.func42 rfl (by kernel_rfl) (by simp [low_pschema,low_psum,low_ppred,low_pentry]) (by simp [pschema,psum,psumL,ppred,pentry,PV.ownB]) (by rw [Tryz.ntmps42];simp) ?_
 rw [Tryz.ntmps42,Tryz.results42]
 generalize canZ s z p=t at *
 obtain ⟨ty,tn⟩:=t
 simp only at c1 t1 t2
 unfold ppred at *
 cases hb:holdsZ e.attrs p with
 |true=>
  rw [hb] at c2
  rw [t1 hb] at c1
  refine wk ?_
  exact retP (r:=pbool true) rfl (by exact lw) rfl
 |false=>
  rw [hb] at c2
  rw [t2 hb] at c1
  refine wk ?_
  exact retP (r:=pbool true) rfl (by exact lw) rfl
def enF (l:List PEntry):PV:=if l.length=0 then .nilsl else .sl l.length 9 (l.flatMap entCellsP) (some 50)
theorem low_enC (l:List PEntry):∀c∈l.flatMap entCellsP,Low c:=fun c hc=>by
 obtain ⟨x,-,hx⟩:=List.mem_flatMap.1 hc
 exact low_entCells x c hx
theorem low_enF (l:List PEntry):Low (enF l):=by
 unfold enF
 split
 ·exact .nilsl
 ·exact .sl _ _ _ _ (low_enC l)
theorem enF_snoc (l:List PEntry) (x:PEntry):enF (l ++ [x]) = .sl (l.length+1) 9 (l.flatMap entCellsP ++ entCellsP x) (some 50):=by
 unfold enF
 rw [if_neg (by simp)]
 simp
theorem seen_of {s:PSchema} {pv:List (List Int)} {z:PSum} {e:PEntry} (h:obeysZ s pv z e=true) (a:PSnap) (h1:e.frm≤a.day) (h2:a.day < e.to) (h3:e.born≤a.commit):zSeen z a=true:=by
 simp only [obeysZ,withinB,Bool.and_eq_true,decide_eq_true_eq] at h
 obtain ⟨-,-,-,-,g1,g2,g3,-⟩:=h
 simp only [zSeen,Bool.and_eq_true,decide_eq_true_eq]
 omega
set_option maxRecDepth 10000 in
set_option maxHeartbeats 16000000 in
theorem pw_lHides (s:PSchema) (pv:List (List Int)) (l:List PEntry) (u:Int) (v:List Int) (p:PPred) (at_:PSnap) (hl:s.defs.length≤20000000000000) (hw:∀d∈s.defs,d.words.length≤20000000000000) (hp:pv.length≤20000000000000) (hL:BigL l) (hv:v.length≤20000000000000) (hpl:lenP p) :
  PCalls Tryz.prog 7 [pschema s,pvecs pv,pentries l,pu32 u,pints v,ppred p,psnap at_] (· = pbool true):=by
 have k0:=pw_sanity
 have k1:=pw_lsmall s pv hl hw hp
 have k3:=pw_fewEs l 25 hL.len hL.parts
 have k4:=pw_vecValid2 v hv
 have hls:=low_schCells s
 have hlp:=low_prL p
 have hlv:Low (pvecs pv):=(low_pvecs pv).2 trivial
 have hll:Low (pentries l):=(low_pentries l).2 trivial
 have hlpp:Low (ppreds p.subs):=(low_ppreds _).2 trivial
 refine pcalls_of_pw typeTab_ok Tryz.func7 rfl (by kernel_rfl) (by simp [low_pschema,low_pvecs,low_pentries,low_pu32,low_pints,low_ppred,low_psnap]) (by simp [pschema,pvecs,pentries,pu32,pints,ppred,psnap,PV.ownB]) (by rw [Tryz.ntmps7];simp) ?_
 rw [Tryz.ntmps7,Tryz.results7]
 cases e1:(fewDefs6B s && few9 pv 9) with
 |false=>
  rw [e1] at k1
  clear k3 k4
  refine wk ?_
  exact retP (r:=pbool true) rfl (by exact lw) rfl
 |true=>
 rw [e1] at k1
 rw [Bool.and_eq_true] at e1
 have hS:SmallS s:=(fewDefs6B_few e1.1).small
 have hd6:=fewDefs6_len e1.1
 obtain ⟨p1,p2⟩:=few9_get e1.2
 have hpv:∀v∈pv,v.length≤1000000:=fun v hv=>by have:=p2 v hv;omega
 have k2:=pw_lright s pv hS (by omega) hpv
 cases e2:(decide (checkE s=0) && pivS s pv) with
 |false=>
  rw [e2] at k2
  clear k3 k4
  refine wk ?_
  exact retP (r:=pbool true) rfl (by exact lw) rfl
 |true=>
 rw [e2] at k2
 rw [Bool.and_eq_true,decide_eq_true_eq] at e2
 obtain ⟨hc,hpS⟩:=e2
 obtain ⟨pq,pp⟩:=pivS_get hpS
 have hm:=(checkE_met hc).1
 cases e3:fewEs l 25 with
 |false=>
  rw [e3] at k3
  clear k4
  refine wk ?_
  exact retP (r:=pbool true) rfl (by exact lw) rfl
 |true=>
 rw [e3] at k3
 obtain ⟨m1,m2⟩:=fewEs_get e3
 by_cases q1:v.length > 40
 ·refine wk ?_
  exact retP (r:=pbool true) rfl (by exact lw) rfl
 cases e7:vecB v with
 |false=>
  rw [e7] at k4
  refine wk ?_
  exact retP (r:=pbool true) rfl (by exact lw) rfl
 |true=>
 rw [e7] at k4
 by_cases e8:(v.length:Int)=s.dims
 rotate_left
 ·refine wk ?_
  exact retP (r:=pbool true) rfl (by exact lw) rfl
 have hA:FitL l:=fun e he a ha=>⟨hL.nums e he a ha,by have:=(m2 e he).2.2 a ha;omega⟩
 have hfe:=fewEs_of m2
 unfold ppred
 rw [prL_eq p] at hlp ⊢
 have hlsn:∀c ∈ [pint at_.day,pint at_.commit],Low c:=by simp [low_pint]
 have hle0:=low_enF []
 refine wk ?_
 clear k1 k2 k3 k4
 refine PW.loop (fun x:Nat×List PEntry=>(bot.setb 0 (schCellsP s) |>.setb 1 [pint p.op,pstr p.name,pint p.n,pint p.m,pstr p.s,ppreds p.subs] |>.setb 2 [pint at_.day,pint at_.commit] |>.put 1 (pvecs pv) |>.put 2 (pentries l) |>.put 3 (pu32 u) |>.put 4 (pints v) |>.put 7 (.ptr 0 0) |>.put 12 (.ptr 1 0) |>.put 13 (.ptr 2 0) |>.put 15 (enF x.2) |>.put 16 (pint x.1))) (fun x=>x.1≤l.length∧x.2.Sublist (l.take x.1)∧∀j,j < x.1→entryE s (l.getD j default)=0) (fun x=>l.length - x.1) (0,[]) ⟨by simp,by simp,by simp⟩ ?_ ?_
 ·exact sb
 rintro ⟨k,P⟩ ⟨hk,hsub,hent⟩
 simp only at hk hsub hent ⊢
 have hpl2:=hsub.length_le
 rw [List.length_take] at hpl2
 have hlen:=low_enF P
 by_cases hlt:k < l.length
 ·have hx:=hfe k hlt
  have c1:=pcRefEntry s (l.getD k default) hS hx.1 hx.2.1
  have hle:=low_entCells (l.getD k default)
  by_cases q2:entryE s (l.getD k default)=0
  rotate_left
  ·refine wk ?_
   exact retP (r:=pbool true) rfl (by exact lw) rfl
  rw [q2] at c1
  have hent2:∀j,j < k+1→entryE s (l.getD j default)=0:=fun j hj=>by
   rcases Nat.lt_succ_iff_lt_or_eq.1 hj with h|h
   ·exact hent j h
   ·rw [h];exact q2
  have hs1:P.Sublist (l.take (k+1)):=hsub.trans (by rw [take_getD default hlt];exact List.sublist_append_left _ _)
  have hs2:(P ++ [l.getD k default]).Sublist (l.take (k+1)):=by rw [take_getD default hlt];exact List.Sublist.append hsub (List.Sublist.refl _)
  have hlen2:=low_enF (P ++ [l.getD k default])
  rw [enF_snoc] at hlen2
  refine wk ?_
  refine PWops.boolS rfl rfl rfl rfl rfl ?_ ?_
  ·intro _
   by_cases h0:P.length=0
   ·have hn:=List.eq_nil_of_length_eq_zero h0
    subst hn
    have e9:enF [] = .nilsl:=rfl
    rw [e9]
    refine wk ?_
    refine loopP (k+1,[] ++ [l.getD k default]) ⟨by simp only;omega,hs2,hent2⟩ (by simp only;omega) ?_
    simp only
    rw [enF_snoc]
    simp only [List.length_nil,List.flatMap_nil,List.nil_append,Nat.zero_add] at hlen2 ⊢
    exact sb
   ·have e9:enF P = .sl P.length 9 (P.flatMap entCellsP) (some 50):=by unfold enF;rw [if_neg h0]
    rw [e9]
    refine wk ?_
    refine loopP (k+1,P ++ [l.getD k default]) ⟨by simp only;omega,hs2,hent2⟩ (by simp only;omega) ?_
    simp only
    rw [enF_snoc]
    exact sb
  ·intro _
   refine wk ?_
   refine loopP (k+1,P) ⟨by simp only;omega,hs1,hent2⟩ (by simp only;omega) ?_
   exact sb
 ·obtain rfl:k=l.length:=by omega
  rw [List.take_length] at hsub
  have he:∀e∈l,entryE s e=0:=fun e h=>by
   obtain ⟨j,hj,rfl⟩:=List.getElem_of_mem h
   have:=hent j hj
   rw [getD_atW hj] at this
   exact this
  by_cases h0:P.length=0
  ·have hn:=List.eq_nil_of_length_eq_zero h0
   subst hn
   have e9:enF [] = .nilsl:=rfl
   rw [e9]
   refine wk ?_
   exact retP (r:=pbool true) rfl (by exact lw) rfl
  have e9:enF P = .sl P.length 9 (P.flatMap entCellsP) (some 50):=by unfold enF;rw [if_neg h0]
  rw [e9] at hlen ⊢
  have hP0:0 < P.length:=by omega
  have hPl:=hsub.length_le
  have mP:∀e∈P,e.vec.length≤40∧e.attrs.length≤20∧∀a∈e.attrs,a.s.size≤300:=fun e h=>m2 e (hsub.subset h)
  have hAP:FitL P:=fun e h=>hA e (hsub.subset h)
  have heP:∀e∈P,entryE s e=0:=fun e h=>he e (hsub.subset h)
  obtain ⟨z1,-,vZ,sZ,cZ,dZ,nZ,oZ⟩:=one_list hc hpS hS (l:=l) (by omega) (by omega) hA he
  obtain ⟨x1,-,vX,sX,cX,dX,nX,oX⟩:=one_list hc hpS hS (l:=P) hP0 (by omega) hAP heP
  have okZ:=(one_list hc hpS hS (l:=l) (by omega) (by omega) hA he).2.1
  have hw2:WithZ s (ofL s pv P) (ofL s pv l):=sub_within hc hsub okZ hP0 (by omega) (fun e h=>by rw [entryA_E hc];exact he e h)
  have hdw:∀k,(s.defs.getD k default).words.length≤1000000:=fun k=>by
   rcases Nat.lt_or_ge k s.defs.length with hk|hk
   ·have:=((fewDefs6B_few e1.1).2 _ (getD_mem hk)).1
    omega
   ·rw [List.getD_eq_getElem?_getD,List.getElem?_eq_none hk]
    exact (by decide:(0:Nat)≤1000000)
  have k5:=pw_zOf s pv l hS (by omega) hpv (by omega) hfe
  have k6:=pw_zOf s pv P hS (by omega) hpv (by omega) (fewEs_of mP)
  rw [z1] at k5
  have eP:PV.sl P.length 9 (P.flatMap entCellsP) none=pentries P:=rfl
  rw [x1,←eP] at k6
  have k7:=pw_r9Keys s.metric pv v hm (by omega) (fun k hk=>by obtain ⟨q1,q2⟩:=pp k hk;exact ⟨q1,by omega⟩) e7
  have hkl:=keysP_len s.metric pv v
  obtain ⟨n1,n2,n3⟩:=with_bound hw2 vX vZ hm e7 e8 (fun k hk=>(pp k hk).1) nX
  have k8:=pw_zBound s (ofL s pv l) v (keysP s.metric pv v) sZ (by omega) (by omega)
  have k9:=pw_zBound s (ofL s pv P) v (keysP s.metric pv v) sX (by omega) (by omega)
  have k10:=pw_within s (ofL s pv P) (ofL s pv l) sX sZ cX cZ (by omega) (by omega) (by omega)
  rw [withinZ_iff.2 hw2] at k10
  have k11:=pw_sumValid s pv.length (ofL s pv P) sX (by omega) hdw
  rw [sumB_mk vX] at k11
  have k12:=pw_fewP p 8 (by omega) hpl
  have k13:=pw_checkP s p hpl (by omega)
  have hWX:SmallW s (ofL s pv P):=⟨by omega,by omega,by omega,sX.2.2.2.2⟩
  have hWZ:SmallW s (ofL s pv l):=⟨by omega,by omega,by omega,sZ.2.2.2.2⟩
  have hR:∀j,j < P.length→PCalls Tryz.prog 22 [pschema s,pvecs pv,psum (ofL s pv l),pentry (P.getD j default)] (· = pbool true)∧PCalls Tryz.prog 22 [pschema s,pvecs pv,psum (ofL s pv P),pentry (P.getD j default)] (· = pbool true)∧PCalls Tryz.prog 41 [pint s.metric,pints v,pints (P.getD j default).vec] (· = pint (keyV s.metric v (P.getD j default).vec))∧(zBound s (ofL s pv P) v (keysP s.metric pv v)).1≤keyV s.metric v (P.getD j default).vec∧((P.getD j default).frm≤at_.day→at_.day < (P.getD j default).to→(P.getD j default).born≤at_.commit→PCalls Tryz.prog 27 [psum (ofL s pv P),psnap at_] (· = pbool true)∧PCalls Tryz.prog 27 [psum (ofL s pv l),psnap at_] (· = pbool true)):=fun j hj=>by
   have hmP:P.getD j default∈P:=getD_mem hj
   have hml:=hsub.subset hmP
   have b1:=mP _ hmP
   obtain ⟨w1,w2⟩:=entryE_vec (heP _ hmP)
   have a1:=pw_obeys s pv (ofL s pv l) (P.getD j default) sZ hS (by omega) (by omega) hm (by omega) pp (entry_right hc) (by omega)
   have a2:=pw_obeys s pv (ofL s pv P) (P.getD j default) sX hS (by omega) (by omega) hm (by omega) pp (entry_right hc) (by omega)
   rw [oZ _ hml] at a1
   rw [oX _ hmP] at a2
   refine ⟨a1,a2,pw_vecKey s.metric v _ hm e7 w1 (by omega),(key_bound hm vX (obeyZ_of (oX _ hmP)) w1 e7 (by omega) (fun k hk=>by obtain ⟨q1,q2⟩:=pp k hk;exact ⟨q1,by omega⟩)).2,fun g1 g2 g3=>?_⟩
   have a3:=pw_zSeen (ofL s pv P) at_
   have a4:=pw_zSeen (ofL s pv l) at_
   rw [seen_of (oX _ hmP) at_ g1 g2 g3] at a3
   rw [seen_of (oZ _ hml) at_ g1 g2 g3] at a4
   exact ⟨a3,a4⟩
  have hC:checkP s p=0→∀j,j < P.length→PCalls Tryz.prog 42 [pschema s,psum (ofL s pv P),ppred p,pentry (P.getD j default)] (· = pbool true)∧PCalls Tryz.prog 42 [pschema s,psum (ofL s pv l),ppred p,pentry (P.getD j default)] (· = pbool true):=fun h j hj=>by
   have hmP:P.getD j default∈P:=getD_mem hj
   have b1:=mP _ hmP
   obtain ⟨h1,h2⟩:=check_ok h
   have h3:=check_okN h
   exact ⟨pw_lcan hc hWX vX (oX _ hmP) p h1 h2 h3 (by omega),pw_lcan hc hWZ vZ (oZ _ (hsub.subset hmP)) p h1 h2 h3 (by omega)⟩
  clear z1 x1 vZ sZ cZ dZ nZ oZ vX sX cX dX nX oX okZ hw2 hdw hWX hWZ mP hAP heP he hent
  generalize ofL s pv l=z at *
  generalize ofL s pv P=x at *
  generalize zBound s z v (keysP s.metric pv v)=B at *
  generalize zBound s x v (keysP s.metric pv v)=A at *
  generalize keysP s.metric pv v=ks at *
  generalize hce:checkP s p=ce at *
  generalize hfw:fewPB p 8=fw at *
  obtain ⟨m,ym⟩:=A
  obtain ⟨n,yn⟩:=B
  simp only at n1 n2 n3 k5 k6 k8 k9 hR
  subst n1
  subst n2
  have hlk:Low (pints ks):=(low_pints ks).2 trivial
  have hlx:=low_psumL x
  have hlz:=low_psumL z
  unfold ppred at k12 k13 hC
  rw [prL_eq p] at k12 k13 hC
  clear hce hfw e1 e3 hpS pq pp hpv p1 p2 hkl hd6 hfe hA hL hpl
  cases fw with
  |false=>
   clear hC k13
   refine wk ?_
   refine PW.loop (fun j:Nat=>(bot.setb 0 (schCellsP s) |>.setb 1 [pint p.op,pstr p.name,pint p.n,pint p.m,pstr p.s,ppreds p.subs] |>.setb 2 [pint at_.day,pint at_.commit] |>.setb 13007 (psumL z) |>.setb 14007 (psumL x) |>.put 1 (pvecs pv) |>.put 4 (pints v) |>.put 7 (.ptr 0 0) |>.put 12 (.ptr 1 0) |>.put 13 (.ptr 2 0) |>.put 15 (.sl P.length 9 (P.flatMap entCellsP) (some 50)) |>.put 17 (.ptr 13007 0) |>.put 19 (.ptr 14007 0) |>.put 24 (pint m) |>.put 26 (pbool false) |>.put 27 (pint j))) (fun j=>j≤P.length) (fun j=>P.length - j) 0 (by omega) ?_ ?_
   ·exact sb
   intro j hj
   by_cases hlt:j < P.length
   ·obtain ⟨c1,c2,c3,c4,c5⟩:=hR j hlt
    have hly:=low_entCells (P.getD j default)
    by_cases g1:(P.getD j default).frm≤at_.day
    ·by_cases g2:at_.day < (P.getD j default).to
     ·by_cases g3:(P.getD j default).born≤at_.commit
      ·obtain ⟨s1,s2⟩:=c5 g1 g2 g3
       clear c5
       refine wk ?_
       refine loopP (j+1) (by omega) (by omega) ?_
       exact sb
      ·clear c5
       refine wk ?_
       refine loopP (j+1) (by omega) (by omega) ?_
       exact sb
     ·clear c5
      refine wk ?_
      refine loopP (j+1) (by omega) (by omega) ?_
      exact sb
    ·clear c5
     refine wk ?_
     refine loopP (j+1) (by omega) (by omega) ?_
     exact sb
   ·clear hR
    refine wk ?_
    exact retP (r:=pbool true) rfl (by exact lw) rfl
  |true=>
   by_cases q4:ce=0
   ·have hC2:=hC q4
    clear hC
    refine wk ?_
    refine PW.loop (fun j:Nat=>(bot.setb 0 (schCellsP s) |>.setb 1 [pint p.op,pstr p.name,pint p.n,pint p.m,pstr p.s,ppreds p.subs] |>.setb 2 [pint at_.day,pint at_.commit] |>.setb 13007 (psumL z) |>.setb 14007 (psumL x) |>.put 1 (pvecs pv) |>.put 4 (pints v) |>.put 7 (.ptr 0 0) |>.put 12 (.ptr 1 0) |>.put 13 (.ptr 2 0) |>.put 15 (.sl P.length 9 (P.flatMap entCellsP) (some 50)) |>.put 17 (.ptr 13007 0) |>.put 19 (.ptr 14007 0) |>.put 24 (pint m) |>.put 26 (pbool true) |>.put 27 (pint j))) (fun j=>j≤P.length) (fun j=>P.length - j) 0 (by omega) ?_ ?_
    ·exact sb
    intro j hj
    by_cases hlt:j < P.length
    ·obtain ⟨c1,c2,c3,c4,c5⟩:=hR j hlt
     have hly:=low_entCells (P.getD j default)
     obtain ⟨c6,c7⟩:=hC2 j hlt
     by_cases g1:(P.getD j default).frm≤at_.day
     ·by_cases g2:at_.day < (P.getD j default).to
      ·by_cases g3:(P.getD j default).born≤at_.commit
       ·obtain ⟨s1,s2⟩:=c5 g1 g2 g3
        clear c5
        refine wk ?_
        refine loopP (j+1) (by omega) (by omega) ?_
        exact sb
       ·clear c5
        refine wk ?_
        refine loopP (j+1) (by omega) (by omega) ?_
        exact sb
      ·clear c5
       refine wk ?_
       refine loopP (j+1) (by omega) (by omega) ?_
       exact sb
     ·clear c5
      refine wk ?_
      refine loopP (j+1) (by omega) (by omega) ?_
      exact sb
    ·clear hR hC2
     refine wk ?_
     exact retP (r:=pbool true) rfl (by exact lw) rfl
   ·clear hC
    refine wk ?_
    refine PW.loop (fun j:Nat=>(bot.setb 0 (schCellsP s) |>.setb 1 [pint p.op,pstr p.name,pint p.n,pint p.m,pstr p.s,ppreds p.subs] |>.setb 2 [pint at_.day,pint at_.commit] |>.setb 13007 (psumL z) |>.setb 14007 (psumL x) |>.put 1 (pvecs pv) |>.put 4 (pints v) |>.put 7 (.ptr 0 0) |>.put 12 (.ptr 1 0) |>.put 13 (.ptr 2 0) |>.put 15 (.sl P.length 9 (P.flatMap entCellsP) (some 50)) |>.put 17 (.ptr 13007 0) |>.put 19 (.ptr 14007 0) |>.put 24 (pint m) |>.put 26 (pbool false) |>.put 27 (pint j))) (fun j=>j≤P.length) (fun j=>P.length - j) 0 (by omega) ?_ ?_
    ·exact sb
    intro j hj
    by_cases hlt:j < P.length
    ·obtain ⟨c1,c2,c3,c4,c5⟩:=hR j hlt
     have hly:=low_entCells (P.getD j default)
     by_cases g1:(P.getD j default).frm≤at_.day
     ·by_cases g2:at_.day < (P.getD j default).to
      ·by_cases g3:(P.getD j default).born≤at_.commit
       ·obtain ⟨s1,s2⟩:=c5 g1 g2 g3
        clear c5
        refine wk ?_
        refine loopP (j+1) (by omega) (by omega) ?_
        exact sb
       ·clear c5
        refine wk ?_
        refine loopP (j+1) (by omega) (by omega) ?_
        exact sb
      ·clear c5
       refine wk ?_
       refine loopP (j+1) (by omega) (by omega) ?_
       exact sb
     ·clear c5
      refine wk ?_
      refine loopP (j+1) (by omega) (by omega) ?_
      exact sb
    ·clear hR
     refine wk ?_
     exact retP (r:=pbool true) rfl (by exact lw) rfl
end
end Go.Proofs.YtoamkpgaaanafaaGreat
