/- Out of: Us2. -/
import Derived.Test.YtmeekbjhpidcgaaGreatDoorH3
namespace Go.Proofs.YtmeekbjhpidcgaaGreatDoor
set_option linter.unusedSimpArgs false
set_option linter.unusedVariables false
set_option linter.unnecessarySimpa false
section
open Go.RowKit
def pw16 (z:Int):PV:=.val (.int .u16 z)
def pw16s (l:List Int):PV:=.sl l.length 1 (l.map pw16) none
structure PFlt where
 sec:Int
 bit:Int
 rot:Bool
deriving Inhabited
def pfltL (f:PFlt):List PV := [pw16 f.sec,pw16 f.bit,pbool f.rot]
def pflts (l:List PFlt):PV:=.sl l.length 3 (l.flatMap pfltL) none
theorem low_pw16s (l:List Int):Low (pw16s l)↔True:=⟨fun _=>trivial,fun _=>.sl _ _ _ _ (low_map (fun _=>Low.val _) _)⟩
theorem low_pflts (l:List PFlt):Low (pflts l)↔True:=⟨fun _=>trivial,fun _=>.sl _ _ _ _ fun c hc=>by
 obtain ⟨f,-,h⟩:=List.mem_flatMap.1 hc
 simp only [pfltL,List.mem_cons,List.not_mem_nil,or_false] at h
 rcases h with rfl|rfl|rfl<;>exact .val _⟩
theorem getD_flt {l:List PFlt} {k:Nat} (h:k < l.length):l[k]? = some (l.getD k default):=by
 rw [List.getD_eq_getElem?_getD,List.getElem?_eq_getElem h];rfl
set_option maxRecDepth 10000 in
set_option maxHeartbeats 4000000 in
theorem pw_lBears (l:List Int) (cp:Int) (fs:List PFlt) (hl:∀z∈l,0≤z∧z < 65536) (hll:l.length≤1000000000000000) (hcp:0≤cp∧cp < 256) (hfs:∀f∈fs,(0≤f.sec∧f.sec < 65536)∧0≤f.bit∧f.bit < 65536) (hfl:fs.length≤1000000000000000) :
  PCalls Tryz.prog 5 [pw16s l,pbyte cp,pflts fs] (· = pbool true):=by
 have hsan:=pw_sanity32
 have l1:=(low_pw16s l).2 trivial
 have l2:=(low_pflts fs).2 trivial
 refine pcalls_of_pw typeTab_ok Tryz.func5 rfl (by kernel_rfl) (by intro p hp;simp only [List.mem_cons,List.not_mem_nil,or_false] at hp;rcases hp with rfl|rfl|rfl;exact l1;exact .val _;exact l2) (by simp [pw16s,pflts,pbyte,PV.ownB]) (Nat.le_of_ble_eq_true rfl) ?_
 have e1:((12:Int) < (l.length:Int))↔12 < l.length:=by omega
 by_cases g1:12 < l.length∨20 < fs.length
 ·by_cases g2:12 < l.length
  ·refine wk ?_
   exact retP rfl (.val _) rfl
  ·refine wk ?_
   exact retP rfl (.val _) rfl
 have kN:=dc_New 1100 (by omega) 900001 900002 900003 (by decide)
 have kO:=tc_Open (newD 1100) 64 (by decide) rfl (by decide) rfl 900004 900001 900002 900003 (by decide)
 rw [show bestM (readT (newD 1100) 64)=zeroM from best_zero (fun k hk=>newD_readsA (by omega))] at kO
 refine wk ?_
 clear kN kO
 refine PW.weakB (id:=7003) (rC 900001 900004 zeroM) rfl (.cons (.refl _) (.cons (.refl _) (.cons (.refl _) (.cons (.nil 1) (.cons (.nil 18) (.cons (.refl _) (.cons (.refl _) (.cons (.refl _) .nil)))))))) ?_
 refine PW.loop (fun x:Nat×PMan×DM=>(((((((((((bot.setb 7003 (rC 900001 900004 x.2.1)).setb 900004 (tC 900001 64 x.2.1)).setb 900001 (dB 900002 900003 x.2.2)).setb 900002 (dC x.2.2)).setm 900003 (dM x.2.2)).put 0 (pw16s l)).put 1 (pbyte cp)).put 2 (pflts fs)).put 7 (.ptr 900001 0)).put 10 (.ptr 7003 0)).put 11 (pint x.1))) (fun x=>x.1≤l.length∧RunI x.1 x.2.1 x.2.2) (fun x=>l.length - x.1) (0,zeroM,newD 1100) ⟨by simp,run_zero⟩ ?_ ?_
 ·have z1:Low (pints zeroM.notes):=(low_pints _).2 trivial
  have z2:Low (prefs zeroM.refs):=(low_prefs _).2 trivial
  have z3:=dC_low (newD 1100)
  have z4:=dM_low (newD 1100)
  try dsimp only
  exact sb
 ·rintro ⟨k,now,D⟩ ⟨hk,hR⟩
  simp only at hk hR
  have hRv:=hR.ver
  by_cases hlt:k < l.length
  ·have hz:=hl (l.getD k default) (by rw [List.getD_eq_getElem?_getD,List.getElem?_eq_getElem hlt];exact List.getElem_mem hlt)
   have kT:=uc_turns hR.ok 64 now (l.getD k default).toNat (by omega) (by omega) (by omega) (by omega) (by omega) 7003 900004 900001 900002 900003 (by decide)
   have hR2:=run_step hR (by omega) (n:=(l.getD k default).toNat) (by omega)
   have hzz:(((l.getD k default).toNat:Nat):Int)=l.getD k default:=by omega
   rw [hzz] at kT
   have hR2u:=fun _:Unit=>hR2
   clear hR2 hzz
   generalize D.turn 64 (madeM (now.ver+1) (l.getD k default).toNat)=D' at *
   generalize madeM (now.ver+1) (l.getD k default).toNat=M' at *
   have z1:Low (pints now.notes):=(low_pints _).2 trivial
   have z2:Low (prefs now.refs):=(low_prefs _).2 trivial
   have z3:=dC_low D
   have z4:=dM_low D
   try dsimp only
   refine wk ?_
   refine loopP (k+1,M',D') ⟨by simp only;omega,hR2u ()⟩ (by simp only;omega) ?_
   have z5:Low (pints M'.notes):=(low_pints _).2 trivial
   have z6:Low (prefs M'.refs):=(low_prefs _).2 trivial
   have z7:=dC_low D'
   have z8:=dM_low D'
   try dsimp only
   exact sb
  ·have hkl:k=l.length:=by omega
   clear hl
   obtain ⟨j,hjk⟩:∃j,j=k:=⟨k,rfl⟩
   subst hjk
   have z1:Low (pints now.notes):=(low_pints _).2 trivial
   have z2:Low (prefs now.refs):=(low_prefs _).2 trivial
   have z3:=dC_low D
   have z4:=dM_low D
   try dsimp only
   obtain ⟨o,ho⟩:∃o:Nat,(o:Int)=2 * (now.ver % 2)+1 - cp % 2:=⟨(2 * (now.ver % 2)+1 - cp % 2).toNat,by omega⟩
   have ho3:o≤3:=by omega
   have hof:(o:Int)=firstI j∨(o:Int)=firstI j+1:=by unfold firstI;omega
   refine wk ?_
   refine PW.loop (fun x:Nat×DM×Bool=>(((((((((((bot.setb 7003 (rC 900001 900004 now)).setb 900004 (tC 900001 64 now)).setb 900001 (dB 900002 900003 x.2.1)).setb 900002 (dC x.2.1)).setm 900003 (dM x.2.1)).put 2 (pflts fs)).put 7 (.ptr 900001 0)).put 10 (.ptr 7003 0)).put 13 (pint (2 * (now.ver % 2)+cp % 2))).put 14 (pbool x.2.2)).put 15 (pint x.1))) (fun x=>x.1≤fs.length∧FltI j D o x.2.2 x.2.1) (fun x=>fs.length - x.1) (0,D,false) ⟨by simp,flt_zero hR o⟩ ?_ ?_
   ·try dsimp only
    exact sb
   ·rintro ⟨k,E,fl⟩ ⟨hk,hF⟩
    simp only at hk hF
    have y3:=dC_low E
    have y4:=dM_low E
    by_cases hlt:k < fs.length
    ·have hr:=getD_flt hlt
     have hfb:=hfs _ (List.mem_of_getElem? hr)
     have hFu:=fun _:Unit=>hF
     have hEl:E.cells.length≤1000000000:=by rw [hF.ok.len];omega
     clear hF hr
     try dsimp only
     by_cases hge:4 * (now.ver % 2)+1 - (2 * (now.ver % 2)+cp % 2)≤(fs.getD k default).sec % 768 / 256
     ·have kR:=dc_Rot E (64+(fs.getD k default).sec % 768+256) 900001 900002 900003 (by decide)
      have kF:=dc_Flip E (64+(fs.getD k default).sec % 768+256) ((fs.getD k default).bit % 512) hEl 900001 900002 900003 (by decide)
      have h1:=fun _:Unit=>flt_rot (hFu ()) ho3 (q:=64+(fs.getD k default).sec % 768+256) (by omega) (by omega) (by right;omega)
      have h2:=fun _:Unit=>flt_flip (hFu ()) (64+(fs.getD k default).sec % 768+256) ((fs.getD k default).bit % 512)
      refine wk ?_
      cases hb:(fs.getD k default).rot
      ·refine wk ?_
       refine loopP (k+1,(E.flip (64+(fs.getD k default).sec % 768+256) ((fs.getD k default).bit % 512)).2,true) ⟨by simp only;omega,h2 ()⟩ (by simp only;omega) ?_
       generalize (E.flip (64+(fs.getD k default).sec % 768+256) ((fs.getD k default).bit % 512))=E' at *
       have y5:=dC_low E'.2
       have y6:=dM_low E'.2
       try dsimp only
       exact sb
      ·refine wk ?_
       refine loopP (k+1,E.rot (64+(fs.getD k default).sec % 768+256),fl) ⟨by simp only;omega,h1 ()⟩ (by simp only;omega) ?_
       generalize E.rot (64+(fs.getD k default).sec % 768+256)=E' at *
       have y5:=dC_low E'
       have y6:=dM_low E'
       try dsimp only
       exact sb
     ·have kR:=dc_Rot E (64+(fs.getD k default).sec % 768) 900001 900002 900003 (by decide)
      have kF:=dc_Flip E (64+(fs.getD k default).sec % 768) ((fs.getD k default).bit % 512) hEl 900001 900002 900003 (by decide)
      have h1:=fun _:Unit=>flt_rot (hFu ()) ho3 (q:=64+(fs.getD k default).sec % 768) (by omega) (by omega) (by left;omega)
      have h2:=fun _:Unit=>flt_flip (hFu ()) (64+(fs.getD k default).sec % 768) ((fs.getD k default).bit % 512)
      refine wk ?_
      cases hb:(fs.getD k default).rot
      ·refine wk ?_
       refine loopP (k+1,(E.flip (64+(fs.getD k default).sec % 768) ((fs.getD k default).bit % 512)).2,true) ⟨by simp only;omega,h2 ()⟩ (by simp only;omega) ?_
       generalize (E.flip (64+(fs.getD k default).sec % 768) ((fs.getD k default).bit % 512))=E' at *
       have y5:=dC_low E'.2
       have y6:=dM_low E'.2
       try dsimp only
       exact sb
      ·refine wk ?_
       refine loopP (k+1,E.rot (64+(fs.getD k default).sec % 768),fl) ⟨by simp only;omega,h1 ()⟩ (by simp only;omega) ?_
       generalize E.rot (64+(fs.getD k default).sec % 768)=E' at *
       have y5:=dC_low E'
       have y6:=dM_low E'
       try dsimp only
       exact sb
    ·have hkf:k=fs.length:=by omega
     obtain ⟨b1,b2,b3⟩:=bestT_ok E.crash0 64
     obtain ⟨n1,n2,n3⟩:now.notes.length≤16∧now.refs.length≤600∧DigsOK now:=by
      rcases hR.good with h|⟨n,hn,hj,h⟩
      ·rw [h];exact ⟨by decide,by decide,fun r hr=>by cases hr⟩
      ·rw [h]
       obtain ⟨c1,c2,-⟩:=made_all (v:=(j:Int)) (n:=n) (by omega) (by omega) hn
       obtain ⟨l1,l2⟩:=checkM_len (by decide) (by decide) c1
       exact ⟨l1,l2,c2⟩
     have hbest:fl=false→bestM (readT E.crash0 64)=now:=fun h=>by subst h;exact flt_best hR hF ho3 (fun _=>hof)
     have kCr:=dc_Crash0 E [] (by rw [hF.ok.len];decide) hF.op 900001 900002 900003 900011 900012 900013 (by decide)
     have kCr' : HCalls Tryz.prog 26 [.ptr 900001 0, .nilsl] (dG 900001 900002 900003 E) (dMs 900003 E) (.ptr 900011 0) (crG 900001 900002 900003 900011 900012 900013 E E.crash0) (crM 900003 900013 E E.crash0):=hcalls_weakA kCr (.cons (.refl _) (.cons (.nil 1) .nil))
     clear kCr
     have o3:=crash0_ok hF.ok
     have kO3:=tc_Open E.crash0 64 (by rw [o3.len];decide) rfl (by rw [o3.len];decide) o3.dead 900014 900011 900012 900013 (by decide)
     have y5:=dC_low E.crash0
     have y6:=dM_low E.crash0
     try dsimp only
     by_cases hQ:bestM (readT E.crash0 64)=now
     ·rw [hQ] at kO3
      have kN:=tc_Now (t:=900014) (d:=900011) (c:=900012) (m':=900013) (by decide) E.crash0 64 now ⟨by omega,by omega⟩
      have kS:=pw_same now now (by omega) (by omega) (fun r hr=>(n3 r hr).1) (fun r hr=>(n3 r hr).1)
      rw [decide_eq_true rfl] at kS
      clear hbest hQ b1 b2 b3 n3
      have kO3u:=fun _:Unit=>kO3
      clear kO3
      by_cases hj0:j=0
      ·have hv0:now.ver=0:=by omega
       clear hR hF
       refine wk ?_
       have kO3:=kO3u ()
       refine wg ?_
       refine PW.region typeTab_ok (by kernel_rfl) ?_
       refine wg ?_
       refine PW.drawF (fun i id=>Nat.beq i 1 && Nat.beq id 7003) typeTab_ok (by kernel_rfl) (by kernel_rfl) (by kernel_rfl) ?_
       refine wk ?_
       exact retP rfl (.val _) rfl
      ·have hv1:0 < now.ver:=by omega
       obtain ⟨n,a,b,hst⟩:∃n a b,spP (copiesM (readT E.crash0 64)) now.ver (firstI now.ver) (copiesM (readT E.crash0 64)).length=(n,a,b):=⟨_,_,_,rfl⟩
       obtain ⟨s1,s2,s3,s4⟩:=flt_spoilt hR (by omega) hF ho3 hof hst
       obtain ⟨F,hFm,oF,pF,a',b',hst'⟩:=flt_mended hR (by omega) (by omega) hF ho3 hof hst
       obtain ⟨em,sm⟩:EncM now∧(slotM hfT now).length≤16384:=by
        rcases hR.good with h|⟨n,hn,hj,h⟩
        ·rw [h] at hv1;exact absurd hv1 (by decide)
        ·rw [h]
         obtain ⟨-,-,c3,-,c5,-⟩:=made_all (v:=(j:Int)) (n:=n) (by omega) (by omega) hn
         exact ⟨c3,c5⟩
       have kC3:=tc_Copies (t:=900014) (d:=900011) (c:=900012) (m':=900013) (by decide) E.crash0 64 now (by rw [o3.len];decide) rfl (by omega) o3.dead hv1 (by omega) n a b hst
       have kM:=tc_Mend (t:=900014) (d:=900011) (c:=900012) (m':=900013) (by decide) o3 64 now rfl (by omega) (by omega) (by omega) hv1 (by omega) em sm n a b hst _ rfl s3
       rw [s2,←hFm] at kM
       have kC4:=tc_Copies (t:=900014) (d:=900011) (c:=900012) (m':=900013) (by decide) F 64 now (by rw [oF.len];decide) pF (by omega) oF.dead hv1 (by omega) 0 a' b' hst'
       have kN4:=tc_Now (t:=900014) (d:=900011) (c:=900012) (m':=900013) (by decide) F 64 now ⟨by omega,by omega⟩
       have kMu:=fun _:Unit=>kM
       have kC4u:=fun _:Unit=>kC4
       have kN4u:=fun _:Unit=>kN4
       clear kM kC4 kN4 hst hst' em sm hFm oF pF s2 s3 hR hF
       generalize E.crash0=E' at *
       have hfn:n≤1∨fl=true:=by cases fl with
        |true=>exact .inr rfl
        |false=>exact .inl (s4 rfl)
       clear s4
       refine wk ?_
       have kO3:=kO3u ()
       refine wg ?_
       refine PW.region typeTab_ok (by kernel_rfl) ?_
       refine wg ?_
       refine PW.drawF (fun i id=>Nat.beq i 1 && Nat.beq id 7003) typeTab_ok (by kernel_rfl) (by kernel_rfl) (by kernel_rfl) ?_
       refine wk ?_
       have kM:=kMu ()
       have kC4:=kC4u ()
       have kN4:=kN4u ()
       clear kC3 kN
       refine wg ?_
       refine PW.drawF (fun i id=>(Nat.beq i 19 || Nat.beq i 24) && Nat.beq id 7003) typeTab_ok (by kernel_rfl) (by kernel_rfl) (by kernel_rfl) ?_
       by_cases hn1:n≤1
       ·refine wk ?_
        exact retP rfl (.val _) rfl
       ·have hfl1:fl=true:=hfn.resolve_left hn1
        subst hfl1
        refine wk ?_
        exact retP rfl (.val _) rfl
     ·have hfl1:fl=true:=by
       cases fl with
       |true=>rfl
       |false=>exact absurd (hbest rfl) hQ
      subst hfl1
      have kN:=tc_Now (t:=900014) (d:=900011) (c:=900012) (m':=900013) (by decide) E.crash0 64 (bestM (readT E.crash0 64)) ⟨by omega,by omega⟩
      have kS:=pw_same (bestM (readT E.crash0 64)) now (by omega) (by omega) (fun r hr=>(b3 r hr).1) (fun r hr=>(n3 r hr).1)
      rw [decide_eq_false hQ] at kS
      clear hbest hQ b3 n3 hR hF
      generalize bestM (readT E.crash0 64)=Q at *
      have kO3u:=fun _:Unit=>kO3
      clear kO3
      refine wk ?_
      have kO3:=kO3u ()
      refine wg ?_
      refine PW.region typeTab_ok (by kernel_rfl) ?_
      refine wg ?_
      refine PW.drawF (fun i id=>Nat.beq i 1 && Nat.beq id 7003) typeTab_ok (by kernel_rfl) (by kernel_rfl) (by kernel_rfl) ?_
      refine wk ?_
      exact retP rfl (.val _) rfl
end
end Go.Proofs.YtmeekbjhpidcgaaGreatDoor
