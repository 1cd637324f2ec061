/- Out of: Or. -/
import Derived.Test.YtmciloafahkolaaGreatDoorG26
import Derived.Test.YtmciloafahkolaaGreatDoorG30
namespace Go.Proofs.YtmciloafahkolaaGreatDoor
set_option maxRecDepth 100000
set_option maxHeartbeats 40000000
set_option linter.unusedSimpArgs false
set_option linter.unusedVariables false
set_option linter.unnecessarySimpa false
section
open Go.RowKit
structure SrvL (i:Nat) (D:DM) (M:List Sec) (a:Nat) (Q:List Body) (s:PSnd):Prop where
 g:GoD 271 (5000 * i+10) D
 j:JInv 271 (5000 * i+10) ((0:Nat):Int) 12 D.base M
 m:SndM 271 0 M a Q
 t:SndT s a Q
 few:s.l.length≤i
structure SrvD (D:DM) (M:List Sec) (p:List PPut) (a:Nat) (Q:List Body) (a' : Nat) (Q' : List Body) (s s' : PSnd):Prop where
 g:GoD 271 1000000 D
 aft:∀keep,Aft 271 ((0:Nat):Int) 12 M p (D.crash keep)
 ind:InD 271 p
 len:p.length≤12
 m:SndM 271 0 M a Q
 m' : SndM 271 0 (doM M p) a' Q'
 t:SndT s a Q
 t' : SndT s' a' Q'
 few:s.l.length≤91∧s'.l.length≤91
 eq:s.l.length=s'.l.length→s.a=s'.a→s=s'
theorem Y89 (s:PSnd) (n:Int) (b:ByteArray):s.l.length=(s.put n b).1.l.length→s=(s.put n b).1:=by
 unfold PSnd.put
 split
 ·exact fun _=>rfl
 split
 ·exact fun _=>rfl
 split
 ·exact fun _=>rfl
 ·simp
theorem Y6g (s:PSnd) (n:Int):s.a=(s.ack n).1.a→s=(s.ack n).1:=by
 unfold PSnd.ack
 split
 ·exact fun _=>rfl
 ·intro h
  obtain ⟨l,a⟩:=s
  show (⟨l,a⟩:PSnd)=⟨l,_⟩
  congr
theorem Ya2 (s:PSnd) (n:Int) (b:ByteArray):((s.put n b).2 == 220)=false:=by
 unfold PSnd.put
 repeat' split
 all_goals rfl
theorem Ybk (s:PSnd) (n:Int):((s.ack n).2 == 220)=false:=by
 unfold PSnd.ack
 split<;>rfl
theorem SrvL.done {i:Nat} {D:DM} {M:List Sec} {a:Nat} {Q:List Body} {s:PSnd} (h:SrvL i D M a Q s) (hi:i≤90):SrvD D M [] a Q a Q s s:=
 ⟨h.g.mono O_,fun keep=>.inl (by have:=h.j.crash (X38 (at_:=0) O_) keep;rwa [X5s] at this),Y27,S_,h.m,h.m,h.t,h.t,⟨by have:=h.few;omega,by have:=h.few;omega⟩,fun _ _=>rfl⟩
theorem SrvL.out {i:Nat} {D:DM} {M:List Sec} {a:Nat} {Q:List Body} {s:PSnd} (h:SrvL i D M a Q s) (hi:i≤90) {M' : List Sec} {p:List PPut} {r:Int×DM} {e:Int} {a' : Nat} {Q' : List Body} {s' : PSnd} (hd:Did2 271 (5000 * i+10) (5000 * i+10+5000) 0 D M M' p r e) (hm:SndM 271 0 M' a' Q') (ht:SndT s' a' Q') (hl:s'.l.length≤i+1) (heq:s.l.length=s'.l.length→s.a=s'.a→s=s') :
  (r.1=e∧SrvL (i+1) r.2 M' a' Q' s')∨(r.1=220∧e=0∧SrvD r.2 M p a Q a' Q' s s'):=by
 rcases hd.res with ⟨r1,r2⟩|⟨r1,r2,r3,r4,r5,r6⟩
 ·exact .inl ⟨r1,hd.go.mono O_,r2.mono O_,hm,ht,hl⟩
 ·subst r6
  exact .inr ⟨r1,r2,hd.go.mono O_,r3,r4,r5,h.m,hm,h.t,ht,⟨by have:=h.few;omega,O_⟩,heq⟩
theorem Xho (l:List POp) (steps:Int) (keep:List Int) (hl:l.length≤1000000000000000) (hb:∀o∈l,o.body.size≤1000000000000000) (hn:∀o∈l,(-9223372036854775808≤o.n∧o.n≤9223372036854775807)∧0≤o.do_∧o.do_ < 256) (hst:0≤steps∧steps < 65536) (hkl:keep.length≤1000000000000000) (hki:∀x∈keep,-9223372036854775808≤x∧x≤9223372036854775807) (hsan:Xs Tryz.prog 9 [] (· = Y1 true)) :
  Xs Tryz.prog 5 [pops l, .val (.int .u16 steps),Kd keep] (· = Y1 true):=by
 have hfew:=Xga l hl hb
 have hlo:Low (pops l):=(X7m _).2 trivial
 have hlk:Low (Kd keep):=by exact lw
 have hpl:=Xaz l
 have hrr:=Xdf
 have z0:((0:Nat):Int)=0:=rfl
 refine Xd X6 Tryz.func5 rfl K_ (by intro p hp;simp only [List.mem_cons,List.not_mem_nil,or_false] at hp;rcases hp with rfl|rfl|rfl;exact hlo;exact .val _;exact hlk) (by simp [pops,Kd,PV.ownB]) N_ ?_
 by_cases g1:fewO l=true
 case neg=>
  rw [show fewO l=false by simpa using g1] at hfew
  clear hb hn hki
  refine wk ?_
  exact retP rfl (.val _) rfl
 rw [g1] at hfew
 obtain ⟨g2,g3⟩:=Xbr g1
 clear hb hl g1
 by_cases g4:20 < keep.length
 ·clear hn hki g3
  refine wk ?_
  exact retP rfl (.val _) rfl
 have kN:=Xik 271 O_ 900001 900002 900003 D_
 rw [show (271:Int).toNat=271 from rfl] at kN
 have c1:=Xm (newD 271)
 have c2:=Xi (newD 271)
 obtain ⟨h0,hnw⟩:=Hlt.new 271 O_
 obtain ⟨hS0,-⟩:=hnw 0 O_
 have hj0:=JInv.new 271 ((0:Nat):Int) 12 (X38 (at_:=0) O_)
 have kO:=X2p h0.ok.go 0 O_ O_ O_ (h0.recP hS0.head O_) rfl (h0.small O_).1 (h0.small O_).2 0 [] D_ hS0.num' hS0.notes 900004 900001 900002 900003 900005 D_
 dsimp only at kO
 rw [z0] at kO
 have kA:=Y8d (newD 271) (steps % 2000) 900001 900002 900003 D_
 rw [show ({ newD 271 with after:=maxI (steps % 2000) (-1) } : DM)=(newD 271).arm (steps % 2000) from rfl] at kA
 have c3:=Xm ((newD 271).arm (steps % 2000))
 have c4:=Xi ((newD 271).arm (steps % 2000))
 have hI0:SrvL 0 ((newD 271).arm (steps % 2000)) (List.replicate 271 Ye) 0 [] ⟨[],0⟩:=⟨(hj0.ok.mono O_).arm O_,(hj0.mono O_).base,SndM.new O_,SndT.new,Nat.le_refl _⟩
 clear hnw h0 hS0 hj0
 generalize (newD 271).arm (steps % 2000)=D1 at *
 generalize newD 271=D0 at *
 generalize List.replicate 271 Ye=M0 at *
 have hn':=fun _:Unit=>hn
 have hki':=fun _:Unit=>hki
 clear hn hki
 refine wk ?_
 refine PW.weakB (id:=10000) [Xr [],pint 0] rfl (.cons (.nil 1) (.cons (.refl _) .nil)) ?_
 refine PW.weakB (id:=11001) [Xr [],pint 0] rfl (.cons (.nil 1) (.cons (.refl _) .nil)) ?_
 refine PW.cutB (fun x:DM×PSnd×PSnd=>(bot.setb 10000 (Xi6 x.2.1) |>.setb 11001 (Xi6 x.2.2) |>.setb 900001 (dB 900002 900003 x.1) |>.setb 900002 (dC x.1) |>.setm 900003 (dM x.1) |>.put 2 (Kd keep) |>.put 6 (Y1 false) |>.put 7 (.ptr 900001 0) |>.put 10 (.ptr 10000 0) |>.put 11 (.ptr 11001 0))) (fun x=>∃M p a Q a' Q',SrvD x.1 M p a Q a' Q' x.2.1 x.2.2) ?_ ?_
 ·refine PW.loop (fun x:Nat×DM×List Sec×Nat×List Body×PSnd=>(bot.setb 10000 (Xi6 x.2.2.2.2.2) |>.setb 11001 (Xi6 x.2.2.2.2.2) |>.setb 900004 (sC 900001 900005 0 (outQ x.2.2.2.1 x.2.2.2.2.1)) |>.setb 900005 (jB 900001 0 12) |>.setb 900001 (dB 900002 900003 x.2.1) |>.setb 900002 (dC x.2.1) |>.setm 900003 (dM x.2.1) |>.put 0 (pops l) |>.put 2 (Kd keep) |>.put 6 (Y1 false) |>.put 7 (.ptr 900001 0) |>.put 8 (.ptr 900004 0) |>.put 10 (.ptr 10000 0) |>.put 11 (.ptr 11001 0) |>.put 12 (pint x.1))) (fun x=>x.1≤l.length∧SrvL x.1 x.2.1 x.2.2.1 x.2.2.2.1 x.2.2.2.2.1 x.2.2.2.2.2) (fun x=>l.length - x.1) (0,D1,M0,0,[],⟨[],0⟩) ⟨S_,hI0⟩ ?_ ?_
  ·have hz1:Low (Xr []):=(Xb _).2 trivial
   have hz2:=Yv ⟨[],0⟩
   exact sb
  clear kO hI0 c1 c2 c3 c4 hfew kN kA
  rintro ⟨i,D,M,a,Q,s⟩ ⟨hi,hI⟩
  simp only at hi hI ⊢
  have c1:=Xm D
  have c2:=Xi D
  have hl1:=Yv s
  have hq1:Low (Xr (outQ a Q).queue):=(Xb _).2 trivial
  by_cases hlt:i < l.length
  ·have hmem:l.getD i default∈l:=by rw [G_,E_ hlt];exact List.getElem_mem hlt
   obtain ⟨⟨n1,n2⟩,n3,n4⟩:=hn' () _ hmem
   have n5:=g3 _ hmem
   clear hmem
   obtain ⟨w,hw⟩:∃w:Nat,(l.getD i default).do_=w:=⟨(l.getD i default).do_.toNat,O_⟩
   have hS:=hI.t.S (by have:=hI.few;omega)
   have haq:a≤90:=by have:=hI.t.el;have:=hI.few;omega
   by_cases hd:((w % 3:Nat):Int)=1
   ·have kR:=Xis s hS (l.getD i default).n
    have kP:=Xvd hI.g 0 O_ O_ O_ O_ (outQ a Q) (K6 O_ hI.m.few) rfl (l.getD i default).n 900004 900001 900002 900003 900005 D_
    obtain ⟨M',a',Q',pp,hd2,hm2,ht2,ho3⟩:=Y6x hI.j hI.g hI.m hI.t O_ (l.getD i default).n
    have hO:=hI.out O_ hd2 hm2 ht2 (by have:=Xr6 s (l.getD i default).n;have:=hI.few;omega) (fun _ h=>Y6g s (l.getD i default).n h)
    have he:=Ybk s (l.getD i default).n
    have c3:=Xm (D.sack (271:Nat) (0:Nat) (outQ a Q) (l.getD i default).n).2
    have c4:=Xi (D.sack (271:Nat) (0:Nat) (outQ a Q) (l.getD i default).n).2
    have hl2:=Yv (s.ack (l.getD i default).n).1
    have hq2:Low (Xr (outQ a' Q').queue):=(Xb _).2 trivial
    rw [z0] at kP
    unfold X92 at kR
    rcases hO with ⟨r1,hI'⟩|⟨r1,-,hD⟩
    ·rw [r1] at kP
     rw [ho3] at kP
     clear hd2 hm2 ht2 r1 hI hS ho3
     generalize (D.sack (271:Nat) (0:Nat) (outQ a Q) (l.getD i default).n).2=D' at *
     generalize s.ack (l.getD i default).n=R at *
     obtain ⟨s',e⟩:=R
     dsimp only at kR kP hI' he hl2
     have hu:=fun _:Unit=>hI'
     clear hI'
     refine wk ?_
     refine X5.remU (a:=w) (b:=3) rfl rfl rfl rfl rfl rfl hw rfl D_ ?_
     rw [hd]
     refine wk ?_
     refine Y4 (i+1,D',M',a',Q',s') ⟨by show i+1≤_;omega,hu ()⟩ (by show l.length - (i+1) < l.length - i;omega) ?_
     exact sb
    ·rw [r1] at kP
     generalize hX:Xah (outQ a Q) (l.getD i default).n 220=X at *
     have hX2:X=outQ a Q:=by rw [←hX];exact Xz4 _ _ D_
     subst hX2
     have hu:=fun _:Unit=>hD
     clear hd2 hm2 ht2 r1 hI hS ho3 hX he hD
     generalize (D.sack (271:Nat) (0:Nat) (outQ a Q) (l.getD i default).n).2=D' at *
     generalize s.ack (l.getD i default).n=R at *
     obtain ⟨s',e⟩:=R
     dsimp only at kR hl2
     refine wk ?_
     refine X5.remU (a:=w) (b:=3) rfl rfl rfl rfl rfl rfl hw rfl D_ ?_
     rw [hd]
     refine wk ?_
     refine midP (D',s,s') ⟨_,_,_,_,_,_,hu ()⟩ ?_
     exact sb
   ·have kR:=Xhe s hS (l.getD i default).n (l.getD i default).body O_
    have kP:=Xjn hI.g 0 O_ O_ O_ O_ (outQ a Q) (K6 O_ hI.m.few) (l.getD i default).n (l.getD i default).body n2 O_ 900004 900001 900002 900003 900005 D_
    obtain ⟨M',Q',pp,hd2,hm2,ht2,ho2⟩:=Y8i hI.j hI.g hI.m hI.t O_ (l.getD i default).n (l.getD i default).body
    obtain ⟨a',ha'⟩:∃a',a' = a:=⟨_,rfl⟩
    rw [←ha'] at hm2 ht2
    have ho3:X83 (outQ a Q) (l.getD i default).n (l.getD i default).body (s.put (l.getD i default).n (l.getD i default).body).2=outQ a' Q':=by rw [ha'];exact ho2
    have hO:=hI.out O_ hd2 hm2 ht2 (by have:=Xs7 s (l.getD i default).n (l.getD i default).body;have:=hI.few;omega) (fun h _=>Y89 s (l.getD i default).n (l.getD i default).body h)
    have he:=Ya2 s (l.getD i default).n (l.getD i default).body
    have c3:=Xm (D.sput (271:Nat) (0:Nat) (outQ a Q) (l.getD i default).n (l.getD i default).body).2
    have c4:=Xi (D.sput (271:Nat) (0:Nat) (outQ a Q) (l.getD i default).n (l.getD i default).body).2
    have hl2:=Yv (s.put (l.getD i default).n (l.getD i default).body).1
    have hq2:Low (Xr (outQ a' Q').queue):=(Xb _).2 trivial
    rw [z0] at kP
    unfold X92 at kR
    rcases hO with ⟨r1,hI'⟩|⟨r1,-,hD⟩
    ·rw [r1] at kP
     rw [ho3] at kP
     clear hd2 hm2 ht2 r1 hI hS ho3 ho2
     generalize (D.sput (271:Nat) (0:Nat) (outQ a Q) (l.getD i default).n (l.getD i default).body).2=D' at *
     generalize s.put (l.getD i default).n (l.getD i default).body=R at *
     obtain ⟨s',e⟩:=R
     dsimp only at kR kP hI' he hl2
     have hu:=fun _:Unit=>hI'
     clear hI'
     refine wk ?_
     refine X5.remU (a:=w) (b:=3) rfl rfl rfl rfl rfl rfl hw rfl D_ ?_
     refine wk ?_
     refine Y4 (i+1,D',M',a',Q',s') ⟨by show i+1≤_;omega,hu ()⟩ (by show l.length - (i+1) < l.length - i;omega) ?_
     exact sb
    ·rw [r1] at kP
     generalize hX:X83 (outQ a Q) (l.getD i default).n (l.getD i default).body 220=X at *
     have hX2:X=outQ a Q:=by rw [←hX];exact Xwa _ _ _ D_
     subst hX2
     have hu:=fun _:Unit=>hD
     clear hd2 hm2 ht2 r1 hI hS ho3 hX he hD ho2
     generalize (D.sput (271:Nat) (0:Nat) (outQ a Q) (l.getD i default).n (l.getD i default).body).2=D' at *
     generalize s.put (l.getD i default).n (l.getD i default).body=R at *
     obtain ⟨s',e⟩:=R
     dsimp only at kR hl2
     refine wk ?_
     refine X5.remU (a:=w) (b:=3) rfl rfl rfl rfl rfl rfl hw rfl D_ ?_
     refine wk ?_
     refine midP (D',s,s') ⟨_,_,_,_,_,_,hu ()⟩ ?_
     exact sb
  ·have e:i=l.length:=O_
   subst e
   have hu:=fun _:Unit=>hI.done O_
   clear hI
   refine wk ?_
   refine midP (D,s,s) ⟨_,_,_,_,_,_,hu ()⟩ ?_
   exact sb
 ·rintro ⟨D,s,s2⟩ ⟨M,p,a,Q,a',Q',hD⟩
  simp only at hD ⊢
  have c1:=Xm D
  have c2:=Xi D
  obtain ⟨k1,k2,k3⟩:=Xs5 hD.g O_
  have kC:=Xmu D keep k1 k2 k3 hkl (hki' ()) 900001 900002 900003 900011 900012 900013 D_
  have hAft:=hD.aft keep
  have hC:=hAft.ok
  obtain ⟨hrec,hz,hJ⟩:=Aft.reopen (at_:=0) hAft O_ hD.ind hD.len
  have hsm:((D.crash keep).recov ((0:Nat):Int) p).2.cells.length≤1000000000∧∀e∈((D.crash keep).recov ((0:Nat):Int) p).2.op,e.2.2.length≤1000000000:=by
   rcases hJ with h|h
   ·exact ⟨by have:=h.ok.len;omega,by rw [h.op];simp⟩
   ·exact ⟨by have:=h.ok.len;omega,by rw [h.op];simp⟩
  obtain ⟨hm,hm',ht,ht',hf1,hf2,heq⟩:SndM 271 0 M a Q∧SndM 271 0 (doM M p) a' Q'∧SndT s a Q∧SndT s2 a' Q'∧s.l.length≤91∧s2.l.length≤91∧(s.l.length=s2.l.length→s.a=s2.a→s=s2):=⟨hD.m,hD.m',hD.t,hD.t',hD.few.1,hD.few.2,hD.eq⟩
  clear hD k1 k2 k3 hAft hki' hn' kO hI0 hfew kN kA g3 c1 c2
  have c1:=Xm D
  have c2:=Xi D
  generalize hRR:(D.crash keep).recov ((0:Nat):Int) p=RR at hrec hz hJ hsm
  obtain ⟨e0,E⟩:=RR
  dsimp only at hz hJ hsm
  clear hRR
  generalize D.crash keep=C at *
  rcases hJ with hJ|hJ
  ·by_cases e1:s.l.length=s2.l.length
   ·by_cases e2:s.a=s2.a
    ·obtain rfl:=heq e1 e2
     have hqf:=hm.few
     have hbl:a≤91:=by have:=ht.el;omega
     have kE:=X09 E 0 (outQ a Q) (K6 O_ hm.few) 900014 900011 900012 900013 900015 D_
     have kA:=V4 E 0 (outQ a Q) 900014 900011 900012 900013 900015 D_
     rw [show (outQ a Q).base+((outQ a Q).queue.length:Nat)=(s.l.length:Nat) by have:=ht.el;show (a:Int)+((Kl Q).length:Nat)=_;rw [Vu];omega] at kE
     rw [show (outQ a Q).acked=s.a from ht.ea.symm] at kA
     have hS:=ht.S O_
     have kR:=X02 s hS 64 O_
     have kP:=X1n E 0 (outQ a Q) (K6 O_ hm.few) rfl 64 O_ 900014 900011 900012 900013 900015 D_
     rw [show ((64:Nat):Int)=64 from rfl,ht.frames] at kP
     rw [show (64:Int).toNat=64 from rfl] at kR
     have hFl:(s.frames.take 64).length≤1000000000:=by rw [T_];omega
     have kSF:=Kp (s.frames.take 64) (s.frames.take 64) hFl hFl
     rw [decide_eq_true rfl] at kSF
     have hF1:Low (Xp (s.frames.take 64)):=(Xf _).2 trivial
     have hF2:=K3 (s.frames.take 64)
     have kO:=X2p hC.go 0 O_ O_ O_ hrec hz hsm.1 hsm.2 a Q O_ (hm.num hJ) (hm.notes hJ) 900014 900011 900012 900013 900015 D_
     dsimp only at kO
     rw [z0] at kO
     unfold X92 at kR
     generalize s.frames.take 64=F at *
     have hx1:(((s.l.length:Nat):Int) == ((s.l.length:Nat):Int))=true:=S_
     have hx2:(s.a == s.a)=true:=S_
     have c3:=Xm C
     have c4:=Xi C
     have c5:=Xm E
     have c6:=Xi E
     have hl1:=Yv s
     have hl2:=Yv s
     clear hm hm' ht ht' heq hS hJ hrec hz hsm hC hFl z0 hbl
     refine wk ?_
     exact retP rfl (.val _) rfl
    ·have hy1:(((s.l.length:Nat):Int) == ((s2.l.length:Nat):Int))=true:=by rw [e1];simp
     have hy2:(s.a == s2.a)=false:=by simpa using e2
     clear e1 e2
     have hqf:=hm.few
     have hbl:a≤91:=by have:=ht.el;omega
     have kE:=X09 E 0 (outQ a Q) (K6 O_ hm.few) 900014 900011 900012 900013 900015 D_
     have kA:=V4 E 0 (outQ a Q) 900014 900011 900012 900013 900015 D_
     rw [show (outQ a Q).base+((outQ a Q).queue.length:Nat)=(s.l.length:Nat) by have:=ht.el;show (a:Int)+((Kl Q).length:Nat)=_;rw [Vu];omega] at kE
     rw [show (outQ a Q).acked=s.a from ht.ea.symm] at kA
     have hS:=ht.S O_
     have kR:=X02 s hS 64 O_
     have kP:=X1n E 0 (outQ a Q) (K6 O_ hm.few) rfl 64 O_ 900014 900011 900012 900013 900015 D_
     rw [show ((64:Nat):Int)=64 from rfl,ht.frames] at kP
     rw [show (64:Int).toNat=64 from rfl] at kR
     have hFl:(s.frames.take 64).length≤1000000000:=by rw [T_];omega
     have kSF:=Kp (s.frames.take 64) (s.frames.take 64) hFl hFl
     rw [decide_eq_true rfl] at kSF
     have hF1:Low (Xp (s.frames.take 64)):=(Xf _).2 trivial
     have hF2:=K3 (s.frames.take 64)
     have kO:=X2p hC.go 0 O_ O_ O_ hrec hz hsm.1 hsm.2 a Q O_ (hm.num hJ) (hm.notes hJ) 900014 900011 900012 900013 900015 D_
     dsimp only at kO
     rw [z0] at kO
     unfold X92 at kR
     generalize s.frames.take 64=F at *
     have hx1:(((s.l.length:Nat):Int) == ((s.l.length:Nat):Int))=true:=S_
     have hx2:(s.a == s.a)=true:=S_
     have c3:=Xm C
     have c4:=Xi C
     have c5:=Xm E
     have c6:=Xi E
     have hl1:=Yv s
     have hl2:=Yv s2
     clear hm hm' ht ht' heq hS hJ hrec hz hsm hC hFl z0 hbl
     refine wk ?_
     exact retP rfl (.val _) rfl
   ·have hy1:(((s.l.length:Nat):Int) == ((s2.l.length:Nat):Int))=false:=by rw [beq_eq_false_iff_ne];omega
    clear e1
    have hqf:=hm.few
    have hbl:a≤91:=by have:=ht.el;omega
    have kE:=X09 E 0 (outQ a Q) (K6 O_ hm.few) 900014 900011 900012 900013 900015 D_
    have kA:=V4 E 0 (outQ a Q) 900014 900011 900012 900013 900015 D_
    rw [show (outQ a Q).base+((outQ a Q).queue.length:Nat)=(s.l.length:Nat) by have:=ht.el;show (a:Int)+((Kl Q).length:Nat)=_;rw [Vu];omega] at kE
    rw [show (outQ a Q).acked=s.a from ht.ea.symm] at kA
    have hS:=ht.S O_
    have kR:=X02 s hS 64 O_
    have kP:=X1n E 0 (outQ a Q) (K6 O_ hm.few) rfl 64 O_ 900014 900011 900012 900013 900015 D_
    rw [show ((64:Nat):Int)=64 from rfl,ht.frames] at kP
    rw [show (64:Int).toNat=64 from rfl] at kR
    have hFl:(s.frames.take 64).length≤1000000000:=by rw [T_];omega
    have kSF:=Kp (s.frames.take 64) (s.frames.take 64) hFl hFl
    rw [decide_eq_true rfl] at kSF
    have hF1:Low (Xp (s.frames.take 64)):=(Xf _).2 trivial
    have hF2:=K3 (s.frames.take 64)
    have kO:=X2p hC.go 0 O_ O_ O_ hrec hz hsm.1 hsm.2 a Q O_ (hm.num hJ) (hm.notes hJ) 900014 900011 900012 900013 900015 D_
    dsimp only at kO
    rw [z0] at kO
    unfold X92 at kR
    generalize s.frames.take 64=F at *
    have hx1:(((s.l.length:Nat):Int) == ((s.l.length:Nat):Int))=true:=S_
    have hx2:(s.a == s.a)=true:=S_
    have c3:=Xm C
    have c4:=Xi C
    have c5:=Xm E
    have c6:=Xi E
    have hl1:=Yv s
    have hl2:=Yv s2
    clear hm hm' ht ht' heq hS hJ hrec hz hsm hC hFl z0 hbl
    refine wk ?_
    exact retP rfl (.val _) rfl
  ·have hqf:=hm'.few
   have hbl:a'≤91:=by have:=ht'.el;omega
   have kE:=X09 E 0 (outQ a' Q') (K6 O_ hm'.few) 900014 900011 900012 900013 900015 D_
   have kA:=V4 E 0 (outQ a' Q') 900014 900011 900012 900013 900015 D_
   rw [show (outQ a' Q').base+((outQ a' Q').queue.length:Nat)=(s2.l.length:Nat) by have:=ht'.el;show (a' : Int)+((Kl Q').length:Nat)=_;rw [Vu];omega] at kE
   rw [show (outQ a' Q').acked=s2.a from ht'.ea.symm] at kA
   have hS:=ht'.S O_
   have kR:=X02 s2 hS 64 O_
   have kP:=X1n E 0 (outQ a' Q') (K6 O_ hm'.few) rfl 64 O_ 900014 900011 900012 900013 900015 D_
   rw [show ((64:Nat):Int)=64 from rfl,ht'.frames] at kP
   rw [show (64:Int).toNat=64 from rfl] at kR
   have hFl:(s2.frames.take 64).length≤1000000000:=by rw [T_];omega
   have kSF:=Kp (s2.frames.take 64) (s2.frames.take 64) hFl hFl
   rw [decide_eq_true rfl] at kSF
   have hF1:Low (Xp (s2.frames.take 64)):=(Xf _).2 trivial
   have hF2:=K3 (s2.frames.take 64)
   have kO:=X2p hC.go 0 O_ O_ O_ hrec hz hsm.1 hsm.2 a' Q' O_ (hm'.num hJ) (hm'.notes hJ) 900014 900011 900012 900013 900015 D_
   dsimp only at kO
   rw [z0] at kO
   unfold X92 at kR
   generalize s2.frames.take 64=F at *
   have hx1:(((s2.l.length:Nat):Int) == ((s2.l.length:Nat):Int))=true:=S_
   have hx2:(s2.a == s2.a)=true:=S_
   have c3:=Xm C
   have c4:=Xi C
   have c5:=Xm E
   have c6:=Xi E
   have hl1:=Yv s
   have hl2:=Yv s2
   clear hm hm' ht ht' heq hS hJ hrec hz hsm hC hFl z0 hbl
   refine wk ?_
   exact retP rfl (.val _) rfl
end
end Go.Proofs.YtmciloafahkolaaGreatDoor
