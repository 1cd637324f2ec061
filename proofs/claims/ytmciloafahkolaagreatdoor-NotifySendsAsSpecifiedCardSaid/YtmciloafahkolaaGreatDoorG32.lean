/- Out of: Om. -/
import Derived.Test.YtmciloafahkolaaGreatDoorG3
import Derived.Test.YtmciloafahkolaaGreatDoorG13
import Derived.Test.YtmciloafahkolaaGreatDoorG20
import Derived.Test.YtmciloafahkolaaGreatDoorG23
import Derived.Test.YtmciloafahkolaaGreatDoorG28
import Derived.Test.YtmciloafahkolaaGreatDoorG29
namespace Go.Proofs.YtmciloafahkolaaGreatDoor
set_option maxRecDepth 100000
set_option maxHeartbeats 40000000
set_option linter.unusedSimpArgs false
set_option linter.unusedVariables false
set_option linter.unnecessarySimpa false
section
open Go.RowKit
structure SndI (N p k i:Nat) (D:DM) (a:Nat) (Q:List Body) (s:PSnd):Prop where
 hl:Hlt N k D
 ar:ArS p D a Q
 t:SndT s a Q
 few:s.l.length≤i
theorem SndI.end_ {N p k i:Nat} {D:DM} {a:Nat} {Q:List Body} {s:PSnd} (h:SndI N p k i D a Q s):(outQ a Q).base+((outQ a Q).queue.length:Nat)=(s.l.length:Nat):=by
 have:=h.t.el
 show (a:Int)+((Kl Q).length:Nat)=_
 rw [Vu];omega
theorem SndI.ack_ {N p k i:Nat} {D:DM} {a:Nat} {Q:List Body} {s:PSnd} (h:SndI N p k i D a Q s):(outQ a Q).acked=s.a:=h.t.ea.symm
theorem SndI.lenA {N p k i:Nat} {D:DM} {a:Nat} {Q:List Body} {s:PSnd} (h:SndI N p k i D a Q s):a≤i∧Q.length≤64:=⟨by have:=h.t.el;have:=h.few;omega,h.ar.few⟩
theorem Xvb (size at_:Int) (l:List POp) (again:Int) (hs:0≤size∧size < 65536) (ha : -9223372036854775808≤at_∧at_≤9223372036854775807) (hl:l.length≤1000000000000000) (hb:∀o∈l,o.body.size≤1000000000000000) (hn:∀o∈l,(-9223372036854775808≤o.n∧o.n≤9223372036854775807)∧0≤o.do_∧o.do_ < 256) (hg:0≤again∧again < 256) (hsan:Xs Tryz.prog 9 [] (· = Y1 true)) :
  Xs Tryz.prog 3 [.val (.int .u16 size),pint at_,pops l,Xh again] (· = Y1 true):=by
 have hfew:=Xga l hl hb
 have hlo:Low (pops l):=(X7m _).2 trivial
 have hpl:=Xaz l
 have hrr:=Xdf
 refine Xd X6 Tryz.func3 rfl K_ (by intro p hp;simp only [List.mem_cons,List.not_mem_nil,or_false] at hp;rcases hp with rfl|rfl|rfl|rfl;exact .val _;exact .val _;exact hlo;exact .val _) (by simp [pops,Xh,pint,PV.ownB]) N_ ?_
 by_cases g1:fewO l=true
 case neg=>
  rw [show fewO l=false by simpa using g1] at hfew
  clear hb hn
  refine wk ?_
  exact retP rfl (.val _) rfl
 rw [g1] at hfew
 obtain ⟨g2,g3⟩:=Xbr g1
 clear hb hl g1
 obtain ⟨N,hN⟩:∃n:Nat,(n:Int)=1+size % 700:=⟨(1+size % 700).toNat,O_⟩
 have hNN:N≤700∧1≤N:=O_
 have kN:=Xik N O_ 900001 900002 900003 D_
 rw [Int.toNat_natCast,hN] at kN
 have c1:=Xm (newD N)
 have c2:=Xi (newD N)
 by_cases g4:at_ < 0∨(N:Int) - 271 < at_
 ·have kO:=Xnl (newD N) N (Xbl N).len O_ at_ ha g4 900001 900002 900003 D_
  rw [show Xhw = .val (.pointer none) from rfl] at kO
  generalize newD N=D at *
  rw [hN] at g4
  clear hn g3
  by_cases h1:at_ < 0
  ·refine wk ?_
   exact retP rfl (.val _) rfl
  have h2:1+size % 700 - 271 < at_:=O_
  refine wk ?_
  exact retP rfl (.val _) rfl
 obtain ⟨p,rfl⟩:∃p:Nat,at_=p:=⟨at_.toNat,O_⟩
 have hp:p+271≤N:=O_
 have h2:¬1+size % 700 - 271 < (p:Int):=O_
 obtain ⟨h0,hnw⟩:=Hlt.new N O_
 obtain ⟨hS0,-⟩:=hnw p hp
 have kOs:=X2p h0.ok.go p O_ O_ O_ (h0.recP hS0.head O_) rfl (h0.small O_).1 (h0.small O_).2 0 [] D_ hS0.num' hS0.notes 900004 900001 900002 900003 900005 D_
 dsimp only at kOs
 have hI0:SndI N p 0 0 (newD N) 0 [] ⟨[],0⟩:=⟨h0,hS0,SndT.new,Nat.le_refl _⟩
 clear hnw h0 hS0
 generalize newD N=D0 at *
 have hn':=fun _:Unit=>hn
 clear hn
 refine wk ?_
 refine PW.weakB (id:=12000) [Xr [],pint 0] rfl (.cons (.nil 1) (.cons (.refl _) .nil)) ?_
 refine PW.loop (fun x:Nat×DM×Nat×List Body×PSnd=>(bot.setb 12000 (Xi6 x.2.2.2.2) |>.setb 900004 (sC 900001 900005 p (outQ x.2.2.1 x.2.2.2.1)) |>.setb 900005 (jB 900001 p 12) |>.setb 900001 (dB 900002 900003 x.2.1) |>.setb 900002 (dC x.2.1) |>.setm 900003 (dM x.2.1) |>.put 1 (pint p) |>.put 2 (pops l) |>.put 3 (Xh again) |>.put 8 (Y1 false) |>.put 10 (.ptr 900001 0) |>.put 11 (.ptr 900004 0) |>.put 13 (.ptr 12000 0) |>.put 14 (pint x.1))) (fun x=>x.1≤l.length∧SndI N p (5000 * x.1) x.1 x.2.1 x.2.2.1 x.2.2.2.1 x.2.2.2.2) (fun x=>l.length - x.1) (0,D0,0,[],⟨[],0⟩) ⟨S_,hI0⟩ ?_ ?_
 ·exact sb
 ·clear kOs hI0 c1 c2 hfew kN
  rintro ⟨i,D,a,Q,s⟩ ⟨hi,hI⟩
  simp only at hi hI ⊢
  have c1:=Xm D
  have c2:=Xi D
  have hl1:=Yv s
  have hq1:Low (Xr (outQ a Q).queue):=(Xb _).2 trivial
  by_cases hlt:i < l.length
  ·have hmem:l.getD i default∈l:=by rw [G_,E_ hlt];exact List.getElem_mem hlt
   obtain ⟨⟨n1,n2⟩,n3,n4⟩:=hn' () _ hmem
   have n5:=g3 _ hmem
   have hlA:=hI.lenA
   have hS:=hI.t.S (by have:=hI.few;omega)
   clear hmem
   obtain ⟨w,hw⟩:∃w:Nat,(l.getD i default).do_=w:=⟨(l.getD i default).do_.toNat,O_⟩
   have hd:((w % 3:Nat):Int)=0∨((w % 3:Nat):Int)=1∨((w % 3:Nat):Int)=2:=O_
   rcases hd with hd|hd|hd
   ·have kR:=Xhe s hS (l.getD i default).n (l.getD i default).body O_
    have kP:=Xjn hI.hl.ok.go p O_ hp O_ O_ (outQ a Q) (K6 O_ hlA.2) (l.getD i default).n (l.getD i default).body n2 O_ 900004 900001 900002 900003 900005 D_
    obtain ⟨Q',a1,b1,h1,hS1,hT1,-⟩:=Xnv hI.t hI.hl hI.ar hp O_ (l.getD i default).n (l.getD i default).body
    rw [a1] at b1
    rw [a1,b1] at kP
    have hI' : SndI N p (5000 * (i+1)) (i+1) (D.sput N p (outQ a Q) (l.getD i default).n (l.getD i default).body).2 a Q' (s.put (l.getD i default).n (l.getD i default).body).1:=⟨h1.mono O_,hS1,hT1,by have:=Xs7 s (l.getD i default).n (l.getD i default).body;have:=hI.few;omega⟩
    clear a1 b1 h1 hS1 hT1 hS hlA
    generalize (D.sput N p (outQ a Q) (l.getD i default).n (l.getD i default).body).2=D' at *
    obtain ⟨a',rfl⟩:∃a',a' = a:=⟨_,rfl⟩
    generalize s.put (l.getD i default).n (l.getD i default).body=R at *
    obtain ⟨s',e⟩:=R
    dsimp only at kR kP hI'
    have kSF:=X1l (Kp [] [] D_ D_) (.cons (.nil 3) (.cons (.refl _) .nil))
    rw [decide_eq_true rfl] at kSF
    have he:(!(e == e))=false:=S_
    have he2:(e == e)=true:=S_
    have c3:=Xm D'
    have c4:=Xi D'
    have hl2:=Yv s'
    have hq2:Low (Xr (outQ a' Q').queue):=(Xb _).2 trivial
    have hlB:=hI'.lenA
    have hx1:(!(((s'.l.length:Nat):Int) == ((s'.l.length:Nat):Int)))=false:=S_
    have hx2:(!(s'.a == s'.a))=false:=S_
    have hE1:=hI'.end_
    have hE2:=hI'.ack_
    by_cases hag:again % 90=(i:Int)
    ·have kO2:=X2p hI'.hl.ok.go p O_ O_ O_ (hI'.hl.recP hI'.ar.head O_) rfl (hI'.hl.small O_).1 (hI'.hl.small O_).2 a' Q' O_ hI'.ar.num' hI'.ar.notes 900014 900001 900002 900003 900015 D_
     have kE:=X09 D' p (outQ a' Q') (K6 O_ hlB.2) 900014 900001 900002 900003 900015 D_
     have kA:=V4 D' p (outQ a' Q') 900014 900001 900002 900003 900015 D_
     rw [hE1] at kE
     rw [hE2] at kA
     dsimp only at kO2
     have hu:=fun _:Unit=>hI'
     clear hI' hI hE1 hE2 hlB
     refine wk ?_
     refine X5.remU (a:=w) (b:=3) rfl rfl rfl rfl rfl rfl hw rfl D_ ?_
     rw [hd]
     refine wk ?_
     refine Y4 (i+1,D',a',Q',s') ⟨by show i+1≤_;omega,hu ()⟩ (by show l.length - (i+1) < l.length - i;omega) ?_
     refine Sub.other (κ:=renN [(900004,900014),(900005,900015)]) [900003,900002,900001,900005,900004,12000] (by exact sbr0) ?_ rfl rfl
     exact kn0
    ·have kE:=X09 D' p (outQ a' Q') (K6 O_ hlB.2) 900004 900001 900002 900003 900005 D_
     have kA:=V4 D' p (outQ a' Q') 900004 900001 900002 900003 900005 D_
     rw [hE1] at kE
     rw [hE2] at kA
     have hu:=fun _:Unit=>hI'
     clear hI' hI hE1 hE2 hlB
     refine wk ?_
     refine X5.remU (a:=w) (b:=3) rfl rfl rfl rfl rfl rfl hw rfl D_ ?_
     rw [hd]
     refine wk ?_
     refine Y4 (i+1,D',a',Q',s') ⟨by show i+1≤_;omega,hu ()⟩ (by show l.length - (i+1) < l.length - i;omega) ?_
     exact sb
   ·have kR:=Xis s hS (l.getD i default).n
    have kP:=Xvd hI.hl.ok.go p O_ hp O_ O_ (outQ a Q) (K6 O_ hlA.2) rfl (l.getD i default).n 900004 900001 900002 900003 900005 D_
    obtain ⟨a',Q',a1,b1,h1,hS1,hT1,-⟩:=Y0q hI.t hI.hl hI.ar hp O_ (l.getD i default).n
    rw [a1] at b1
    rw [a1,b1] at kP
    have hI' : SndI N p (5000 * (i+1)) (i+1) (D.sack N p (outQ a Q) (l.getD i default).n).2 a' Q' (s.ack (l.getD i default).n).1:=⟨h1.mono O_,hS1,hT1,by have:=Xr6 s (l.getD i default).n;have:=hI.few;omega⟩
    clear a1 b1 h1 hS1 hT1 hS hlA
    generalize (D.sack N p (outQ a Q) (l.getD i default).n).2=D' at *
    generalize s.ack (l.getD i default).n=R at *
    obtain ⟨s',e⟩:=R
    dsimp only at kR kP hI'
    have kSF:=X1l (Kp [] [] D_ D_) (.cons (.nil 3) (.cons (.refl _) .nil))
    rw [decide_eq_true rfl] at kSF
    have he:(!(e == e))=false:=S_
    have he2:(e == e)=true:=S_
    have c3:=Xm D'
    have c4:=Xi D'
    have hl2:=Yv s'
    have hq2:Low (Xr (outQ a' Q').queue):=(Xb _).2 trivial
    have hlB:=hI'.lenA
    have hx1:(!(((s'.l.length:Nat):Int) == ((s'.l.length:Nat):Int)))=false:=S_
    have hx2:(!(s'.a == s'.a))=false:=S_
    have hE1:=hI'.end_
    have hE2:=hI'.ack_
    by_cases hag:again % 90=(i:Int)
    ·have kO2:=X2p hI'.hl.ok.go p O_ O_ O_ (hI'.hl.recP hI'.ar.head O_) rfl (hI'.hl.small O_).1 (hI'.hl.small O_).2 a' Q' O_ hI'.ar.num' hI'.ar.notes 900014 900001 900002 900003 900015 D_
     have kE:=X09 D' p (outQ a' Q') (K6 O_ hlB.2) 900014 900001 900002 900003 900015 D_
     have kA:=V4 D' p (outQ a' Q') 900014 900001 900002 900003 900015 D_
     rw [hE1] at kE
     rw [hE2] at kA
     dsimp only at kO2
     have hu:=fun _:Unit=>hI'
     clear hI' hI hE1 hE2 hlB
     refine wk ?_
     refine X5.remU (a:=w) (b:=3) rfl rfl rfl rfl rfl rfl hw rfl D_ ?_
     rw [hd]
     refine wk ?_
     refine Y4 (i+1,D',a',Q',s') ⟨by show i+1≤_;omega,hu ()⟩ (by show l.length - (i+1) < l.length - i;omega) ?_
     refine Sub.other (κ:=renN [(900004,900014),(900005,900015)]) [900003,900002,900001,900005,900004,12000] (by exact sbr0) ?_ rfl rfl
     exact kn0
    ·have kE:=X09 D' p (outQ a' Q') (K6 O_ hlB.2) 900004 900001 900002 900003 900005 D_
     have kA:=V4 D' p (outQ a' Q') 900004 900001 900002 900003 900005 D_
     rw [hE1] at kE
     rw [hE2] at kA
     have hu:=fun _:Unit=>hI'
     clear hI' hI hE1 hE2 hlB
     refine wk ?_
     refine X5.remU (a:=w) (b:=3) rfl rfl rfl rfl rfl rfl hw rfl D_ ?_
     rw [hd]
     refine wk ?_
     refine Y4 (i+1,D',a',Q',s') ⟨by show i+1≤_;omega,hu ()⟩ (by show l.length - (i+1) < l.length - i;omega) ?_
     exact sb
   ·by_cases hneg:(l.getD i default).n < 0
    ·have kR:=Xgp s (l.getD i default).n hneg
     have kP:=Xph D p (outQ a Q) (K6 O_ hlA.2) (l.getD i default).n hneg 900004 900001 900002 900003 900005 D_
     clear hS hlA
     have hI' : SndI N p (5000 * (i+1)) (i+1) D a Q s:=⟨hI.hl.mono O_,hI.ar,hI.t,by have:=hI.few;omega⟩
     obtain ⟨D',rfl⟩:∃D',D' = D:=⟨_,rfl⟩
     obtain ⟨a',rfl⟩:∃a',a' = a:=⟨_,rfl⟩
     obtain ⟨Q',rfl⟩:∃Q',Q' = Q:=⟨_,rfl⟩
     obtain ⟨s',rfl⟩:∃s',s' = s:=⟨_,rfl⟩
     have kSF:=X1l (Kp [] [] D_ D_) (.cons (.nil 3) (.cons (.refl _) .nil))
     rw [decide_eq_true rfl] at kSF
     have c3:=Xm D'
     have c4:=Xi D'
     have hl2:=Yv s'
     have hq2:Low (Xr (outQ a' Q').queue):=(Xb _).2 trivial
     have hlB:=hI'.lenA
     have hx1:(!(((s'.l.length:Nat):Int) == ((s'.l.length:Nat):Int)))=false:=S_
     have hx2:(!(s'.a == s'.a))=false:=S_
     have hE1:=hI'.end_
     have hE2:=hI'.ack_
     by_cases hag:again % 90=(i:Int)
     ·have kO2:=X2p hI'.hl.ok.go p O_ O_ O_ (hI'.hl.recP hI'.ar.head O_) rfl (hI'.hl.small O_).1 (hI'.hl.small O_).2 a' Q' O_ hI'.ar.num' hI'.ar.notes 900014 900001 900002 900003 900015 D_
      have kE:=X09 D' p (outQ a' Q') (K6 O_ hlB.2) 900014 900001 900002 900003 900015 D_
      have kA:=V4 D' p (outQ a' Q') 900014 900001 900002 900003 900015 D_
      rw [hE1] at kE
      rw [hE2] at kA
      dsimp only at kO2
      have hu:=fun _:Unit=>hI'
      clear hI' hI hE1 hE2 hlB
      refine wk ?_
      refine X5.remU (a:=w) (b:=3) rfl rfl rfl rfl rfl rfl hw rfl D_ ?_
      rw [hd]
      refine wk ?_
      refine Y4 (i+1,D',a',Q',s') ⟨by show i+1≤_;omega,hu ()⟩ (by show l.length - (i+1) < l.length - i;omega) ?_
      refine Sub.other (κ:=renN [(900004,900014),(900005,900015)]) [900003,900002,900001,900005,900004,12000] (by exact sbr0) ?_ rfl rfl
      exact kn0
     ·have kE:=X09 D' p (outQ a' Q') (K6 O_ hlB.2) 900004 900001 900002 900003 900005 D_
      have kA:=V4 D' p (outQ a' Q') 900004 900001 900002 900003 900005 D_
      rw [hE1] at kE
      rw [hE2] at kA
      have hu:=fun _:Unit=>hI'
      clear hI' hI hE1 hE2 hlB
      refine wk ?_
      refine X5.remU (a:=w) (b:=3) rfl rfl rfl rfl rfl rfl hw rfl D_ ?_
      rw [hd]
      refine wk ?_
      refine Y4 (i+1,D',a',Q',s') ⟨by show i+1≤_;omega,hu ()⟩ (by show l.length - (i+1) < l.length - i;omega) ?_
      exact sb
    ·have kR:=X02 s hS (l.getD i default).n O_
     have kP:=X1n D p (outQ a Q) (K6 O_ hlA.2) rfl (l.getD i default).n.toNat O_ 900004 900001 900002 900003 900005 D_
     rw [Int.toNat_of_nonneg O_,hI.t.frames] at kP
     have hFl:(s.frames.take (l.getD i default).n.toNat).length≤1000000000:=by
      rw [T_,PSnd.frames,Xch,L_]
      have:=hS.l
      omega
     have kSF:=Kp (s.frames.take (l.getD i default).n.toNat) (s.frames.take (l.getD i default).n.toNat) hFl hFl
     rw [decide_eq_true rfl] at kSF
     have hF1:Low (Xp (s.frames.take (l.getD i default).n.toNat)):=(Xf _).2 trivial
     have hF2:=K3 (s.frames.take (l.getD i default).n.toNat)
     generalize s.frames.take (l.getD i default).n.toNat=F at *
     clear hS hlA
     have hI' : SndI N p (5000 * (i+1)) (i+1) D a Q s:=⟨hI.hl.mono O_,hI.ar,hI.t,by have:=hI.few;omega⟩
     obtain ⟨D',rfl⟩:∃D',D' = D:=⟨_,rfl⟩
     obtain ⟨a',rfl⟩:∃a',a' = a:=⟨_,rfl⟩
     obtain ⟨Q',rfl⟩:∃Q',Q' = Q:=⟨_,rfl⟩
     obtain ⟨s',rfl⟩:∃s',s' = s:=⟨_,rfl⟩
     have c3:=Xm D'
     have c4:=Xi D'
     have hl2:=Yv s'
     have hq2:Low (Xr (outQ a' Q').queue):=(Xb _).2 trivial
     have hlB:=hI'.lenA
     have hx1:(!(((s'.l.length:Nat):Int) == ((s'.l.length:Nat):Int)))=false:=S_
     have hx2:(!(s'.a == s'.a))=false:=S_
     have hE1:=hI'.end_
     have hE2:=hI'.ack_
     by_cases hag:again % 90=(i:Int)
     ·have kO2:=X2p hI'.hl.ok.go p O_ O_ O_ (hI'.hl.recP hI'.ar.head O_) rfl (hI'.hl.small O_).1 (hI'.hl.small O_).2 a' Q' O_ hI'.ar.num' hI'.ar.notes 900014 900001 900002 900003 900015 D_
      have kE:=X09 D' p (outQ a' Q') (K6 O_ hlB.2) 900014 900001 900002 900003 900015 D_
      have kA:=V4 D' p (outQ a' Q') 900014 900001 900002 900003 900015 D_
      rw [hE1] at kE
      rw [hE2] at kA
      dsimp only at kO2
      have hu:=fun _:Unit=>hI'
      clear hI' hI hE1 hE2 hlB
      refine wk ?_
      refine X5.remU (a:=w) (b:=3) rfl rfl rfl rfl rfl rfl hw rfl D_ ?_
      rw [hd]
      refine wk ?_
      refine Y4 (i+1,D',a',Q',s') ⟨by show i+1≤_;omega,hu ()⟩ (by show l.length - (i+1) < l.length - i;omega) ?_
      refine Sub.other (κ:=renN [(900004,900014),(900005,900015)]) [900003,900002,900001,900005,900004,12000] (by exact sbr0) ?_ rfl rfl
      exact kn0
     ·have kE:=X09 D' p (outQ a' Q') (K6 O_ hlB.2) 900004 900001 900002 900003 900005 D_
      have kA:=V4 D' p (outQ a' Q') 900004 900001 900002 900003 900005 D_
      rw [hE1] at kE
      rw [hE2] at kA
      have hu:=fun _:Unit=>hI'
      clear hI' hI hE1 hE2 hlB
      refine wk ?_
      refine X5.remU (a:=w) (b:=3) rfl rfl rfl rfl rfl rfl hw rfl D_ ?_
      rw [hd]
      refine wk ?_
      refine Y4 (i+1,D',a',Q',s') ⟨by show i+1≤_;omega,hu ()⟩ (by show l.length - (i+1) < l.length - i;omega) ?_
      exact sb
  ·have e:i=l.length:=O_
   subst e
   have hlA:=hI.lenA
   have hS:=hI.t.S (by have:=hI.few;omega)
   have kR:=X02 s hS 64 O_
   have kP:=X1n D p (outQ a Q) (K6 O_ hlA.2) rfl 64 O_ 900004 900001 900002 900003 900005 D_
   rw [show ((64:Nat):Int)=64 from rfl,hI.t.frames] at kP
   rw [show (64:Int).toNat=64 from rfl] at kR
   have hFl:(s.frames.take 64).length≤1000000000:=by
    rw [T_];omega
   have kSF:=Kp (s.frames.take 64) (s.frames.take 64) hFl hFl
   rw [decide_eq_true rfl] at kSF
   have hF1:Low (Xp (s.frames.take 64)):=(Xf _).2 trivial
   have hF2:=K3 (s.frames.take 64)
   generalize s.frames.take 64=F at *
   clear hI hS hlA hn'
   refine wk ?_
   exact retP rfl (.val _) rfl
end
end Go.Proofs.YtmciloafahkolaaGreatDoor
