/- Out of: Row42, Oq. -/
import Derived.Test.YtmciloafahkolaaGreatDoorG21
import Derived.Test.YtmciloafahkolaaGreatDoorG27
namespace Go.Proofs.YtmciloafahkolaaGreatDoor
set_option maxRecDepth 100000
set_option maxHeartbeats 40000000
set_option linter.unusedSimpArgs false
set_option linter.unusedVariables false
set_option linter.unnecessarySimpa false
section
open Go.ChangeShapes Go.WideShapes Go.ChangeAt Go.RowKit
theorem Xdb {α:Type} (f:α→PV) (l:List α):l.flatMap (fun x => [f x])=l.map f:=by
 induction l with
 |nil=>rfl
 |cons x l ih=>simp [ih]
theorem Xtt:X2r Tryz.prog 66 (fun l => [Kd l]) (fun l=>(∀z∈l,-9223372036854775808≤z∧z≤9223372036854775807)∧l.length * 8≤reachBytes):=
 (X7e Tryz.underlying66 K_ D_ K_ Xnw (fun _ _=>rfl)).map id (fun a _=>by show [Kd a]=_;rw [Xdb];rfl) (fun _ h=>h)
theorem Y3f:Z3 Tryz.prog 66 Kd (fun l=>(∀z∈l,-9223372036854775808≤z∧z≤9223372036854775807)∧l.length * 8≤reachBytes):=Xcd Tryz.underlying66 Xtt
end
section
open Go.RowKit
variable {N k at_ a:Nat} {D:DM} {M:List Sec} {Q L:List Body} {l:List PPut}
theorem OkD.applyR (h:OkD N k D) (hb:at_+271≤N) (he:jApE N at_ 12 l=0) (hk:k+20000≤100000000):(D.applyR N at_ 12 l).1=0∧OkD N (k+5000) (D.applyR N at_ 12 l).2:=by
 obtain ⟨m0,m1,h0,hN,hr,hrn,hat⟩:=Kh (X38 hb)
 obtain ⟨e1,e2⟩:=Zn he
 by_cases hl0:0 < l.length
 ·have e:D.applyR N at_ 12 l=D.run (K8 at_ 12 l):=by rw [DM.applyR,if_pos he,if_pos hl0]
  rw [e]
  have h12:Yl 12=14:=Xef
  obtain ⟨al,ai⟩:=X2c l h0 m0 m1 hN e1
  have hnb:Xg l.length≤64∧0≤Xg l.length:=by unfold Xg;omega
  have hai:InD N (K0 at_ 12 l):=fun p hp=>by have:=ai p hp;omega
  have hin:InD N l:=fun p hp=>by have:=e2 p hp;omega
  have hlen:(K8 at_ 12 l).length≤5000:=by rw [K8,A_,V8,V8];omega
  have hio:∀o∈K8 at_ 12 l,o.inD N:=fun o ho=>by
   rcases List.mem_append.1 ho with ho|ho
   ·exact Zv h0 hat hai _ o ho
   ·exact Zv h0 hat hin _ o ho
  obtain ⟨r1,r2⟩:=OkD.run (K8 at_ 12 l) h hio O_
  exact ⟨r1,r2.mono O_⟩
 ·have e:D.applyR N at_ 12 l=(0,D):=by rw [DM.applyR,if_pos he,if_neg hl0]
  rw [e]
  exact ⟨rfl,h.mono O_⟩
structure Did2 (N k0 k at_:Nat) (D:DM) (M M' : List Sec) (l:List PPut) (r:Int×DM) (e:Int):Prop where
 go:GoD N k r.2
 hl:OkD N k0 D→r.1=e∧OkD N k r.2
 res:(r.1=e∧JInv N k at_ 12 r.2.base M')∨(r.1=220∧e=0∧(∀keep,Aft N at_ 12 M l (r.2.crash keep))∧InD N l∧l.length≤12∧M' = doM M l)
theorem Did2.same (h:JInv N k at_ 12 D.base M) (g:GoD N k D) {k' : Nat} (hk:k≤k') (e:Int):Did2 N k k' at_ D M M [] (e,D) e:=⟨g.mono hk,fun h=>⟨rfl,h.mono hk⟩, .inl ⟨rfl,h.mono hk⟩⟩
theorem Did2.apply (h:JInv N k at_ 12 D.base M) (g:GoD N k D) (hb:at_+271≤N) (he:jApE N at_ 12 l=0) (hin:InD N l) (hl:l.length≤12) (hk:k+20000≤100000000):Did2 N k (k+5000) at_ D M (doM M l) l (D.applyR N at_ 12 l) 0:=by
 obtain ⟨r1,r2⟩:=h.applyR g (X38 hb) he hk
 refine ⟨r1,fun ho=>ho.applyR hb he hk,?_⟩
 rcases r2 with ⟨a,-,b⟩|⟨a,b⟩
 ·exact .inl ⟨a,b⟩
 ·exact .inr ⟨a,rfl,b,hin,hl,rfl⟩
theorem Did2.ok {k' : Nat} {M' : List Sec} {r:Int×DM} {e:Int} (h:Did2 N k k' at_ D M M' l r e) (ho:OkD N k D):r.1=e∧JInv N k' at_ 12 r.2 M':=by
 obtain ⟨h1,h2⟩:=h.hl ho
 refine ⟨h1,?_⟩
 rcases h.res with ⟨-,hj⟩|⟨h3,h4,-⟩
 ·exact hj.unbase h2
 ·rw [h1,h4] at h3;cases h3
theorem Did2.crash {k' : Nat} {M' : List Sec} {r:Int×DM} {e:Int} (h:Did2 N k k' at_ D M M' l r e) (hb:at_+271≤N) (keep:List Int) :
  (r.1=e∧Aft N at_ 12 M' [] (r.2.crash keep))∨(r.1=220∧e=0∧Aft N at_ 12 M l (r.2.crash keep)∧InD N l∧l.length≤12∧M' = doM M l):=by
 rcases h.res with ⟨h1,hj⟩|⟨h1,h2,h3,h4,h5,h6⟩
 ·refine .inl ⟨h1, .inl ?_⟩
  have:=hj.crash (X38 hb) keep
  rwa [X5s] at this
 ·exact .inr ⟨h1,h2,h3 keep,h4,h5,h6⟩
theorem Y27:InD N []:=fun p hp=>by simp at hp
theorem Aft.reopen {C:DM} (h:Aft N at_ 12 M l C) (hb:at_+271≤N) (hin:InD N l) (hl:l.length≤12) :
  RecP C at_ 12 (C.recov at_ l)∧(C.recov at_ l).1=0∧(JInv N 2000 at_ 12 (C.recov at_ l).2 M∨JInv N 2000 at_ 12 (C.recov at_ l).2 (doM M l)):=by
 have hlm:(l.length:Int)≤12:=O_
 obtain ⟨a,b⟩:=h.opened (X38 hb) hin hlm
 exact ⟨Y3g h (X38 hb) hin hlm (fun _=>rfl) rfl,a,b⟩
theorem JInv.outN (h:JInv N k at_ 12 D M) {q:Nat} (hq:q < N) (ho:at_+14≤q):D.read (q:Int)=(M.getD q default,0):=h.out q hq (.inr (by have:=Xef;omega))
theorem SndM.num (m:SndM N at_ M a Q) (h:JInv N k at_ 12 D M):D.read ((at_:Int)+14)=(Vc a (a+Q.length:Nat),0):=by
 have hf:=m.fits
 have:=h.outN (q:=at_+14) O_ O_
 rw [m.head] at this
 rwa [show ((at_+14:Nat):Int)=(at_:Int)+14 by omega] at this
theorem SndM.notes (m:SndM N at_ M a Q) (h:JInv N k at_ 12 D M):X39 D at_ a Q:=fun i hi j hj=>by
 obtain ⟨s1,s2,s3⟩:=X8f (n:=a+i) hj m.fits
 rw [Xh4,h.outN s1 O_,m.slot i hi j hj]
theorem RcvM.num (m:RcvM N at_ M L) (h:JInv N k at_ 12 D M):D.read ((at_:Int)+14)=(Vc (L.length:Nat) (0:Nat),0):=by
 have hf:=m.fits
 have:=h.outN (q:=at_+14) O_ O_
 rw [m.head] at this
 rwa [show ((at_+14:Nat):Int)=(at_:Int)+14 by omega] at this
theorem RcvM.notes (m:RcvM N at_ M L) (h:JInv N k at_ 12 D M) {a:Nat} (ha:L.length≤a+64):X39 D at_ a (L.drop a):=fun i hi j hj=>by
 rw [L_] at hi
 obtain ⟨s1,s2,s3⟩:=X8f (n:=a+i) hj m.fits
 rw [Xh4,h.outN s1 O_,m.slot (a+i) O_ O_ j hj,G_,G_,List.getElem?_drop]
end
section
open Go.RowKit
variable {N k at_ a:Nat} {D:DM} {M:List Sec} {Q:List Body} {s:PSnd}
theorem Xwa (o:POut) (n:Int) (b:ByteArray) {e:Int} (h:e≠0):X83 o n b e=o:=if_neg fun c=>h c.1
theorem Xz4 (o:POut) (n:Int) {e:Int} (h:e≠0):Xah o n e=o:=if_neg fun c=>h c.1
theorem Y8i (h:JInv N k at_ 12 D.base M) (g:GoD N k D) (m:SndM N at_ M a Q) (hT:SndT s a Q) (hk:k+20000≤100000000) (n:Int) (b:ByteArray) :
  ∃M' Q' l,Did2 N k (k+5000) at_ D M M' l (D.sput N at_ (outQ a Q) n b) (s.put n b).2∧SndM N at_ M' a Q'∧SndT (s.put n b).1 a Q'∧X83 (outQ a Q) n b (s.put n b).2=outQ a Q':=by
 have hf:=m.fits
 have hl:=Vu Q
 have hsl:=hT.el
 have hsa:=hT.ea
 have e0:D.sput N at_ (outQ a Q) n b=if n < 0∨(a:Int)+((Kl Q).length:Nat) < n∨240 < b.size then (1,D) else if n < (a:Int)+((Kl Q).length:Nat) then (0,D) else if 64≤n - a then (2,D) else if h:b.size≤240 then D.applyR N at_ 12 (Ya at_ n.toNat (Zs b h) ++ [Xu at_ a (a+((Kl Q).length+1:Nat))]) else (0,D):=rfl
 have o0:∀e,X83 (outQ a Q) n b e=if e=0∧n=(a:Int)+((Kl Q).length:Nat) then X1g (outQ a Q) b else outQ a Q:=fun _=>rfl
 rw [hl] at e0
 simp only [hl] at o0
 have p0:s.put n b=if n < 0∨(a:Int)+(Q.length:Nat) < n∨240 < b.size then (s,1) else if n < (a:Int)+(Q.length:Nat) then (s,0) else if 64≤(Q.length:Int) then (s,2) else (⟨s.l ++ [b],s.a⟩,0):=by
  unfold PSnd.put
  rw [hsl,hsa,show ((a+Q.length:Nat):Int)=(a:Int)+(Q.length:Nat) by omega,show (a:Int)+(Q.length:Nat) - a=(Q.length:Nat) by omega]
 by_cases c1:n < 0∨(a:Int)+(Q.length:Nat) < n∨240 < b.size
 ·rw [if_pos c1] at e0 p0
  rw [e0,p0,o0]
  exact ⟨M,Q,[], .same h g O_ 1,m,hT,if_neg (by rintro ⟨h,-⟩;cases h)⟩
 rw [if_neg c1] at e0 p0
 by_cases c2:n < (a:Int)+(Q.length:Nat)
 ·rw [if_pos c2] at e0 p0
  rw [e0,p0,o0]
  exact ⟨M,Q,[], .same h g O_ 0,m,hT,if_neg O_⟩
 rw [if_neg c2] at e0 p0
 by_cases c3:64≤(Q.length:Int)
 ·rw [if_pos c3] at p0
  rw [if_pos (show 64≤n - a by omega)] at e0
  rw [e0,p0,o0]
  exact ⟨M,Q,[], .same h g O_ 2,m,hT,if_neg (by rintro ⟨h,-⟩;cases h)⟩
 rw [if_neg c3] at p0
 have hb:b.size≤240:=O_
 rw [if_neg (show ¬64≤n - a by omega),dif_pos hb] at e0
 have hn:n=((a+Q.length:Nat):Int):=O_
 have e1:Ya at_ n.toNat (Zs b hb) ++ [Xu at_ (a:Int) ((a:Int)+((Q.length+1:Nat):Int))]=Ya at_ (a+Q.length) (Zs b hb) ++ [Xu at_ a (a+Q.length+1:Nat)]:=by
  rw [hn,Int.toNat_natCast,show (a:Int)+((Q.length+1:Nat):Int)=((a+Q.length+1:Nat):Int) by omega]
 rw [e1] at e0
 rw [e0,p0]
 refine ⟨_,Q ++ [Zs b hb],_, .apply h g hf (X2l hf (a+Q.length) (Zs b hb) a (a+Q.length+1:Nat)) (Xep hf) (by rw [X60];omega) hk,m.put O_ (Zs b hb),⟨hsa,?_,?_⟩,?_⟩
 ·show (s.l ++ [b]).length=_
  rw [A_,hsl,A_];rfl
 ·show (s.l ++ [b]).drop a=_
  rw [List.drop_append,hT.eq,X6c,show a - s.l.length=0 by omega];rfl
 ·rw [o0,if_pos ⟨rfl,O_⟩]
  show (⟨(a:Int),(a:Int),ByteArray.empty,Kl Q ++ [b]⟩:POut)=_
  rw [←X6c Q b hb];rfl
theorem Y6x (h:JInv N k at_ 12 D.base M) (g:GoD N k D) (m:SndM N at_ M a Q) (hT:SndT s a Q) (hk:k+20000≤100000000) (n:Int) :
  ∃M' a' Q' l,Did2 N k (k+5000) at_ D M M' l (D.sack N at_ (outQ a Q) n) (s.ack n).2∧SndM N at_ M' a' Q'∧SndT (s.ack n).1 a' Q'∧Xah (outQ a Q) n (s.ack n).2=outQ a' Q':=by
 have hf:=m.fits
 have hl:=Vu Q
 have hsl:=hT.el
 have hsa:=hT.ea
 have e0:D.sack N at_ (outQ a Q) n=if n < 0∨(a:Int)+((Kl Q).length:Nat) < n then (1,D) else if n≤a then (0,D) else D.applyR N at_ 12 [Xu at_ n (a+((Kl Q).length:Nat))]:=rfl
 have o0:∀e,Xah (outQ a Q) n e=if e=0∧a < n∧n≤(a:Int)+((Kl Q).length:Nat) then ⟨n,n,ByteArray.empty,(Kl Q).drop (n - a).toNat⟩ else outQ a Q:=fun _=>rfl
 rw [hl] at e0
 simp only [hl] at o0
 have p0:s.ack n=if n < 0∨(a:Int)+(Q.length:Nat) < n then (s,1) else (⟨s.l,maxI a n⟩,0):=by
  unfold PSnd.ack
  rw [hsl,hsa,show ((a+Q.length:Nat):Int)=(a:Int)+(Q.length:Nat) by omega]
 by_cases c1:n < 0∨(a:Int)+(Q.length:Nat) < n
 ·rw [if_pos c1] at e0 p0
  rw [e0,p0,o0]
  exact ⟨M,a,Q,[], .same h g O_ 1,m,hT,if_neg (by rintro ⟨h,-⟩;cases h)⟩
 rw [if_neg c1] at e0 p0
 by_cases c2:n≤a
 ·rw [if_pos c2] at e0
  rw [e0,p0,o0,show maxI (a:Int) n=a by unfold maxI;split<;>omega]
  exact ⟨M,a,Q,[], .same h g O_ 0,m,⟨rfl,hsl,hT.eq⟩,if_neg O_⟩
 rw [if_neg c2] at e0
 obtain ⟨j,hj⟩:∃j:Nat,n=((a+j:Nat):Int):=⟨(n - a).toNat,O_⟩
 have hjq:j≤Q.length:=O_
 have e1 : [Xu at_ n ((a:Int)+(Q.length:Nat))] = [Xu at_ (a+j:Nat) (a+Q.length:Nat)]:=by
  rw [hj,show (a:Int)+((Q.length:Nat):Int)=((a+Q.length:Nat):Int) by omega]
 rw [e1] at e0
 rw [e0,p0]
 refine ⟨_,a+j,Q.drop j,_, .apply h g hf (Xdh hf (a+j:Nat) (a+Q.length:Nat)) (Xve hf) S_ hk,m.ack hjq,⟨?_,?_,?_⟩,?_⟩
 ·show maxI (a:Int) n=_
  unfold maxI;split<;>omega
 ·rw [L_]
  show s.l.length=_
  omega
 ·show s.l.drop (a+j)=_
  rw [←List.drop_drop,hT.eq,X0y]
 ·rw [o0,if_pos ⟨rfl,O_,O_⟩,show (n - (a:Int)).toNat=j by omega,←X0y,hj];rfl
end
end Go.Proofs.YtmciloafahkolaaGreatDoor
