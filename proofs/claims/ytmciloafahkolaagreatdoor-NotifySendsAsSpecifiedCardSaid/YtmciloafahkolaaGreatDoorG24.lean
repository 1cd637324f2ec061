/- Out of: Nz7, Nz8, Nz9, Oa, Ob, Od, Of, Og, Oh, Oi, Oj, Ol, Row42, Ok, Ok2, Om0. -/
import Derived.Test.YtmciloafahkolaaGreatDoorG22
namespace Go.Proofs.YtmciloafahkolaaGreatDoor
set_option maxRecDepth 100000
set_option maxHeartbeats 40000000
set_option linter.unusedSimpArgs false
set_option linter.unusedVariables false
set_option linter.unnecessarySimpa false
section
open Go.RowKit
theorem Xok (l:List PFrm) (h0:0 < l.length) (hl:l.length≤1000000):Xe Tryz.prog 75 [Xp l] [] [] (.msl 3002 0 l.length 3) [(3002,l.flatMap Yj)] []:=by
 refine Xn X6 Tryz.func75 rfl K_ (by simp [Xp,PV.ownB]) N_ (by simp [X0]) (by simp [X0]) ⟨X9 ((Xf l).2 trivial).lowI Y2,X2i,Vw, .msl _ _ _ _ (by simp [X0]),Yt (X1h (Ks l)) X2i,Vw,S_,S_⟩ ?_
 cases l with
 |nil=>cases h0
 |cons x l=>
  have hone:=X5u (x :: l)
  have hno:((x :: l).flatMap Yj).all (fun c => !c.ownB)=true:=by
   rw [X3i,List.all_map,List.all_eq_true];intro z _;rfl
  refine PW.seq ?_
  refine PW.region X6 K_ ?_
  refine wg ?_
  refine PW.region X6 K_ ?_
  refine wg ?_
  refine PW.region X6 K_ ?_
  (refine ops0 ?_)
  (refine ops0 ?_)
  refine X5.appN X6 rfl (fun _ _=>rfl) rfl rfl (.inr rfl) rfl rfl rfl rfl rfl O_ O_ h0 hone hno ?_
  refine wk ?_
  exact RetH.mk rfl (Weak.refl _) aw0 trivial
theorem Xqs (id:Nat) (l:List PFrm) (h0:0 < l.length) (hl:l.length≤1000000):Xe Tryz.prog 75 [Xp l] [] [] (.msl id 0 l.length 3) [(id,l.flatMap Yj)] []:=
 (Xok l h0 hl).at [(3002,id)] S_ (by simp [X0]) S_ S_ (RenL.low (by intro p hp;rw [List.mem_singleton] at hp;subst hp;exact (Xf l).2 trivial)) RenB.nil Kc.nil (.msl _ _ _ _ (by simp [X0])) (RenB.cons _ _ _ _ _ (RenL.low (Ks l)) RenB.nil) Kc.nil
def rGa (i o:Nat) (nx:Int) (ah:List PFrm) (l:List PFrm):List (Nat×List PV) := [(i,[pint nx,Xp ah]),(o,[ownO l])]
def rDa (v i o:Nat) (cs:List PFrm) (nx:Int) (ah l:List PFrm):List (Nat×List PV):=(v,cs.flatMap Yj) :: rGa i o nx ah l
def fnDa (i o:Nat):PV:=.fn 77 [.ptr i 0, .ptr o 0]
theorem Y02 {v i o:Nat} (cs:List PFrm) (nx:Int) (ah l:List PFrm) {S:Nat→Prop} (h1:S 1000001) (h2:S 1000002) (h3:S 1000003):RenB (renN [(1000001,v),(1000002,i),(1000003,o)]) S (rD cs nx ah l) (rDa v i o cs nx ah l):=
 RenB.cons _ _ _ _ _ (RenL.low (Ks cs)) (RenB.cons _ _ _ _ _ (.cons (.low _ (.val _)) (.cons (.low _ ((Xf ah).2 trivial)) .nil)) (RenB.cons _ _ _ _ _ (.cons (.low _ (Zt l)) .nil) RenB.nil))
theorem Y15 {v i o n m:Nat} {cs cs' : List PFrm} {nx nx' : Int} {ah l l' : List PFrm} (h:Xe Tryz.prog 76 [.msl 1000001 0 n 3,fnD] (rD cs nx ah l) [] (.msl 1000001 0 m 3) (rD cs' nx' ah l') []) (hd:([v,i,o]:List Nat).Nodup) :
  Xe Tryz.prog 76 [.msl v 0 n 3,fnDa i o] (rDa v i o cs nx ah l) [] (.msl v 0 m 3) (rDa v i o cs' nx' ah l') []:=by
 have r1:∀cs nx l,X0 (rD cs nx ah l) [] = [1000001,1000002,1000003]:=fun _ _ _=>rfl
 refine h.at [(1000001,v),(1000002,i),(1000003,o)] (by simpa using hd) (by rw [r1];simp) (by simp [rD,rG]) S_ ?_ ?_ Kc.nil ?_ ?_ Kc.nil
 ·rw [r1];exact .cons (.msl _ _ _ _ S_) (.cons (Xjg (.cons (.ptr _ _ S_) (.cons (.ptr _ _ S_) .nil))) .nil)
 ·rw [r1];exact Y02 cs nx ah l S_ S_ S_
 ·rw [r1];exact .msl _ _ _ _ S_
 ·rw [r1];exact Y02 cs' nx' ah l' S_ S_ S_
theorem Y2q (nx:Int) (ah l:List PFrm) (hl:l ≠ []):Xe Tryz.prog 89 [Xp [],fnD] (rG nx ah l) [] (pint (-1)) (rG nx ah l) []:=by
 have hl0:Low (Xp []):=(Xf _).2 trivial
 have hl1:Low (Xp ah):=(Xf _).2 trivial
 have hlow:=Zt
 have r1:X0 (rG nx ah l) [] = [1000002,1000003]:=rfl
 refine Vd X6 Tryz.func89 rfl K_ (by simp [fnD,Xp,PV.ownB]) N_ (by rw [r1];decide) (by rw [r1];decide) ⟨by rw [r1];exact X9 hl0.lowI (X9 (X95 D_ D_) Y2),X7x _ _ _,Vw, .val _,X7x _ _ _,Vw,by simp [rG],S_⟩ ?_ (Xcy _ _ hl) rfl
 refine wk ?_
 refine PW.unroll ?_
 refine wk ?_
 exact RetH.mk rfl (Weak.refl _) aw0 trivial
theorem Y84 (nx:Int) (ah l:List PFrm) (hl:l ≠ []):Xe Tryz.prog 76 [Xp [],fnD] (rG nx ah l) [] (Xp []) (rG nx ah l) []:=by
 have hl0:Low (Xp []):=(Xf _).2 trivial
 have hl1:Low (Xp ah):=(Xf _).2 trivial
 have hlow:=Zt
 have ki:=Y2q nx ah l hl
 have r1:X0 (rG nx ah l) [] = [1000002,1000003]:=rfl
 refine Vd X6 Tryz.func76 rfl K_ (by simp [fnD,Xp,PV.ownB]) N_ (by rw [r1];decide) (by rw [r1];decide) ⟨by rw [r1];exact X9 hl0.lowI (X9 (X95 D_ D_) Y2),X7x _ _ _,Vw,hl0.lowI,X7x _ _ _,Vw,by simp [rG],S_⟩ ?_ (Xcy _ _ hl) rfl
 refine wk ?_
 exact RetH.mk rfl (Weak.refl _) aw0 trivial
theorem Y2h (i o:Nat) (hd:([i,o]:List Nat).Nodup) (nx:Int) (ah l:List PFrm) (hl:l ≠ []):Xe Tryz.prog 76 [Xp [],fnDa i o] (rGa i o nx ah l) [] (Xp []) (rGa i o nx ah l) []:=by
 have hl0:Low (Xp []):=(Xf _).2 trivial
 have r1:X0 (rG nx ah l) [] = [1000002,1000003]:=rfl
 have hR:RenB (renN [(1000002,i),(1000003,o)]) (fun x=>x ∈ [1000002,1000003]) (rG nx ah l) (rGa i o nx ah l):=RenB.cons _ _ _ _ _ (.cons (.low _ (.val _)) (.cons (.low _ ((Xf ah).2 trivial)) .nil)) (RenB.cons _ _ _ _ _ (.cons (.low _ (Zt l)) .nil) RenB.nil)
 refine (Y84 nx ah l hl).at [(1000002,i),(1000003,o)] (by simpa using hd) (by rw [r1];simp) (by simp [rG]) S_ ?_ ?_ Kc.nil ?_ ?_ Kc.nil
 ·rw [r1];exact .cons (.low _ hl0) (.cons (Xjg (.cons (.ptr _ _ S_) (.cons (.ptr _ _ S_) .nil))) .nil)
 ·rw [r1];exact hR
 ·rw [r1];exact .low _ hl0
 ·rw [r1];exact hR
def seqL:Int→List PFrm→Nat
 |_,[]=>0
 |n,x :: l=>if x.seq=n then seqL (n+1) l+1 else 0
theorem X4e:∀(n:Int) (l:List PFrm),seqL n l≤l.length
 |_,[]=>Nat.le_refl _
 |n,x :: l=>by
  unfold seqL
  split
  ·have:=X4e (n+1) l;simp only [C_];omega
  ·omega
theorem Xh7:∀(n:Int) (l:List PFrm),∀x,x < seqL n l→(l.getD x default).seq=n+x
 |_,[],x,h=>by simp [seqL] at h
 |n,y :: l,x,h=>by
  unfold seqL at h
  split at h
  ·rename_i e
   cases x with
   |zero=>simpa using e
   |succ x=>
    have:=Xh7 (n+1) l x O_
    simp only [List.getD_cons_succ]
    rw [this];omega
  ·omega
theorem Xgz:∀(n:Int) (l:List PFrm),(∀x,x < l.length→n≤(l.getD x default).seq)→(∀x y,x < y→y < l.length→(l.getD x default).seq < (l.getD y default).seq)→∀x,seqL n l≤x→x < l.length→n+seqL n l < (l.getD x default).seq
 |_,[],_,_,x,_,h=>by simp at h
 |n,y :: l,h1,h2,x,h3,h4=>by
  have h0:n≤y.seq:=h1 0 S_
  have hs:∀q,q < l.length→y.seq < (l.getD q default).seq:=fun q hq=>h2 0 (q+1) O_ (by simpa using hq)
  by_cases e:y.seq=n
  ·have er:seqL n (y :: l)=seqL (n+1) l+1:=by rw [seqL,if_pos e]
   rw [er] at h3 ⊢
   cases x with
   |zero=>omega
   |succ x=>
    have:=Xgz (n+1) l (fun q hq=>by have:=hs q hq;omega) (fun a b hab hb=>h2 (a+1) (b+1) O_ (by simpa using hb)) x O_ (by simpa using h4)
    simp only [List.getD_cons_succ];omega
  ·have er:seqL n (y :: l)=0:=by rw [seqL,if_neg e]
   rw [er]
   cases x with
   |zero=>simp;omega
   |succ x=>
    have:=hs x (by simpa using h4)
    simp only [List.getD_cons_succ];omega
def Xdx (i:PIn) (f:PFrm):PIn:=⟨f.seq+1+seqL (f.seq+1) i.ahead,i.ahead.drop (seqL (f.seq+1) i.ahead)⟩
def delI (i:PIn) (f:PFrm):List PFrm:=f :: i.ahead.take (seqL (f.seq+1) i.ahead)
theorem Xz0 (i:PIn) (f:PFrm) (h:InOK i) (hs:f.sum=false) (hb:f.body.size≤65536) (heq:f.seq=i.next):Xs Tryz.prog 50 [pinb i,pfrm f] (· = .tup [pinb (Xdx i f),Xp (delI i f),pint 0]):=by
 have hlo:=X1e i
 have hlf:=Yw f
 have hl1:Low (Xp i.ahead):=(Xf _).2 trivial
 have kV:=X5x i h
 have kw:=X1i f.seq 1099511627776
 have hn:=h.n
 rw [decide_eq_true (show 0≤f.seq by omega),decide_eq_true (show f.seq≤1099511627776 by omega)] at kw
 have kb:=X2g f.body O_
 rw [decide_eq_true hb] at kb
 have kS:=X8s i.ahead f.seq (by have:=h.l;omega) O_ (fun x hx=>by have:=h.r x hx;have:=(h.s x hx).2.1;omega) h.m
 have hl64:=h.l
 generalize posF i.ahead f.seq=p at kS
 generalize X89 i.ahead f.seq=fd at kS
 have hm:=X4e (f.seq+1) i.ahead
 have q1:=Xh7 (f.seq+1) i.ahead
 have q2:=Xgz (f.seq+1) i.ahead (fun x hx=>by have:=h.r x hx;omega) h.m
 unfold Xdx delI
 generalize seqL (f.seq+1) i.ahead=m at hm q1 q2 ⊢
 clear h
 obtain ⟨fs,fq,fb⟩:=f
 obtain ⟨ne,ah⟩:=i
 simp only at hs hb hn hlo hlf hl1 kV kw kb kS hl64 heq hm q1 q2 ⊢
 subst hs heq
 have hlr:∀i:PIn,∀l,Low (.tup [pinb i,Xp l,pint 0]):=fun i l=>Xfi i ((Xf l).2 trivial)
 have hlow:=Zt
 have hnr:¬fq < fq:=O_
 have h00:(fq == fq)=true:=S_
 refine Xd X6 Tryz.func50 rfl K_ (by simp [Xo,Xx,Y0,Xy,Xw,Xb,X0j,Kv]) (by simp [pint,Kd,pstr,Y1,Xr,Yp,PV.ownB,pinb,pfrm]) (by rw [Tryz.ntmps50];simp) ?_
 rw [Tryz.ntmps50,Tryz.results50]
 cases ah with
 |nil=>
  have kC:Xs Tryz.prog 75 [Xp []] (· = Xp []):=Xjp
  have kD:=Y2h 0 11002 D_ (fq+1) [] [⟨false,fq,fb⟩] S_
  have hm0:m=0:=by simpa using hm
  subst hm0
  have u:=fun _:Unit=>kD
  clear kD
  refine wk ?_
  have kD:=u ()
  refine wg ?_
  have l1:Low (Xp [⟨false,fq,fb⟩]):=(Xf _).2 trivial
  refine PW.weakB (id:=11002) [Xp [⟨false,fq,fb⟩]] rfl (.cons ⟨fun _ _ _ h=>h.bare,fun h=>by cases h⟩ .nil) ?_
  refine PW.sub (σ':=(((((bot.setb 0 [pint (fq+1),Xp []]).setb 2 [pint 0, .nilsl]).setb 11002 [Xp [⟨false,fq,fb⟩]]).put 2 (.ptr 0 0)).put 4 (.ptr 2 0)).put 9 (.ptr 11002 0)) ?_ (by exact sb)
  refine PW.drawE X6 K_ K_ K_ ?_
  refine wk ?_
  rw [show fq+1+((0:Nat):Int)=fq+1 from Int.add_zero _]
  exact retP (r:=.tup [pinb ⟨fq+1,[]⟩,Xp [⟨false,fq,fb⟩],pint 0]) rfl (hlr _ _) rfl
 |cons x l=>
  have kC:=Xqs 900001 (x :: l) S_ O_
  have kD:Xe Tryz.prog 76 [.msl 900001 0 (x :: l).length 3,fnDa 0 11002] (rDa 900001 0 11002 (x :: l) (fq+1) (x :: l) [⟨false,fq,fb⟩]) [] (.msl 900001 0 ((x :: l).length - m) 3) (rDa 900001 0 11002 ((x :: l).drop m ++ List.replicate m default) (fq+1+m) (x :: l) (⟨false,fq,fb⟩ :: (x :: l).take m)) []:=by
   rcases Nat.eq_zero_or_pos m with rfl|h0
   ·have:=Y15 (Y8k (x :: l) (x :: l).length rfl (fq+1) (x :: l) [⟨false,fq,fb⟩] S_ O_ (fun y hy=>by have:=q2 y (Nat.zero_le _) hy;omega)) (v:=900001) (i:=0) (o:=11002) D_
    rw [Nat.sub_zero,List.drop_zero,List.replicate_zero,List.append_nil,List.take_zero,show fq+1+((0:Nat):Int)=fq+1 from Int.add_zero _]
    exact this
   ·exact Y15 (Y75 (x :: l) (x :: l).length m rfl h0 hm (fq+1) O_ (x :: l) [⟨false,fq,fb⟩] S_ O_ S_ q1 q2) (v:=900001) (i:=0) (o:=11002) D_
  clear q1 q2
  have l1:Low (Xp (⟨false,fq,fb⟩ :: (x :: l).take m)):=(Xf _).2 trivial
  have l2:Low (Xp ((x :: l).drop m)):=(Xf _).2 trivial
  have l3:=Ks ((x :: l).drop m)
  have hdl:((x :: l).drop m).length=(x :: l).length - m:=L_
  have hfl:=K3 ((x :: l).drop m)
  generalize hA:(x :: l).drop m=A at *
  generalize hB:(x :: l).take m=B at *
  generalize hL:(x :: l)=L at *
  have u:=fun _:Unit=>kD
  clear kD
  refine wk ?_
  have kD:=u ()
  refine wg ?_
  refine PW.weakB (id:=11002) [Xp (⟨false,fq,fb⟩ :: B)] rfl (.cons ⟨fun _ _ _ h=>h.bare,fun h=>by cases h⟩ .nil) ?_
  refine PW.boxTakeF (id:=900001) (cs:=A.flatMap Yj) rfl List.flatMap_append ?_
  refine PW.freezeB (id:=900001) (i0:=0) (j:=1) (n:=L.length - m) (k:=3) (cs:=A.flatMap Yj) (σ':=(((((bot.setb 0 [pint (fq+1+m), .undef]).setb 2 [pint 0, .nilsl]).setb 11002 [Xp (⟨false,fq,fb⟩ :: B)]).put 2 (.ptr 0 0)).put 4 (.ptr 2 0)).put 9 (.ptr 11002 0)) rfl rfl rfl (by rw [hfl,hdl]) l3 ?_ rfl rfl ?_
  ·have l4:Low .undef:=.undef
   exact sbr0
  ·rw [←hdl]
   refine PW.sub (σ':=(((((bot.setb 0 [pint (fq+1+m),Xp A]).setb 2 [pint 0, .nilsl]).setb 11002 [Xp (⟨false,fq,fb⟩ :: B)]).put 2 (.ptr 0 0)).put 4 (.ptr 2 0)).put 9 (.ptr 11002 0)) ?_ (by exact sb)
   refine PW.drawE X6 K_ K_ K_ ?_
   refine wk ?_
   exact retP (r:=.tup [pinb ⟨fq+1+m,A⟩,Xp (⟨false,fq,fb⟩ :: B),pint 0]) rfl (hlr _ _) rfl
theorem X38 {N at_:Nat} (h:at_+271≤N):Vs N at_ 12=true:=by
 unfold Vs
 rw [decide_eq_true_eq,Xef]
 omega
theorem GoD.applyN {N k at_:Nat} {D:DM} {l:List PPut} (hg:GoD N k D) (hb:at_+271≤N) (he:jApE N at_ 12 l=0) (hk:k+20000≤100000000):GoD N (k+5000) (D.applyR N at_ 12 l).2:=by
 obtain ⟨m0,m1,h0,hN,hr,hrn,hat⟩:=Kh (X38 hb)
 obtain ⟨e1,e2⟩:=Zn he
 by_cases hl0:0 < l.length
 ·have e:D.applyR N at_ 12 l=D.run (K8 at_ 12 l):=by rw [DM.applyR,if_pos he,if_pos hl0]
  rw [e]
  obtain ⟨al,ai⟩:=X2c l h0 m0 m1 hN e1
  have hnb:Xg l.length≤64∧0≤Xg l.length:=by unfold Xg;omega
  have hai:InD N (K0 at_ 12 l):=fun p hp=>by have:=ai p hp;omega
  have hin:InD N l:=fun p hp=>by have:=e2 p hp;omega
  have hlen:(K8 at_ 12 l).length≤5000:=by rw [K8,A_,V8,V8];omega
  have hio:∀o∈K8 at_ 12 l,o.inD N:=fun o ho=>by
   rcases List.mem_append.1 ho with ho|ho
   ·exact Zv h0 hat hai _ o ho
   ·exact Zv h0 hat hin _ o ho
  exact (GoD.run (K8 at_ 12 l) hg hio O_).1.mono O_
 ·have hl:l = []:=List.eq_nil_of_length_eq_zero O_
  subst hl
  have e:D.applyR N at_ 12 []=(0,D):=by rw [DM.applyR,if_pos he,if_neg S_]
  rw [e]
  exact hg.mono O_
def bodF (s:ByteArray):Body:=if h:s.size≤240 then Zs s h else default
def rcvP (at_:Nat) (x:PFrm):List PPut:=Ya at_ x.seq.toNat (bodF x.body) ++ [Xu at_ (x.seq+1) 0]
def DM.rtake (D:DM) (N at_:Nat):List PFrm→Int×DM
 | []=>(0,D)
 |x :: l=>if (D.applyR N at_ 12 (rcvP at_ x)).1=0 then DM.rtake (D.applyR N at_ 12 (rcvP at_ x)).2 N at_ l else D.applyR N at_ 12 (rcvP at_ x)
theorem X5k (N at_:Nat):∀(a b:List PFrm) (D:DM),D.rtake N at_ (a ++ b)=if (D.rtake N at_ a).1=0 then (D.rtake N at_ a).2.rtake N at_ b else D.rtake N at_ a
 | [],b,D=>by rw [List.nil_append,DM.rtake,if_pos rfl]
 |x :: a,b,D=>by
  rw [List.cons_append,DM.rtake,DM.rtake]
  by_cases h:(D.applyR N at_ 12 (rcvP at_ x)).1=0
  ·rw [if_pos h,if_pos h,X5k N at_ a b]
  ·rw [if_neg h,if_neg h,if_neg h]
theorem Xut (N at_:Nat) (x:PFrm) (D:DM):D.rtake N at_ [x]=D.applyR N at_ 12 (rcvP at_ x):=by
 rw [DM.rtake]
 split
 ·rename_i h
  rw [DM.rtake]
  exact Prod.ext h.symm rfl
 ·rfl
theorem Xq7 {N at_:Nat} {l:List PFrm} {D:DM} {k:Nat} (hk:k < l.length) (h:(D.rtake N at_ (l.take k)).1=0):D.rtake N at_ (l.take (k+1))=(D.rtake N at_ (l.take k)).2.applyR N at_ 12 (rcvP at_ (l.getD k default)):=by
 rw [X68 l hk,X5k,if_pos h,Xut]
theorem Xoc {N at_:Nat} {l:List PFrm} {D:DM} {k:Nat} (hk:k < l.length) (h:(D.rtake N at_ (l.take (k+1))).1≠0):D.rtake N at_ l=D.rtake N at_ (l.take (k+1)):=by
 have e:l=l.take (k+1) ++ l.drop (k+1):=(List.take_append_drop _ _).symm
 conv=>lhs;rw [e]
 rw [X5k,if_neg h]
theorem Y1a {k n:Nat} (h:k+5000 * (n+1)+20000≤100000000):k+5000+5000 * n≤k+5000 * (n+1)∧k+5000≤k+5000 * (n+1)∧k+20000≤100000000∧k+5000+5000 * n+20000≤100000000:=O_
theorem GoD.rtake {N at_:Nat} (hb:at_+271≤N):∀(l:List PFrm) {k:Nat} {D:DM},GoD N k D→k+5000 * l.length+20000≤100000000→GoD N (k+5000 * l.length) (D.rtake N at_ l).2
 | [],k,D,h,_=>by rw [DM.rtake];exact h
 |x :: l,k,D,h,hk=>by
  simp only [C_] at hk
  obtain ⟨e1,e2,e3,e4⟩:=Y1a hk
  have h1:=h.applyN (l:=rcvP at_ x) hb (X2l hb _ _ _ _) e3
  rw [DM.rtake,C_]
  split
  ·exact (GoD.rtake hb l h1 e4).mono e1
  ·exact h1.mono e2
theorem Xw8 (i:PIn) (f:PFrm) (h:InOK i) (h0:f.seq < 0∨1099511627776 < f.seq) (hq : -9223372036854775808≤f.seq∧f.seq≤9223372036854775807):Xs Tryz.prog 50 [pinb i,pfrm f] (· = .tup [pinb i, .nilsl,pint 1]):=by
 have hlo:=X1e i
 have hlf:=Yw f
 have hl1:Low (Xp i.ahead):=(Xf _).2 trivial
 have kV:=X5x i h
 have kw:=X1i f.seq 1099511627776
 rw [show (decide (0≤f.seq) && decide (f.seq≤1099511627776))=false by rcases h0 with h0|h0<;>simp<;>omega] at kw
 clear h
 obtain ⟨fs,fq,fb⟩:=f
 obtain ⟨ne,ah⟩:=i
 simp only at h0 hlo hlf hl1 kV kw
 have hlr:Low (.tup [pinb ⟨ne,ah⟩, .nilsl,pint 1]):=.tup _ (by
  intro c hc
  simp only [List.mem_cons,List.not_mem_nil,or_false] at hc
  rcases hc with rfl|rfl|rfl
  ·exact (X0j _).2 trivial
  ·exact .nilsl
  ·exact .val _)
 refine Xd X6 Tryz.func50 rfl K_ (by simp [Xo,Xx,Y0,Xy,Xw,Xb,X0j,Kv]) (by simp [pint,Kd,pstr,Y1,Xr,Yp,PV.ownB,pinb,pfrm]) (by rw [Tryz.ntmps50];simp) ?_
 rw [Tryz.ntmps50,Tryz.results50]
 refine wk ?_
 exact retP (r:=.tup [pinb ⟨ne,ah⟩, .nilsl,pint 1]) rfl hlr rfl
theorem Xt0 (D:DM) (at_:Int) (i:PIn) (f:PFrm) (h:f.sum=true∨240 < f.body.size) (hb:f.body.size≤1000000000):Xe Tryz.prog 24 [.ptr 1000005 0,pfrm f] (rvG 1000005 1000001 1000002 1000003 1000004 at_ i D) (dMs 1000003 D) (.tup [Xr [],pint 1]) (rvG 1000005 1000001 1000002 1000003 1000004 at_ i D) (dMs 1000003 D):=by
 have hlf:=Yw f
 refine X2u Tryz.func24 rfl rfl (X9 (.ptr _ _ D_) (X9 ((Kv f).2 trivial).lowI Y2)) (by simp [pfrm,PV.ownB]) N_ (Km.2 (by simp [Xo,Xb])).lowI ?_
 obtain ⟨fs,fq,fb⟩:=f
 simp only at h hb hlf
 cases fs with
 |true=>
  refine wk ?_
  exact RetH.mk (r':=.tup [.nilsl,pint 1]) rfl (.tup (.cons (.nil 1) (.cons (.refl _) .nil))) aw0 am0
 |false=>
  have h2:240 < fb.size:=by rcases h with h|h;cases h;exact h
  refine wk ?_
  exact RetH.mk (r':=.tup [.nilsl,pint 1]) rfl (.tup (.cons (.nil 1) (.cons (.refl _) .nil))) aw0 am0
theorem Xqy (D:DM) (at_:Int) (i:PIn) (hi:InOK i) (f:PFrm) (h:f.sum=false) (hb:f.body.size≤240) (h0:f.seq < 0∨1099511627776 < f.seq) (hq : -9223372036854775808≤f.seq∧f.seq≤9223372036854775807):Xe Tryz.prog 24 [.ptr 1000005 0,pfrm f] (rvG 1000005 1000001 1000002 1000003 1000004 at_ i D) (dMs 1000003 D) (.tup [Xr [],pint 1]) (rvG 1000005 1000001 1000002 1000003 1000004 at_ i D) (dMs 1000003 D):=by
 have hlf:=Yw f
 have hl1:Low (Xp i.ahead):=(Xf _).2 trivial
 have kR:=Xw8 i f hi h0 hq
 refine X2u Tryz.func24 rfl rfl (X9 (.ptr _ _ D_) (X9 ((Kv f).2 trivial).lowI Y2)) (by simp [pfrm,PV.ownB]) N_ (Km.2 (by simp [Xo,Xb])).lowI ?_
 clear hi
 obtain ⟨fs,fq,fb⟩:=f
 obtain ⟨ne,ah⟩:=i
 simp only at h hb hlf h0 hq hl1
 subst h
 refine wk ?_
 exact RetH.mk (r':=.tup [.nilsl,pint 1]) rfl (.tup (.cons (.nil 1) (.cons (.refl _) .nil))) aw0 am0
theorem Xij (D:DM) (at_:Int) (i i' : PIn) (f:PFrm) (h:f.sum=false) (hb:f.body.size≤240) (kR:Xs Tryz.prog 50 [pinb i,pfrm f] (· = .tup [pinb i', .nilsl,pint 0])):Xe Tryz.prog 24 [.ptr 1000005 0,pfrm f] (rvG 1000005 1000001 1000002 1000003 1000004 at_ i D) (dMs 1000003 D) (.tup [Xr [],pint 0]) (rvG 1000005 1000001 1000002 1000003 1000004 at_ i' D) (dMs 1000003 D):=by
 have hlf:=Yw f
 have hl1:Low (Xp i.ahead):=(Xf _).2 trivial
 have hl2:Low (Xp i'.ahead):=(Xf _).2 trivial
 refine X2u Tryz.func24 rfl rfl (X9 (.ptr _ _ D_) (X9 ((Kv f).2 trivial).lowI Y2)) (by simp [pfrm,PV.ownB]) N_ (Km.2 (by simp [Xo,Xb])).lowI ?_
 obtain ⟨fs,fq,fb⟩:=f
 obtain ⟨ne,ah⟩:=i
 obtain ⟨ne',ah'⟩:=i'
 simp only at h hb hlf hl1 hl2
 subst h
 refine wk ?_
 refine PW.unroll ?_
 refine wk ?_
 exact RetH.mk (r':=.tup [.nilsl,pint 0]) rfl (.tup (.cons (.nil 1) (.cons (.refl _) .nil))) aw0 am0
def Kg (l:List PFrm):List ByteArray:=l.map PFrm.body
def delE (e:Int) (l:List PFrm):List PFrm:=if e=0 then l else []
def Y7v (l:List PFrm):Prop:=l.length≤100∧∀k,k < l.length→(0≤(l.getD k default).seq∧(l.getD k default).seq≤999999999)∧(l.getD k default).body.size≤240
def inIf (e:Int) (i' i:PIn):PIn:=if e=0 then i' else i
theorem Xw1 {N k0:Nat} {D:DM} (h:GoD N k0 D) (at_:Nat) (ha:at_≤1000000000) (hN:at_+271≤N) (hNN:N≤100000000) (hk0:k0+600000≤100000000) (i i' : PIn) (f:PFrm) (hs:f.sum=false) (hb:f.body.size≤240) (l:List PFrm) (hl:Y7v l) (kR:Xs Tryz.prog 50 [pinb i,pfrm f] (· = .tup [pinb i',Xp l,pint 0])) :
  Xe Tryz.prog 24 [.ptr 1000005 0,pfrm f] (rvG 1000005 1000001 1000002 1000003 1000004 at_ i D) (dMs 1000003 D) (.tup [Xr (Kg (delE (D.rtake N at_ l).1 l)),pint (D.rtake N at_ l).1]) (rvG 1000005 1000001 1000002 1000003 1000004 at_ (inIf (D.rtake N at_ l).1 i' i) (D.rtake N at_ l).2) (dMs 1000003 (D.rtake N at_ l).2):=by
 have hlf:=Yw f
 have hl1:Low (Xp i.ahead):=(Xf _).2 trivial
 have hl2:Low (Xp i'.ahead):=(Xf _).2 trivial
 have hl3:Low (Xp l):=(Xf _).2 trivial
 have hlow:=Xfx (Kg l)
 have hdc:=Xm
 refine X2u Tryz.func24 rfl rfl (X9 (.ptr _ _ D_) (X9 ((Kv f).2 trivial).lowI Y2)) (by simp [pfrm,PV.ownB]) N_ (Km.2 (by simp [Xo,Xb])).lowI ?_
 obtain ⟨fs,fq,fb⟩:=f
 obtain ⟨ne,ah⟩:=i
 obtain ⟨ne',ah'⟩:=i'
 simp only at hs hb hlf hl1 hl2
 subst hs
 have hll:=hl.1
 have fl:=K3 l
 have c1:=hdc D
 have c2:=Xi D
 have u:=fun _:Unit=>And.intro h (And.intro hl hk0)
 clear h hl hk0
 refine wk ?_
 refine PW.loop (fun k:Nat=>((((((((((((bot.setb 1000005 (rvC 1000001 1000004 at_ ⟨ne,ah⟩)).setb 1000004 (jB 1000001 at_ 12)).setb 1000001 (dB 1000002 1000003 (D.rtake N at_ (l.take k)).2)).setb 1000002 (dC (D.rtake N at_ (l.take k)).2)).setm 1000003 (dM (D.rtake N at_ (l.take k)).2)).setb 3010 [pint ne',Xp ah']).put 0 (.ptr 1000005 0)).put 6 (.ptr 3010 0)).put 9 (strA (Kg l) k)).put 34 (Xp l)).put 35 (pint l.length)).put 36 (pint k))) (fun k=>k≤l.length∧(D.rtake N at_ (l.take k)).1=0) (fun k=>l.length - k) 0 ⟨Nat.zero_le _,rfl⟩ ?_ ?_
 ·rw [List.take_zero,show D.rtake N at_ []=(0,D) from rfl]
  exact sb
 ·rintro k ⟨hk,hT⟩
  by_cases hlt:k < l.length
  ·obtain ⟨hgo,hde,hk0⟩:=u ()
   have hlk:(l.take k).length=k:=by rw [T_];omega
   have hgk:=GoD.rtake hN (l.take k) hgo (by rw [hlk];omega)
   rw [hlk] at hgk
   have hsu:=Xq7 (N:=N) (at_:=at_) hlt hT
   have hst:=Xoc (N:=N) (at_:=at_) (D:=D) hlt
   rw [hsu] at hst
   obtain ⟨⟨q1,q2⟩,q3⟩:=hde.2 k hlt
   have hg:(Kg l)[k]? = some (l.getD k default).body:=by simp [Kg,G_,hlt]
   have e6:=Xc8 hg
   have q4:=hlow (k+1)
   rw [e6] at q4
   clear hg hgo hde u
   generalize hE:(D.rtake N at_ (l.take k)).2=E at *
   obtain ⟨n,hn⟩:∃n:Nat,(l.getD k default).seq=(n:Int):=⟨(l.getD k default).seq.toNat,O_⟩
   have kN:=Xjq E at_ n (l.getD k default).body ha O_ q3 1000001 1000002 1000003 1000004 D_
   have kS:=Y0p hgk at_ ha hN hNN O_ ((n:Int)+1) 0 (Ya at_ n (Zs (l.getD k default).body q3)) (by simp [Ya]) 1000001 1000002 1000003 1000004 D_
   have eR:rcvP at_ (l.getD k default)=Ya at_ n (Zs (l.getD k default).body q3) ++ [Xu at_ ((n:Int)+1) 0]:=by
    rw [rcvP,hn,Int.toNat_natCast,bodF,dif_pos q3]
   rw [eR] at hsu hst
   have c1:=hdc E
   have c2:=Xi E
   have c3:=hdc (E.applyR N at_ 12 (Ya at_ n (Zs (l.getD k default).body q3) ++ [Xu at_ ((n:Int)+1) 0])).2
   have c4:=Xi (E.applyR N at_ 12 (Ya at_ n (Zs (l.getD k default).body q3) ++ [Xu at_ ((n:Int)+1) 0])).2
   clear eR hgk
   generalize E.applyR N at_ 12 (Ya at_ n (Zs (l.getD k default).body q3) ++ [Xu at_ ((n:Int)+1) 0])=R at *
   generalize Ya at_ n (Zs (l.getD k default).body q3)=L at *
   have hLl:=X4c L
   rw [←hn] at kN kS
   unfold ppO at kN kS hLl
   refine wk ?_
   refine X5.callOM rfl rfl rfl rfl rfl D_ rfl (by rfl) kS (by (first|exact trivial|(refine ⟨⟨rfl,rfl⟩,?_⟩;first|exact trivial|(refine ⟨⟨rfl,rfl⟩,?_⟩;first|exact trivial|(refine ⟨⟨rfl,rfl⟩,?_⟩;first|exact trivial|(refine ⟨⟨rfl,rfl⟩,?_⟩;first|exact trivial|(refine ⟨⟨rfl,rfl⟩,?_⟩;first|exact trivial|(refine ⟨⟨rfl,rfl⟩,?_⟩;first|exact trivial|(refine ⟨⟨rfl,rfl⟩,?_⟩;first|exact trivial|(refine ⟨⟨rfl,rfl⟩,?_⟩;first|exact trivial|fail)))))))))) (by (first|exact trivial|(refine ⟨⟨rfl,rfl⟩,?_⟩;first|exact trivial|(refine ⟨⟨rfl,rfl⟩,?_⟩;first|exact trivial|(refine ⟨⟨rfl,rfl⟩,?_⟩;first|exact trivial|(refine ⟨⟨rfl,rfl⟩,?_⟩;first|exact trivial|(refine ⟨⟨rfl,rfl⟩,?_⟩;first|exact trivial|(refine ⟨⟨rfl,rfl⟩,?_⟩;first|exact trivial|(refine ⟨⟨rfl,rfl⟩,?_⟩;first|exact trivial|(refine ⟨⟨rfl,rfl⟩,?_⟩;first|exact trivial|fail)))))))))) rfl rfl ?_
   clear kS kN
   obtain ⟨e,D'⟩:=R
   simp only at hsu hst c3 c4
   by_cases he:e=0
   ·subst he
    have hD' : (D.rtake N at_ (l.take (k+1))).2=D':=by rw [hsu]
    have hT' : (D.rtake N at_ (l.take (k+1))).1=0:=by rw [hsu]
    clear hst hsu hE c1 c2
    rcases k with _|k
    ·refine wk ?_
     refine Y4 1 ⟨O_,hT'⟩ O_ ?_
     try dsimp only
     rw [e6,hD']
     exact sb
    ·refine wk ?_
     refine Y4 (k+2) ⟨O_,hT'⟩ O_ ?_
     try dsimp only
     rw [e6,hD']
     exact sb
   ·rw [hst he]
    rw [show delE (e,D').1 l = [] from if_neg he,show inIf (e,D').1 (⟨ne',ah'⟩:PIn) ⟨ne,ah⟩=⟨ne,ah⟩ from if_neg he]
    clear hst hsu hE c1 c2 hT
    refine wk ?_
    exact RetH.mk (r':=.tup [.nilsl,pint e]) rfl (.tup (.cons (.nil 1) (.cons (.refl _) .nil))) aw0 am0
  ·obtain rfl:k=l.length:=O_
   rw [List.take_length] at hT
   rw [List.take_length]
   have hbl:(Kg l).length=l.length:=by simp [Kg]
   generalize hR:D.rtake N at_ l=R at *
   obtain ⟨e,D'⟩:=R
   simp only at hT
   subst hT
   rw [show delE ((0:Int),D').1 l=l from if_pos rfl,show inIf ((0:Int),D').1 (⟨ne',ah'⟩:PIn) ⟨ne,ah⟩=⟨ne',ah'⟩ from if_pos rfl]
   clear u hR
   have c1:=hdc D'
   have c2:=Xi D'
   rcases l with _|⟨x,l⟩
   ·refine wk ?_
    exact RetH.mk (r':=.tup [.nilsl,pint 0]) rfl (.tup (.cons (.nil 1) (.cons (.refl _) .nil))) aw0 am0
   ·have e5:Xr (Kg (x :: l)) = .sl (l.length+1) 1 (((Kg (x :: l)).take (l.length+1)).map pstr) none:=by
     rw [H_ (by simp [Kg])];simp [Xr,Kg]
    rw [e5]
    refine wk ?_
    exact RetH.mk rfl (Weak.refl _) aw0 am0
theorem Y3y (a b:ByteArray):(a == b)=decide (a=b):=by
 rw [Xcv]
 by_cases h:a=b
 ·subst h;simp
 ·rw [decide_eq_false h]
  simp only [beq_eq_false_iff_ne,ne_eq]
  intro e
  exact h (by cases a;cases b;cases e;rfl)
instance:DecidableEq PFrm:=fun x y=>decidable_of_iff (x.sum=y.sum∧x.seq=y.seq∧x.body=y.body) (by cases x;cases y;simp)
theorem Y36 (x y:PFrm):peqs [.bool, .int, .str] (Yj x) (Yj y)=some (decide (x=y)):=by
 obtain ⟨a,b,c⟩:=x
 obtain ⟨d,e,f⟩:=y
 show (match veq .bool (.bool a) (.bool d),(match veq .int (.int .i64 b) (.int .i64 e),(match veq .str (.string c) (.string f),some true with|some r,some s=>some (r && s)|_,_=>none) with|some r,some s=>some (r && s)|_,_=>none) with|some r,some s=>some (r && s)|_,_=>none)=_
 simp only [veq,if_true]
 congr 1
 by_cases e1:a=d<;>by_cases e2:b=e<;>by_cases e3:c=f<;>simp [e1,e2,e3,Y3y]
theorem Xqq {a b:List PFrm} {k:Nat} (ha:k < a.length) (hb:k < b.length) (h:a.take k=b.take k) (e:a.getD k default=b.getD k default):a.take (k+1)=b.take (k+1):=by
 rw [List.take_add_one,List.take_add_one,h,X78 ha,X78 hb,e]
theorem Kp (a b:List PFrm) (h1:a.length≤1000000000) (h2:b.length≤1000000000):Xs Tryz.prog 19 [Xp a,Xp b] (· = Y1 (decide (a=b))):=by
 have hl1:Low (Xp a):=(Xf _).2 trivial
 have hl2:Low (Xp b):=(Xf _).2 trivial
 refine Xd X6 Tryz.func19 rfl K_ (by simp [Xo,Xx,Y0,Xy,Xw,Xb,Xf]) (by simp [pint,Kd,pstr,Y1,Xr,Yp,PV.ownB,Xp]) (by rw [Tryz.ntmps19];simp) ?_
 rw [Tryz.ntmps19,Tryz.results19]
 have f1:=K3 a
 have f2:=K3 b
 by_cases hlen:a.length=b.length
 ·refine wk ?_
  refine PW.loop (fun k:Nat=>(((bot.put 0 (Xp a)).put 1 (Xp b)).put 5 (pint k))) (fun k=>k≤a.length∧a.take k=b.take k) (fun k=>a.length - k) 0 ⟨O_,S_⟩ ?_ ?_
  ·exact sb
  ·rintro k ⟨hk,heq⟩
   by_cases hlt:k < a.length
   ·have hu:=fun _:Unit=>heq
    clear heq
    have he:=Y36 (a.getD k default) (b.getD k default)
    refine wk ?_
    by_cases hxy:a.getD k default=b.getD k default
    ·rw [decide_eq_true hxy] at he
     refine X5.eqA rfl rfl rfl rfl rfl rfl rfl rfl he (.inr rfl) ?_
     clear he
     refine wk ?_
     refine Y4 (k+1) ⟨O_,Xqq hlt O_ (hu ()) hxy⟩ O_ ?_
     exact sb
    ·rw [decide_eq_false hxy] at he
     refine X5.eqA rfl rfl rfl rfl rfl rfl rfl rfl he (.inr rfl) ?_
     clear he
     refine wk ?_
     refine retP rfl (by exact lw) ?_
     have:a≠b:=by rintro rfl;exact hxy rfl
     simp [Y1,this]
   ·refine wk ?_
    refine retP rfl (by exact lw) ?_
    have:a=b:=by rw [H_ O_,H_ O_] at heq;exact heq
    simp [Y1,this]
 ·refine wk ?_
  refine retP rfl (by exact lw) ?_
  have:a≠b:=by rintro rfl;exact hlen rfl
  simp [Y1,this]
theorem Xty {l:List ByteArray} {k:Nat} (h:k < l.length):l[k]? = some (l.getD k default):=by
 rw [G_,E_ h];rfl
theorem Xt1 {a b:List ByteArray} {k:Nat} (ha:k < a.length) (hb:k < b.length) (h:a.take k=b.take k) (e:a.getD k default=b.getD k default):a.take (k+1)=b.take (k+1):=by
 rw [List.take_add_one,List.take_add_one,h,Xty ha,Xty hb,e]
theorem X2h (a b:List ByteArray) (h1:a.length≤1000000000) (h2:b.length≤1000000000):Xs Tryz.prog 27 [Xr a,Xr b] (· = Y1 (decide (a=b))):=by
 have hl1:Low (Xr a):=(Xb _).2 trivial
 have hl2:Low (Xr b):=(Xb _).2 trivial
 refine Xd X6 Tryz.func27 rfl K_ (by simp [Xo,Xx,Y0,Xy,Xw,Xb,Xb]) (by simp [pint,Kd,pstr,Y1,Xr,Yp,PV.ownB,Xr]) (by rw [Tryz.ntmps27];simp) ?_
 rw [Tryz.ntmps27,Tryz.results27]
 by_cases hlen:a.length=b.length
 ·refine wk ?_
  refine PW.loop (fun k:Nat=>(((bot.put 0 (Xr a)).put 1 (Xr b)).put 5 (pint k))) (fun k=>k≤a.length∧a.take k=b.take k) (fun k=>a.length - k) 0 ⟨O_,S_⟩ ?_ ?_
  ·exact sb
  ·rintro k ⟨hk,heq⟩
   by_cases hlt:k < a.length
   ·have hu:=fun _:Unit=>heq
    clear heq
    by_cases hxy:a.getD k default=b.getD k default
    ·have he:(!((a.getD k default).toList == (b.getD k default).toList))=false:=by rw [Xnh.2 hxy];rfl
     refine wk ?_
     refine Y4 (k+1) ⟨O_,Xt1 hlt O_ (hu ()) hxy⟩ O_ ?_
     exact sb
    ·have he:(!((a.getD k default).toList == (b.getD k default).toList))=true:=by rw [Xei hxy];rfl
     refine wk ?_
     refine retP rfl (by exact lw) ?_
     have:a≠b:=by rintro rfl;exact hxy rfl
     simp [Y1,this]
   ·refine wk ?_
    refine retP rfl (by exact lw) ?_
    have:a=b:=by rw [H_ O_,H_ O_] at heq;exact heq
    simp [Y1,this]
 ·refine wk ?_
  refine retP rfl (by exact lw) ?_
  have:a≠b:=by rintro rfl;exact hlen rfl
  simp [Y1,this]
structure PSnd where
 l:List ByteArray
 a:Int
deriving Inhabited
def PSnd.put (s:PSnd) (n:Int) (b:ByteArray):PSnd×Int:=
 if n < 0∨(s.l.length:Int) < n∨240 < b.size then (s,1) else if n < s.l.length then (s,0) else if 64≤(s.l.length:Int) - s.a then (s,2) else (⟨s.l ++ [b],s.a⟩,0)
def PSnd.ack (s:PSnd) (n:Int):PSnd×Int:=if n < 0∨(s.l.length:Int) < n then (s,1) else (⟨s.l,maxI s.a n⟩,0)
def X46 (a:Int) (q:List ByteArray):List PFrm:=(List.range q.length).map fun (i:Nat)=>⟨false,a+i,q.getD i default⟩
def PSnd.frames (s:PSnd):List PFrm:=X46 s.a (s.l.drop s.a.toNat)
theorem Xkt {n:Int} : ∀{l:List PFrm} {x:Nat},x < posF l n→(l.getD x default).seq < n
 | [],x,h=>by simp [posF] at h
 |f :: l,x,h=>by
  unfold posF at h
  rw [List.takeWhile_cons] at h
  by_cases e:f.seq < n
  ·rw [if_pos (by simpa using e),C_] at h
   cases x with
   |zero=>simpa using e
   |succ x=>simpa using Xkt (l:=l) (n:=n) (x:=x) (by unfold posF;omega)
  ·rw [if_neg (by simpa using e)] at h
   simp at h
theorem Xm3 {n:Int} : ∀{l:List PFrm},posF l n < l.length→n≤(l.getD (posF l n) default).seq
 | [],h=>by simp at h
 |f :: l,h=>by
  unfold posF at h ⊢
  rw [List.takeWhile_cons] at h ⊢
  by_cases e:f.seq < n
  ·rw [if_pos (by simpa using e),C_] at h ⊢
   rw [List.getD_cons_succ]
   exact Xm3 (l:=l) (n:=n) (by unfold posF;simpa using h)
  ·rw [if_neg (by simpa using e)]
   simpa using e
structure PRcv where
 i:PIn
 l:List ByteArray
deriving Inhabited
structure Yar where
 e:Int
 D:DM
 i:PIn
 l:List PFrm
def badF (f:PFrm):Prop:=f.sum=true∨f.seq < 0∨1099511627776 < f.seq∨240 < f.body.size
instance (f:PFrm):Decidable (badF f):=by unfold badF;exact inferInstance
def DM.rcv (D:DM) (N at_:Nat) (i:PIn) (f:PFrm):Yar:=
 if badF f then ⟨1,D,i,[]⟩
 else if f.seq < i.next then ⟨0,D,i,[]⟩
 else if i.next < f.seq then ⟨0,D,X3h i f,[]⟩
 else ⟨(D.rtake N at_ (delI i f)).1,(D.rtake N at_ (delI i f)).2,inIf (D.rtake N at_ (delI i f)).1 (Xdx i f) i,delE (D.rtake N at_ (delI i f)).1 (delI i f)⟩
structure InB (i:PIn):Prop where
 ok:InOK i
 b:∀x,x < i.ahead.length→(i.ahead.getD x default).body.size≤240
theorem X4g (i:PIn) (f:PFrm):(delI i f).length=seqL (f.seq+1) i.ahead+1:=by
 have:=X4e (f.seq+1) i.ahead
 simp [delI];omega
theorem Xna {i:PIn} {f:PFrm} {k:Nat} (h:k < (delI i f).length):((delI i f).getD k default).seq=f.seq+k:=by
 rw [X4g] at h
 cases k with
 |zero=>simp [delI]
 |succ k=>
  have hk:k < seqL (f.seq+1) i.ahead:=O_
  have h2:=X4e (f.seq+1) i.ahead
  have:=Xh7 (f.seq+1) i.ahead k hk
  rw [delI,List.getD_cons_succ,G_,List.getElem?_take,if_pos hk,←G_,this]
  omega
theorem Xtw {i:PIn} {f:PFrm} (h:InB i) (hb:f.body.size≤240) (he:f.seq=i.next):Y7v (delI i f):=by
 have hl:=h.ok.l
 have hn:=h.ok.n
 have h2:=X4e (f.seq+1) i.ahead
 refine ⟨by rw [X4g];omega,fun k hk=>⟨?_,?_⟩⟩
 ·have hs:=Xna hk
  rw [X4g] at hk
  rw [hs];omega
 ·rw [X4g] at hk
  cases k with
  |zero=>simpa [delI] using hb
  |succ k=>
   have hk2:k < seqL (f.seq+1) i.ahead:=O_
   rw [delI,List.getD_cons_succ,G_,List.getElem?_take,if_pos hk2,←G_]
   exact h.b k O_
theorem Xyy {N k0:Nat} {D:DM} (h:GoD N k0 D) (at_:Nat) (ha:at_≤1000000000) (hN:at_+271≤N) (hNN:N≤100000000) (hk0:k0+600000≤100000000) (i:PIn) (hi:InB i) (f:PFrm) (hb:f.body.size≤1000000000) (hq : -9223372036854775808≤f.seq∧f.seq≤9223372036854775807) :
  Xe Tryz.prog 24 [.ptr 1000005 0,pfrm f] (rvG 1000005 1000001 1000002 1000003 1000004 at_ i D) (dMs 1000003 D) (.tup [Xr (Kg (D.rcv N at_ i f).l),pint (D.rcv N at_ i f).e]) (rvG 1000005 1000001 1000002 1000003 1000004 at_ (D.rcv N at_ i f).i (D.rcv N at_ i f).D) (dMs 1000003 (D.rcv N at_ i f).D):=by
 unfold DM.rcv
 by_cases h1:badF f
 ·rw [if_pos h1]
  by_cases h2:f.sum=true∨240 < f.body.size
  ·exact Xt0 D at_ i f h2 hb
  ·have h3:f.sum=false:=by cases hh:f.sum;rfl;exact absurd (.inl hh) h2
   refine Xqy D at_ i hi.ok f h3 O_ ?_ hq
   rcases h1 with h1|h1|h1|h1
   ·exact absurd (.inl h1) h2
   ·exact .inl h1
   ·exact .inr h1
   ·exact absurd (.inr h1) h2
 have h3:f.sum=false:=by cases hh:f.sum;rfl;exact absurd (.inl hh) h1
 have h4:0≤f.seq:=by
  rcases Int.lt_or_le f.seq 0 with h|h
  ·exact absurd (.inr (.inl h)) h1
  ·exact h
 have h5:f.seq≤1099511627776:=by
  rcases Int.lt_or_le 1099511627776 f.seq with h|h
  ·exact absurd (.inr (.inr (.inl h))) h1
  ·exact h
 have h6:f.body.size≤240:=by
  rcases Nat.lt_or_ge 240 f.body.size with h|h
  ·exact absurd (.inr (.inr (.inr h))) h1
  ·exact h
 rw [if_neg h1]
 by_cases h7:f.seq < i.next
 ·rw [if_pos h7]
  exact Xij D at_ i i f h3 h6 (Xyb i f hi.ok h3 h4 O_ h7)
 rw [if_neg h7]
 by_cases h8:i.next < f.seq
 ·rw [if_pos h8]
  exact Xij D at_ i (X3h i f) f h3 h6 (Xwd i f hi.ok h3 h5 O_ h8)
 rw [if_neg h8]
 have he:f.seq=i.next:=O_
 exact Xw1 h at_ ha hN hNN hk0 i (Xdx i f) f h3 h6 (delI i f) (Xtw hi h6 he) (Xz0 i f hi.ok h3 O_ he)
theorem Xhb {N k0:Nat} {D:DM} (h:GoD N k0 D) (at_:Nat) (ha:at_≤1000000000) (hN:at_+271≤N) (hNN:N≤100000000) (hk0:k0+600000≤100000000) (i:PIn) (hi:InB i) (f:PFrm) (hb:f.body.size≤1000000000) (hq : -9223372036854775808≤f.seq∧f.seq≤9223372036854775807) (s d c m j:Nat) (hd:([s,d,c,m,j]:List Nat).Nodup) :
  Xe Tryz.prog 24 [.ptr s 0,pfrm f] (rvG s d c m j at_ i D) (dMs m D) (.tup [Xr (Kg (D.rcv N at_ i f).l),pint (D.rcv N at_ i f).e]) (rvG s d c m j at_ (D.rcv N at_ i f).i (D.rcv N at_ i f).D) (dMs m (D.rcv N at_ i f).D):=
 Xs9 (Xyy h at_ ha hN hNN hk0 i hi f hb hq) s d c m j hd (.cons (.ptr _ _ S_) (.cons (.low _ ((Kv f).2 trivial)) .nil)) (.low _ (Km.2 (by simp [Xo,Xb])))
def PRcv.take (s:PRcv) (f:PFrm):PRcv×List PFrm×Int:=
 if badF f then (s,[],1)
 else if f.seq < s.i.next then (s,[],0)
 else if s.i.next < f.seq then (⟨X3h s.i f,s.l⟩,[],0)
 else (⟨Xdx s.i f,s.l ++ Kg (delI s.i f)⟩,delI s.i f,0)
structure Hlt (N k:Nat) (D:DM):Prop where
 ok:OkD N k D
 op:D.op = []
 rd:∀q:Nat,q < N→(D.read q).2=0
theorem Hlt.mono {N k k' : Nat} {D:DM} (h:Hlt N k D) (hk:k≤k'):Hlt N k' D:=⟨h.ok.mono hk,h.op,h.rd⟩
def Xh6 (N:Nat) (D:DM):List Sec:=(List.range N).map fun (q:Nat)=>(D.read q).1
theorem X82 (N:Nat) (D:DM):(Xh6 N D).length=N:=by simp [Xh6]
theorem X5n {N:Nat} (D:DM) {q:Nat} (h:q < N):(Xh6 N D).getD q default=(D.read q).1:=by
 simp [Xh6,G_,h]
theorem Hlt.read {N k:Nat} {D:DM} (h:Hlt N k D) {q:Nat} (hq:q < N):D.read q=((Xh6 N D).getD q default,0):=by
 rw [X5n D hq];exact Prod.ext rfl (h.rd q hq)
theorem X98 {N k:Nat} {D:DM} (h:Hlt N k D) {l:List PPut} (hi:InD N l) {q:Nat} (hq:q < N):after D l q=((doM (Xh6 N D) l).getD q default,0):=by
 rw [X52 l (Xh6 N D) (by rw [X82];exact hi) q (by rw [X82];exact hq),after]
 cases Vh (q:Int) l with
 |some s=>rfl
 |none=>exact h.read hq
theorem Hlt.apply {N k at_:Nat} {D:DM} {l:List PPut} (h:Hlt N k D) (hb:at_+271≤N) (he:jApE N at_ 12 l=0) (hl0:0 < l.length) (hk:k+20000≤100000000) :
  (D.applyR N at_ 12 l).1=0∧Hlt N (k+5000) (D.applyR N at_ 12 l).2∧Vx (D.applyR N at_ 12 l).2 at_∧∀q:Nat,q < N→(q < at_∨at_+14≤q)→(D.applyR N at_ 12 l).2.read q=after D l q:=by
 obtain ⟨m0,m1,h0,hN,hr,hrn,hat⟩:=Kh (X38 hb)
 obtain ⟨e1,e2⟩:=Zn he
 have e:D.applyR N at_ 12 l=D.run (K8 at_ 12 l):=by rw [DM.applyR,if_pos he,if_pos hl0]
 rw [e]
 have h12:Yl 12=14:=Xef
 obtain ⟨al,ai⟩:=X2c l h0 m0 m1 hN e1
 have hnb:Xg l.length≤64∧0≤Xg l.length:=by unfold Xg;omega
 have hai:InD N (K0 at_ 12 l):=fun p hp=>by have:=ai p hp;omega
 have hin:InD N l:=fun p hp=>by have:=e2 p hp;omega
 have hlen:(K8 at_ 12 l).length≤5000:=by rw [K8,A_,V8,V8];omega
 have hio:∀o∈K8 at_ 12 l,o.inD N:=fun o ho=>by
  rcases List.mem_append.1 ho with ho|ho
  ·exact Zv h0 hat hai _ o ho
  ·exact Zv h0 hat hin _ o ho
 obtain ⟨r1,r2⟩:=OkD.run (K8 at_ 12 l) h.ok hio O_
 have r3:(D.run (K8 at_ 12 l)).2.base=D.base.nxs (K8 at_ 12 l):=by
  rcases (GoD.run (K8 at_ 12 l) h.ok.go hio O_).2 with ⟨-,-,q⟩|⟨q,-⟩
  ·exact q
  ·rw [r1] at q;cases q
 obtain ⟨f1,f2,f3⟩:=Xat h.ok.base h0 hat hai O_ (Y6 l)
 obtain ⟨g1,g2,g3⟩:=Xat f1 h0 hat hin O_ Xj
 have hE:(D.run (K8 at_ 12 l)).2.base=(D.base.nxs (Yg at_ (K0 at_ 12 l) (Y6 l))).nxs (Yg at_ l Xj):=by rw [r3,K8,X0z]
 have hrd:∀q:Int,0≤q→q < N→(D.run (K8 at_ 12 l)).2.read q=if q=at_ then (Xj,0) else after (D.base.nxs (Yg at_ (K0 at_ 12 l) (Y6 l))) l q:=fun q q0 q1=>by
  rw [←X25 r2.dead,hE];exact g3 q q0 q1
 have hbase:∀q:Int,D.base.read q=D.read q:=X25 h.ok.dead
 refine ⟨r1,⟨r2.mono O_,?_,fun q hq=>?_⟩, .inr ?_,fun q hq ho=>?_⟩
 ·show (D.run (K8 at_ 12 l)).2.base.op = []
  rw [hE];exact g2
 ·rw [hrd q O_ O_]
  split
  ·rfl
  ·unfold after
   split
   ·rfl
   ·rw [f3 q O_ O_]
    split
    ·rfl
    ·unfold after
     split
     ·rfl
     ·rw [hbase];exact h.rd q hq
 ·rw [hrd at_ h0 hat,if_pos rfl]
  exact ⟨rfl,Yz.1,Yz.2⟩
 ·rw [hrd q O_ O_,if_neg O_]
  unfold after
  cases hlp:Vh (q:Int) l with
  |some s=>rfl
  |none=>
   simp only
   rw [f3 q O_ O_,if_neg O_]
   rw [←hbase];exact X07 (D:=D.base) fun p hp e=>by have:=ai p hp;omega
structure ArS (at_:Nat) (D:DM) (a:Nat) (Q:List Body):Prop where
 head:Vx D at_
 num:D.read ((at_+14:Nat):Int)=(Vc a (a+Q.length:Nat),0)
 few:Q.length≤64
 slot:∀i,i < Q.length→∀k,k < 4→D.read (slS at_ (a+i) k:Nat)=(Ve (Q.getD i default) k,0)
structure ArR (at_:Nat) (D:DM) (L:List Body):Prop where
 head:Vx D at_
 num:D.read ((at_+14:Nat):Int)=(Vc (L.length:Nat) 0,0)
 slot:∀n,n < L.length→L.length≤n+64→∀k,k < 4→D.read (slS at_ n k:Nat)=(Ve (L.getD n default) k,0)
theorem X8f {at_ n k N:Nat} (hk:k < 4) (h:at_+271≤N):slS at_ n k < N∧at_+15≤slS at_ n k∧slS at_ n k < at_+271:=by
 have:=Nat.mod_lt n (show 0 < 64 by decide)
 unfold slS;omega
theorem ArS.of {N at_ a:Nat} {E:DM} {M:List Sec} {Q:List Body} (h:SndM N at_ M a Q) (hH:Vx E at_) (hr:∀q:Nat,q < N→(q < at_∨at_+14≤q)→E.read q=(M.getD q default,0)):ArS at_ E a Q:=by
 have hf:=h.fits
 refine ⟨hH,by rw [hr _ O_ O_,h.head],h.few,fun i hi k hk=>?_⟩
 obtain ⟨s1,s2,s3⟩:=X8f (n:=a+i) hk hf
 rw [hr _ s1 O_,h.slot i hi k hk]
theorem ArS.toM {N k at_ a:Nat} {D:DM} {Q:List Body} (h:ArS at_ D a Q) (hf:at_+271≤N) (hH:Hlt N k D):SndM N at_ (Xh6 N D) a Q:=by
 refine ⟨X82 N D,hf,?_,h.few,fun i hi k hk=>?_⟩
 ·rw [X5n D O_,h.num]
 ·rw [X5n D (X8f hk hf).1,h.slot i hi k hk]
theorem ArR.of {N at_:Nat} {E:DM} {M:List Sec} {L:List Body} (h:RcvM N at_ M L) (hH:Vx E at_) (hr:∀q:Nat,q < N→(q < at_∨at_+14≤q)→E.read q=(M.getD q default,0)):ArR at_ E L:=by
 have hf:=h.fits
 refine ⟨hH,by rw [hr _ O_ O_,h.head],fun n hn hn2 k hk=>?_⟩
 obtain ⟨s1,s2,s3⟩:=X8f (n:=n) hk hf
 rw [hr _ s1 O_,h.slot n hn hn2 k hk]
theorem ArR.toM {N k at_:Nat} {D:DM} {L:List Body} (h:ArR at_ D L) (hf:at_+271≤N) (hH:Hlt N k D):RcvM N at_ (Xh6 N D) L:=by
 refine ⟨X82 N D,hf,?_,fun n hn hn2 k hk=>?_⟩
 ·rw [X5n D O_,h.num]
 ·rw [X5n D (X8f hk hf).1,h.slot n hn hn2 k hk]
theorem X60 (at_ n:Nat) (b:Body) (x y:Int):(Ya at_ n b ++ [Xu at_ x y]).length=5:=rfl
end
section
open Go.RowKit
variable {N k at_ a:Nat} {D:DM} {Q L:List Body}
theorem ArS.put (h:ArS at_ D a Q) (hf:at_+271≤N) (hH:Hlt N k D) (hk:k+20000≤100000000) (hq:Q.length < 64) (b:Body) {l:List PPut} (hl:l=Ya at_ (a+Q.length) b ++ [Xu at_ a (a+Q.length+1:Nat)]) :
  (D.applyR N at_ 12 l).1=0∧Hlt N (k+5000) (D.applyR N at_ 12 l).2∧ArS at_ (D.applyR N at_ 12 l).2 a (Q ++ [b]):=by
 subst hl
 obtain ⟨r1,r2,r3,r4⟩:=hH.apply hf (X2l hf (a+Q.length) b a (a+Q.length+1:Nat)) (by rw [X60];omega) hk
 exact ⟨r1,r2,ArS.of ((h.toM hf hH).put hq b) r3 fun q hq ho=>by rw [r4 q hq ho,X98 hH (Xep hf) hq]⟩
theorem Xve {x y:Int} (hf:at_+271≤N):InD N [Xu at_ x y]:=by
 intro p hp
 rw [List.mem_singleton] at hp
 subst hp
 show 0≤((at_+14:Nat):Int)∧((at_+14:Nat):Int) < N
 omega
theorem ArS.ack (h:ArS at_ D a Q) (hf:at_+271≤N) (hH:Hlt N k D) (hk:k+20000≤100000000) {j:Nat} (hj:j≤Q.length) {l:List PPut} (hl:l = [Xu at_ (a+j:Nat) (a+Q.length:Nat)]) :
  (D.applyR N at_ 12 l).1=0∧Hlt N (k+5000) (D.applyR N at_ 12 l).2∧ArS at_ (D.applyR N at_ 12 l).2 (a+j) (Q.drop j):=by
 subst hl
 obtain ⟨r1,r2,r3,r4⟩:=hH.apply hf (Xdh hf (a+j:Nat) (a+Q.length:Nat)) (Nat.succ_pos _) hk
 exact ⟨r1,r2,ArS.of ((h.toM hf hH).ack hj) r3 fun q hq ho=>by rw [r4 q hq ho,X98 hH (Xve hf) hq]⟩
theorem ArR.take (h:ArR at_ D L) (hf:at_+271≤N) (hH:Hlt N k D) (hk:k+20000≤100000000) (b:Body) {l:List PPut} (hl:l=Ya at_ L.length b ++ [Xu at_ (L.length+1:Nat) 0]) :
  (D.applyR N at_ 12 l).1=0∧Hlt N (k+5000) (D.applyR N at_ 12 l).2∧ArR at_ (D.applyR N at_ 12 l).2 (L ++ [b]):=by
 subst hl
 obtain ⟨r1,r2,r3,r4⟩:=hH.apply hf (X2l hf L.length b (L.length+1:Nat) 0) (by rw [X60];omega) hk
 exact ⟨r1,r2,ArR.of ((h.toM hf hH).take b) r3 fun q hq ho=>by rw [r4 q hq ho,X98 hH (Xep hf) hq]⟩
end
section
open Go.RowKit
theorem ArS.keep {at_ a:Nat} {D E:DM} {Q:List Body} (h:ArS at_ D a Q) (hr:∀q:Nat,at_≤q→q < at_+271→E.read q=D.read q):ArS at_ E a Q:=by
 refine ⟨?_,by rw [hr _ O_ O_];exact h.num,h.few,fun i hi k hk=>?_⟩
 ·have:=h.head
  unfold Vx at this ⊢
  rw [hr at_ (Nat.le_refl _) O_];exact this
 ·obtain ⟨-,s2,s3⟩:=X8f (n:=a+i) hk (Nat.le_refl (at_+271))
  rw [hr _ O_ s3];exact h.slot i hi k hk
theorem ArR.keep {at_:Nat} {D E:DM} {L:List Body} (h:ArR at_ D L) (hr:∀q:Nat,at_≤q→q < at_+271→E.read q=D.read q):ArR at_ E L:=by
 refine ⟨?_,by rw [hr _ O_ O_];exact h.num,fun n hn hn2 k hk=>?_⟩
 ·have:=h.head
  unfold Vx at this ⊢
  rw [hr at_ (Nat.le_refl _) O_];exact this
 ·obtain ⟨-,s2,s3⟩:=X8f (n:=n) hk (Nat.le_refl (at_+271))
  rw [hr _ O_ s3];exact h.slot n hn hn2 k hk
theorem Hlt.apart {N k at_ at2:Nat} {D:DM} {l:List PPut} (h:Hlt N k D) (hb:at_+271≤N) (hb2:at2+271≤N) (hap:at2+271≤at_∨at_+271≤at2) (he:jApE N at_ 12 l=0) (hl0:0 < l.length) (hk:k+20000≤100000000) (hs:∀p∈l,(at_:Int)≤p.sec∧p.sec < at_+271):∀q:Nat,at2≤q→q < at2+271→(D.applyR N at_ 12 l).2.read q=D.read q:=by
 intro q h1 h2
 obtain ⟨-,-,-,r4⟩:=h.apply hb he hl0 hk
 rw [r4 q O_ O_]
 exact X07 fun p hp e=>by have:=hs p hp;omega
theorem Xri (at_ n:Nat) (b:Body) (x y:Int):∀p∈Ya at_ n b ++ [Xu at_ x y],(at_:Int)≤p.sec∧p.sec < at_+271:=by
 intro p hp
 rcases List.mem_append.1 hp with hp|hp
 ·obtain ⟨k,hk,rfl⟩:=List.mem_map.1 hp
  obtain ⟨-,s2,s3⟩:=X8f (n:=n) (List.mem_range.1 hk) (Nat.le_refl (at_+271))
  show (at_:Int)≤((slS at_ n k:Nat):Int)∧((slS at_ n k:Nat):Int) < at_+271
  omega
 ·rw [List.mem_singleton] at hp
  subst hp
  show (at_:Int)≤((at_+14:Nat):Int)∧((at_+14:Nat):Int) < at_+271
  omega
theorem Xpb {N:Nat} {q:Int} (q0:0≤q) (q1:q < N):(newD N).read q=(Ye,0):=by
 rw [(Xbl N).read q0 q1]
 have e1:(newD N).get q = []:=rfl
 have e2:(newD N).cell q=⟨Ye,false⟩:=by
  unfold DM.cell newD
  rw [G_,List.getElem?_replicate,if_pos O_];rfl
 rw [e1,e2];rfl
theorem Hlt.new (N:Nat) (hN:271≤N):Hlt N 0 (newD N)∧(∀at_:Nat,at_+271≤N→ArS at_ (newD N) 0 []∧ArR at_ (newD N) []):=by
 have hj:=JInv.new N 0 12 (X38 (at_:=0) O_)
 have hz:∀q:Nat,q < N→(newD N).read q=(Ye,0):=fun q hq=>Xpb O_ O_
 refine ⟨⟨hj.ok,hj.op,fun q hq=>by rw [hz q hq]⟩,fun at_ ha=>?_⟩
 have hH:Vx (newD N) at_:=.inr (by rw [hz at_ O_];exact ⟨rfl,rfl,rfl⟩)
 have hm:∀q:Nat,q < N→(q < at_∨at_+14≤q)→(newD N).read q=((List.replicate N Ye).getD q default,0):=fun q hq _=>by
  rw [hz q hq,G_,List.getElem?_replicate,if_pos hq];rfl
 exact ⟨ArS.of (SndM.new ha) hH hm,ArR.of (RcvM.new ha) hH hm⟩
structure SndT (s:PSnd) (a:Nat) (Q:List Body):Prop where
 ea:s.a=(a:Int)
 el:s.l.length=a+Q.length
 eq:s.l.drop a=Kl Q
theorem Vu (Q:List Body):(Kl Q).length=Q.length:=List.length_map ..
theorem X6c (Q:List Body) (s:ByteArray) (h:s.size≤240):Kl (Q ++ [Zs s h])=Kl Q ++ [s]:=by
 rw [Kl,List.map_append]
 show Kl Q ++ [Zl (X0k s)]=_
 rw [X4x]
theorem X0y (Q:List Body) (j:Nat):Kl (Q.drop j)=(Kl Q).drop j:=(List.map_drop ..)
theorem Xv7 {Q:List Body} {x:ByteArray} (h:x∈Kl Q):x.size≤240:=by
 obtain ⟨b,-,rfl⟩:=List.mem_map.1 h
 show (Zl b.1).size≤240
 rw [X0a];exact b.2.1
theorem K6 {a:Nat} {Q:List Body} (ha:a≤900000000) (hq:Q.length≤64):Zm (outQ a Q):=by
 have hl:=Vu Q
 refine ⟨?_,?_,?_,?_,fun x hx=>?_⟩
 ·show (0:Int)≤(a:Int)∧(a:Int)≤900000000
  omega
 ·show (0:Int)≤(a:Int)∧(a:Int)≤a+((Kl Q).length:Nat)
  omega
 ·show (Kl Q).length≤900
  omega
 ·show ByteArray.empty.size≤65536
  decide
 ·have:=Xv7 (Q:=Q) hx
  omega
theorem SndT.frames {s:PSnd} {a:Nat} {Q:List Body} (h:SndT s a Q):Kq (outQ a Q)=s.frames:=by
 rw [PSnd.frames,h.ea,Int.toNat_natCast,h.eq];rfl
theorem SndT.new:SndT ⟨[],0⟩ 0 []:=⟨rfl,rfl,rfl⟩
theorem Xh4 (at_ n k:Nat):(at_:Int)+15+((n:Nat):Int) % 64 * 4+k=(slS at_ n k:Nat):=by
 unfold slS;omega
theorem ArS.notes {at_ a:Nat} {D:DM} {Q:List Body} (h:ArS at_ D a Q):X39 D at_ a Q:=fun i hi k hk=>by
 rw [Xh4];exact h.slot i hi k hk
theorem ArS.num' {at_ a:Nat} {D:DM} {Q:List Body} (h:ArS at_ D a Q):D.read ((at_:Int)+14)=(Vc a (a+Q.length:Nat),0):=by
 have:=h.num
 rwa [show ((at_+14:Nat):Int)=(at_:Int)+14 by omega] at this
theorem ArR.num' {at_:Nat} {D:DM} {L:List Body} (h:ArR at_ D L):D.read ((at_:Int)+14)=(Vc (L.length:Nat) (0:Nat),0):=by
 have:=h.num
 rwa [show ((at_+14:Nat):Int)=(at_:Int)+14 by omega] at this
theorem ArR.notes {at_:Nat} {D:DM} {L:List Body} (h:ArR at_ D L) {a:Nat} (ha:L.length≤a+64):X39 D at_ a (L.drop a):=fun i hi k hk=>by
 rw [L_] at hi
 rw [Xh4,h.slot (a+i) O_ O_ k hk,G_,G_,List.getElem?_drop]
theorem Hlt.recP {N k at_:Nat} {D:DM} (hH:Hlt N k D) (h:Vx D at_) (hN:at_ < N):RecP D at_ 12 (0,D):=by
 rcases h with h|h
 ·have:=hH.rd at_ hN
  rw [h] at this
  cases this
 ·exact .inr (.inl ⟨h.1,h.2.1,h.2.2,rfl⟩)
theorem Hlt.small {N k:Nat} {D:DM} (h:Hlt N k D) (hN:N≤1000000000):D.cells.length≤1000000000∧∀e∈D.op,e.2.2.length≤1000000000:=by
 refine ⟨?_,by rw [h.op];simp⟩
 have:=h.ok.len
 omega
end
section
open Go.RowKit
variable {N k at_ a:Nat} {D:DM} {Q:List Body} {s:PSnd}
theorem Xnv (hT:SndT s a Q) (hH:Hlt N k D) (hA:ArS at_ D a Q) (hf:at_+271≤N) (hk:k+20000≤100000000) (n:Int) (b:ByteArray) :
  ∃Q',(D.sput N at_ (outQ a Q) n b).1=(s.put n b).2∧X83 (outQ a Q) n b (D.sput N at_ (outQ a Q) n b).1=outQ a Q'∧Hlt N (k+5000) (D.sput N at_ (outQ a Q) n b).2∧ArS at_ (D.sput N at_ (outQ a Q) n b).2 a Q'∧SndT (s.put n b).1 a Q' ∧
   ∀at2:Nat,at2+271≤N→(at2+271≤at_∨at_+271≤at2)→∀q:Nat,at2≤q→q < at2+271→(D.sput N at_ (outQ a Q) n b).2.read q=D.read q:=by
 have hl:=Vu Q
 have hsl:=hT.el
 have hsa:=hT.ea
 have e0:D.sput N at_ (outQ a Q) n b=if n < 0∨(a:Int)+((Kl Q).length:Nat) < n∨240 < b.size then (1,D) else if n < (a:Int)+((Kl Q).length:Nat) then (0,D) else if 64≤n - a then (2,D) else if h:b.size≤240 then D.applyR N at_ 12 (Ya at_ n.toNat (Zs b h) ++ [Xu at_ a (a+((Kl Q).length+1:Nat))]) else (0,D):=rfl
 have o0:∀e,X83 (outQ a Q) n b e=if e=0∧n=(a:Int)+((Kl Q).length:Nat) then X1g (outQ a Q) b else outQ a Q:=fun _=>rfl
 rw [hl] at e0
 simp only [hl] at o0
 have p0:s.put n b=if n < 0∨(a:Int)+(Q.length:Nat) < n∨240 < b.size then (s,1) else if n < (a:Int)+(Q.length:Nat) then (s,0) else if 64≤(Q.length:Int) then (s,2) else (⟨s.l ++ [b],s.a⟩,0):=by
  unfold PSnd.put
  rw [hsl,hsa,show ((a+Q.length:Nat):Int)=(a:Int)+(Q.length:Nat) by omega,show (a:Int)+(Q.length:Nat) - a=(Q.length:Nat) by omega]
 by_cases c1:n < 0∨(a:Int)+(Q.length:Nat) < n∨240 < b.size
 ·rw [if_pos c1] at e0 p0
  rw [e0,p0,o0]
  exact ⟨Q,rfl,if_neg (by rintro ⟨h,-⟩;cases h),hH.mono O_,hA,hT,fun _ _ _ _ _ _=>rfl⟩
 rw [if_neg c1] at e0 p0
 by_cases c2:n < (a:Int)+(Q.length:Nat)
 ·rw [if_pos c2] at e0 p0
  rw [e0,p0,o0]
  exact ⟨Q,rfl,if_neg O_,hH.mono O_,hA,hT,fun _ _ _ _ _ _=>rfl⟩
 rw [if_neg c2] at e0 p0
 by_cases c3:64≤(Q.length:Int)
 ·rw [if_pos c3] at p0
  rw [if_pos (show 64≤n - a by omega)] at e0
  rw [e0,p0,o0]
  exact ⟨Q,rfl,if_neg (by rintro ⟨h,-⟩;cases h),hH.mono O_,hA,hT,fun _ _ _ _ _ _=>rfl⟩
 rw [if_neg c3] at p0
 have hb:b.size≤240:=O_
 rw [if_neg (show ¬64≤n - a by omega),dif_pos hb] at e0
 have hn:n=((a+Q.length:Nat):Int):=O_
 have e1:Ya at_ n.toNat (Zs b hb) ++ [Xu at_ (a:Int) ((a:Int)+((Q.length+1:Nat):Int))]=Ya at_ (a+Q.length) (Zs b hb) ++ [Xu at_ a (a+Q.length+1:Nat)]:=by
  rw [hn,Int.toNat_natCast,show (a:Int)+((Q.length+1:Nat):Int)=((a+Q.length+1:Nat):Int) by omega]
 rw [e1] at e0
 obtain ⟨r1,r2,r3⟩:=hA.put hf hH hk O_ (Zs b hb) rfl
 have hap:=fun (at2:Nat) (h2:at2+271≤N) (hap:at2+271≤at_∨at_+271≤at2)=>hH.apart (at2:=at2) hf h2 hap (X2l hf (a+Q.length) (Zs b hb) a (a+Q.length+1:Nat)) (by rw [X60];omega) hk (Xri at_ _ _ _ _)
 rw [←e0] at r1 r2 r3
 rw [p0]
 refine ⟨Q ++ [Zs b hb],r1,?_,r2,r3,⟨hsa,?_,?_⟩,fun at2 h2 h3=>by rw [e0];exact hap at2 h2 h3⟩
 ·rw [o0,if_pos ⟨r1,O_⟩]
  show (⟨(a:Int),(a:Int),ByteArray.empty,Kl Q ++ [b]⟩:POut)=_
  rw [←X6c Q b hb];rfl
 ·show (s.l ++ [b]).length=_
  rw [A_,hsl,A_];rfl
 ·show (s.l ++ [b]).drop a=_
  rw [List.drop_append,hT.eq,X6c,show a - s.l.length=0 by omega];rfl
theorem Y0q (hT:SndT s a Q) (hH:Hlt N k D) (hA:ArS at_ D a Q) (hf:at_+271≤N) (hk:k+20000≤100000000) (n:Int) :
  ∃a' Q',(D.sack N at_ (outQ a Q) n).1=(s.ack n).2∧Xah (outQ a Q) n (D.sack N at_ (outQ a Q) n).1=outQ a' Q'∧Hlt N (k+5000) (D.sack N at_ (outQ a Q) n).2∧ArS at_ (D.sack N at_ (outQ a Q) n).2 a' Q'∧SndT (s.ack n).1 a' Q' ∧
   ∀at2:Nat,at2+271≤N→(at2+271≤at_∨at_+271≤at2)→∀q:Nat,at2≤q→q < at2+271→(D.sack N at_ (outQ a Q) n).2.read q=D.read q:=by
 have hl:=Vu Q
 have hsl:=hT.el
 have hsa:=hT.ea
 have e0:D.sack N at_ (outQ a Q) n=if n < 0∨(a:Int)+((Kl Q).length:Nat) < n then (1,D) else if n≤a then (0,D) else D.applyR N at_ 12 [Xu at_ n (a+((Kl Q).length:Nat))]:=rfl
 have o0:∀e,Xah (outQ a Q) n e=if e=0∧a < n∧n≤(a:Int)+((Kl Q).length:Nat) then ⟨n,n,ByteArray.empty,(Kl Q).drop (n - a).toNat⟩ else outQ a Q:=fun _=>rfl
 rw [hl] at e0
 simp only [hl] at o0
 have p0:s.ack n=if n < 0∨(a:Int)+(Q.length:Nat) < n then (s,1) else (⟨s.l,maxI a n⟩,0):=by
  unfold PSnd.ack
  rw [hsl,hsa,show ((a+Q.length:Nat):Int)=(a:Int)+(Q.length:Nat) by omega]
 by_cases c1:n < 0∨(a:Int)+(Q.length:Nat) < n
 ·rw [if_pos c1] at e0 p0
  rw [e0,p0,o0]
  exact ⟨a,Q,rfl,if_neg (by rintro ⟨h,-⟩;cases h),hH.mono O_,hA,hT,fun _ _ _ _ _ _=>rfl⟩
 rw [if_neg c1] at e0 p0
 by_cases c2:n≤a
 ·rw [if_pos c2] at e0
  rw [e0,p0,o0,show maxI (a:Int) n=a by unfold maxI;split<;>omega]
  exact ⟨a,Q,rfl,if_neg O_,hH.mono O_,hA,⟨rfl,hsl,hT.eq⟩,fun _ _ _ _ _ _=>rfl⟩
 rw [if_neg c2] at e0
 obtain ⟨j,hj⟩:∃j:Nat,n=((a+j:Nat):Int):=⟨(n - a).toNat,O_⟩
 have hjq:j≤Q.length:=O_
 have e1 : [Xu at_ n ((a:Int)+(Q.length:Nat))] = [Xu at_ (a+j:Nat) (a+Q.length:Nat)]:=by
  rw [hj,show (a:Int)+((Q.length:Nat):Int)=((a+Q.length:Nat):Int) by omega]
 rw [e1] at e0
 obtain ⟨r1,r2,r3⟩:=hA.ack hf hH hk hjq rfl
 have hap:=fun (at2:Nat) (h2:at2+271≤N) (hap:at2+271≤at_∨at_+271≤at2)=>hH.apart (at2:=at2) hf h2 hap (Xdh hf (a+j:Nat) (a+Q.length:Nat)) (Nat.succ_pos _) hk (fun p hp=>by
  rw [List.mem_singleton] at hp
  subst hp
  show (at_:Int)≤((at_+14:Nat):Int)∧((at_+14:Nat):Int) < at_+271
  omega)
 rw [←e0] at r1 r2 r3
 rw [p0]
 refine ⟨a+j,Q.drop j,r1,?_,r2,r3,⟨?_,?_,?_⟩,fun at2 h2 h3=>by rw [e0];exact hap at2 h2 h3⟩
 ·rw [o0,if_pos ⟨r1,O_,O_⟩,show (n - (a:Int)).toNat=j by omega,←X0y,hj];rfl
 ·show maxI (a:Int) n=_
  unfold maxI;split<;>omega
 ·rw [L_]
  show s.l.length=_
  omega
 ·show s.l.drop (a+j)=_
  rw [←List.drop_drop,hT.eq,X0y]
end
section
open Go.RowKit
theorem Xqv {l:List PFrm} {p:Nat} (hp:p≤l.length) (f:PFrm) (x:Nat):(l.take p ++ [f] ++ l.drop p).getD x default=if x < p then l.getD x default else if x=p then f else l.getD (x - 1) default:=by
 have hlt:(l.take p).length=p:=by rw [T_];omega
 simp only [G_]
 rw [List.append_assoc]
 by_cases h1:x < p
 ·rw [if_pos h1,List.getElem?_append_left O_,List.getElem?_take,if_pos h1]
 rw [if_neg h1,List.getElem?_append_right O_,hlt]
 by_cases h2:x=p
 ·rw [if_pos h2,h2,Nat.sub_self];rfl
 rw [if_neg h2]
 obtain ⟨y,hy⟩:∃y,x=p+(y+1):=⟨x - p - 1,O_⟩
 subst hy
 rw [show p+(y+1) - p=y+1 by omega]
 show ((l.drop p)[y]?).getD default=_
 rw [List.getElem?_drop,show p+(y+1) - 1=p+y by omega]
theorem Xmf (l:List PFrm) (n:Int):posF l n≤l.length:=(List.takeWhile_prefix _).length_le
theorem InB.ahead {i:PIn} (h:InB i) {f:PFrm} (hs:f.sum=false) (hq:f.seq≤1099511627776) (hb:f.body.size≤240) (hn:i.next < f.seq):InB (X3h i f):=by
 unfold X3h
 split
 ·rename_i c
  obtain ⟨c1,c2⟩:=c
  have hp:=Xmf i.ahead f.seq
  have hlen:(i.ahead.take (posF i.ahead f.seq) ++ [f] ++ i.ahead.drop (posF i.ahead f.seq)).length=i.ahead.length+1:=by
   simp only [A_,T_,L_,C_,List.length_nil];omega
  have hlt:∀x,x < posF i.ahead f.seq→(i.ahead.getD x default).seq < f.seq:=fun x hx=>Xkt hx
  have hgt:∀x,posF i.ahead f.seq≤x→x < i.ahead.length→f.seq < (i.ahead.getD x default).seq:=fun x hx hxl=>by
   have h0:f.seq < (i.ahead.getD (posF i.ahead f.seq) default).seq:=by
    have h1:posF i.ahead f.seq < i.ahead.length:=O_
    have:=Xm3 h1
    unfold X89 at c1
    rw [decide_eq_true h1,Bool.true_and,decide_eq_false_iff_not] at c1
    omega
   rcases Nat.lt_or_ge (posF i.ahead f.seq) x with hh|hh
   ·have:=h.ok.m _ x hh hxl;omega
   ·rw [show x=posF i.ahead f.seq by omega];exact h0
  refine ⟨⟨h.ok.n,?_,fun x hx=>?_,fun x hx=>?_,fun x y hxy hy=>?_⟩,fun x hx=>?_⟩
  ·show (i.ahead.take (posF i.ahead f.seq) ++ [f] ++ i.ahead.drop (posF i.ahead f.seq)).length≤64
   omega
  all_goals simp only [hlen] at *
  all_goals rw [Xqv hp f]
  ·split
   ·exact h.ok.s x O_
   split
   ·exact ⟨hs,hq,O_⟩
   ·exact h.ok.s (x - 1) O_
  ·split
   ·exact h.ok.r x O_
   split
   ·exact hn
   ·exact h.ok.r (x - 1) O_
  ·rw [Xqv hp f]
   by_cases h1:x < posF i.ahead f.seq
   ·rw [if_pos h1]
    split
    ·exact h.ok.m x y hxy O_
    split
    ·exact hlt x h1
    ·exact h.ok.m x (y - 1) O_ O_
   rw [if_neg h1]
   by_cases h2:x=posF i.ahead f.seq
   ·rw [if_pos h2,if_neg O_,if_neg O_]
    exact hgt (y - 1) O_ O_
   ·rw [if_neg h2,if_neg O_,if_neg O_]
    exact h.ok.m (x - 1) (y - 1) O_ O_
  ·split
   ·exact h.b x O_
   split
   ·exact hb
   ·exact h.b (x - 1) O_
 ·exact h
theorem InB.nxt {i:PIn} (h:InB i) {f:PFrm} (he:f.seq=i.next) (hn:i.next≤899999000):InB (Xdx i f):=by
 have h1:=h.ok.n
 have h2:=h.ok.l
 have h3:=X4e (f.seq+1) i.ahead
 have hg:∀x,(i.ahead.drop (seqL (f.seq+1) i.ahead)).getD x default=i.ahead.getD (seqL (f.seq+1) i.ahead+x) default:=fun x=>by
  rw [G_,List.getElem?_drop,G_]
 have hl:(i.ahead.drop (seqL (f.seq+1) i.ahead)).length=i.ahead.length - seqL (f.seq+1) i.ahead:=L_ ..
 refine ⟨⟨?_,?_,fun x hx=>?_,fun x hx=>?_,fun x y hxy hy=>?_⟩,fun x hx=>?_⟩
 ·show 0≤f.seq+1+(seqL (f.seq+1) i.ahead:Nat)∧f.seq+1+(seqL (f.seq+1) i.ahead:Nat)≤900000000
  omega
 ·show (i.ahead.drop (seqL (f.seq+1) i.ahead)).length≤64
  omega
 all_goals simp only [Xdx,hl] at *
 all_goals simp only [hg]
 ·exact h.ok.s _ O_
 ·have:=Xgz (f.seq+1) i.ahead (fun x hx=>by have:=h.ok.r x hx;omega) h.ok.m (seqL (f.seq+1) i.ahead+x) O_ O_
  omega
 ·exact h.ok.m _ _ O_ O_
 ·exact h.b _ O_
theorem Yaq (k n:Nat):k+5000+5000 * n≤k+5000 * (n+1):=O_
end
section
open Go.RowKit
variable {N at_:Nat}
theorem Xmx (hf:at_+271≤N):∀(l:List PFrm) (L:List Body) (k:Nat) (D:DM),(∀x,x < l.length→(l.getD x default).seq=(L.length:Int)+x∧(l.getD x default).body.size≤240)→Hlt N k D→ArR at_ D L→k+5000 * l.length+20000≤100000000 →
  (D.rtake N at_ l).1=0∧Hlt N (k+5000 * l.length) (D.rtake N at_ l).2∧ArR at_ (D.rtake N at_ l).2 (L ++ l.map fun x=>bodF x.body) ∧
   ∀at2:Nat,at2+271≤N→(at2+271≤at_∨at_+271≤at2)→∀q:Nat,at2≤q→q < at2+271→(D.rtake N at_ l).2.read q=D.read q
 | [],L,k,D,_,hH,hA,_=>⟨rfl,hH.mono O_,by rw [List.map_nil,List.append_nil];exact hA,fun _ _ _ _ _ _=>rfl⟩
 |x :: l,L,k,D,hx,hH,hA,hk=>by
  rw [C_] at hk
  have h0:=hx 0 S_
  have hs:x.seq=(L.length:Int):=by have:=h0.1;simpa using this
  have e1:rcvP at_ x=Ya at_ L.length (bodF x.body) ++ [Xu at_ (L.length+1:Nat) 0]:=by
   rw [rcvP,hs,Int.toNat_natCast];rfl
  obtain ⟨r1,r2,r3⟩:=hA.take hf hH O_ (bodF x.body) rfl
  have hap:=fun (at2:Nat) (h2:at2+271≤N) (hap:at2+271≤at_∨at_+271≤at2)=>hH.apart (at2:=at2) hf h2 hap (X2l hf L.length (bodF x.body) (L.length+1:Nat) 0) (by rw [X60];omega) O_ (Xri at_ _ _ _ _)
  rw [←e1] at r1 r2 r3 hap
  obtain ⟨s1,s2,s3,s4⟩:=Xmx hf l (L ++ [bodF x.body]) (k+5000) (D.applyR N at_ 12 (rcvP at_ x)).2 (fun y hy=>by
   have:=hx (y+1) (by rw [C_];omega)
   rw [List.getD_cons_succ] at this
   rw [A_]
   exact ⟨by rw [this.1];simp only [C_,List.length_nil];omega,this.2⟩) r2 r3 O_
  have e:D.rtake N at_ (x :: l)=(D.applyR N at_ 12 (rcvP at_ x)).2.rtake N at_ l:=by rw [DM.rtake,if_pos r1]
  rw [e]
  refine ⟨s1,s2.mono (Yaq k l.length),?_,fun at2 h2 h3 q q1 q2=>(s4 at2 h2 h3 q q1 q2).trans (hap at2 h2 h3 q q1 q2)⟩
  rw [List.append_assoc] at s3
  exact s3
structure RcvT (s:PRcv) (L:List Body):Prop where
 el:s.l=Kl L
 en:s.i.next=(L.length:Int)
 ib:InB s.i
theorem Xzy {s:ByteArray} (h:s.size≤240):strI (bodF s).1=s:=by
 have e:bodF s=Zs s h:=dif_pos h
 rw [e]
 exact X4x s
theorem Xts (L:List Body):∀l:List PFrm,(∀x,x < l.length→(l.getD x default).body.size≤240)→Kl (L ++ l.map fun x=>bodF x.body)=Kl L ++ Kg l:=by
 intro l hl
 rw [Kl,List.map_append,List.map_map]
 congr 1
 refine List.map_congr_left fun x hx=>?_
 obtain ⟨y,hy,rfl⟩:=List.mem_iff_getElem.1 hx
 have:=hl y hy
 rw [G_,E_ hy] at this
 exact Xzy this
theorem RcvT.new:RcvT ⟨⟨0,[]⟩,[]⟩ []:=⟨rfl,rfl,⟨⟨D_,Nat.zero_le _,fun x hx=>by simp at hx,fun x hx=>by simp at hx,fun x y _ hy=>by simp at hy⟩,fun x hx=>by simp at hx⟩⟩
theorem Xft {s:PRcv} {L:List Body} {k:Nat} {D:DM} (hT:RcvT s L) (hH:Hlt N k D) (hA:ArR at_ D L) (hf:at_+271≤N) (hL:L.length≤899999000) (f:PFrm) (hk:k+5000 * (s.take f).2.1.length+20000≤100000000) :
  ∃L',(D.rcv N at_ s.i f).e=(s.take f).2.2∧(D.rcv N at_ s.i f).l=(s.take f).2.1∧(D.rcv N at_ s.i f).i=(s.take f).1.i∧Hlt N (k+5000 * (s.take f).2.1.length) (D.rcv N at_ s.i f).D∧ArR at_ (D.rcv N at_ s.i f).D L'∧RcvT (s.take f).1 L'∧L'.length=L.length+(s.take f).2.1.length ∧
   ∀at2:Nat,at2+271≤N→(at2+271≤at_∨at_+271≤at2)→∀q:Nat,at2≤q→q < at2+271→(D.rcv N at_ s.i f).D.read q=D.read q:=by
 unfold DM.rcv PRcv.take at *
 by_cases c1:badF f
 ·rw [if_pos c1,if_pos c1]
  exact ⟨L,rfl,rfl,rfl,hH.mono O_,hA,hT,rfl,fun _ _ _ _ _ _=>rfl⟩
 rw [if_neg c1,if_neg c1] at *
 by_cases c2:f.seq < s.i.next
 ·rw [if_pos c2,if_pos c2]
  exact ⟨L,rfl,rfl,rfl,hH.mono O_,hA,hT,rfl,fun _ _ _ _ _ _=>rfl⟩
 rw [if_neg c2,if_neg c2] at *
 have hs:f.sum=false:=by cases hh:f.sum;rfl;exact absurd (.inl hh) c1
 have hb:f.body.size≤240:=Nat.le_of_not_lt fun h=>c1 (.inr (.inr (.inr h)))
 have hq:f.seq≤1099511627776:=Int.not_lt.1 fun h=>c1 (.inr (.inr (.inl h)))
 by_cases c3:s.i.next < f.seq
 ·rw [if_pos c3,if_pos c3]
  refine ⟨L,rfl,rfl,rfl,hH.mono O_,hA,⟨hT.el,?_,hT.ib.ahead hs hq hb c3⟩,rfl,fun _ _ _ _ _ _=>rfl⟩
  rw [←hT.en]
  show (X3h s.i f).next=s.i.next
  unfold X3h;split<;>rfl
 rw [if_neg c3,if_neg c3] at *
 have he:f.seq=s.i.next:=O_
 have hd:=Xtw hT.ib hb he
 have hx:∀x,x < (delI s.i f).length→((delI s.i f).getD x default).seq=(L.length:Int)+x∧((delI s.i f).getD x default).body.size≤240:=fun x hx=>⟨by rw [Xna hx,he,hT.en],(hd.2 x hx).2⟩
 obtain ⟨r1,r2,r3,r4⟩:=Xmx hf (delI s.i f) L k D hx hH hA hk
 refine ⟨_,r1,by rw [r1];rfl,by rw [r1];rfl,r2,r3,⟨?_,?_,hT.ib.nxt he (by rw [hT.en];omega)⟩,by rw [A_,List.length_map],r4⟩
 ·show s.l ++ Kg (delI s.i f)=_
  rw [Xts L _ fun x h=>(hx x h).2,hT.el]
 ·show f.seq+1+(seqL (f.seq+1) s.i.ahead:Nat)=_
  rw [A_,List.length_map,X4g,he,hT.en];omega
end
section
open Go.RowKit
structure POp where
 do_:Int
 n:Int
 body:ByteArray
 sum:Bool
deriving Inhabited
def popL (o:POp):List PV := [Xh o.do_,pint o.n,pstr o.body,Y1 o.sum]
def pops (l:List POp):PV:=.sl l.length 4 (l.flatMap popL) none
theorem Xyq (o:POp):∀c∈popL o,Low c:=by
 intro c hc
 simp only [popL,List.mem_cons,List.not_mem_nil,or_false] at hc
 rcases hc with rfl|rfl|rfl|rfl<;>exact .val _
theorem X7m (l:List POp):Low (pops l)↔True:=⟨fun _=>trivial,fun _=>.sl _ _ _ _ (V9 Xyq l)⟩
theorem Xaz (l:List POp):(l.flatMap popL).length=l.length * 4:=Kk (f:=popL) (k:=4) (fun _=>rfl) l
def fewO (l:List POp):Bool:=decide (l.all (fun o=>decide (o.body.size≤300))=true∧l.length≤90)
theorem Xga (l:List POp) (hl:l.length≤1000000000000000) (hb:∀o∈l,o.body.size≤1000000000000000):Xs Tryz.prog 8 [pops l] (· = Y1 (fewO l)):=by
 have h1:Low (pops l):=(X7m _).2 trivial
 have h2:=Xaz l
 refine Xd X6 Tryz.func8 rfl K_ (by simp [Xo,Xx,Y0,Xy,Xw,Xb,X7m]) (by simp [pint,Kd,pstr,Y1,Xr,Yp,PV.ownB,pops]) (by rw [Tryz.ntmps8];simp) ?_
 rw [Tryz.ntmps8,Tryz.results8]
 refine wk ?_
 refine PW.loop (fun i:Nat=>(((bot.put 0 (pops l)).put 2 (Y1 false)).put 3 (pint i))) (fun i=>i≤l.length∧∀j,j < i→(l.getD j default).body.size≤300) (fun i=>l.length - i) 0 ⟨O_,fun j hj=>by omega⟩ ?_ ?_
 ·exact sb
 ·intro i ⟨hi,hgood⟩
  by_cases hlt:i < l.length
  ·have hmem:l.getD i default∈l:=by rw [G_,E_ hlt];exact List.getElem_mem hlt
   have hb:=hb _ hmem
   by_cases h30:(l.getD i default).body.size≤300
   ·have hg2:∀j,j < i+1→(l.getD j default).body.size≤300:=by
     intro j hj
     by_cases e:j=i
     ·subst e;exact h30
     ·exact hgood j O_
    clear hgood hmem
    refine wk ?_
    refine Y4 (i+1) ⟨O_,hg2⟩ O_ ?_
    exact sb
   ·have e:fewO l=false:=by
     refine decide_eq_false fun h=>?_
     have:=List.all_eq_true.1 h.1 _ hmem
     simp at this;exact h30 this
    rw [e]
    clear hgood hmem
    refine wk ?_
    exact retP rfl (by exact lw) rfl
  ·have e:i=l.length:=O_
   subst e
   have hall:l.all (fun o=>decide (o.body.size≤300))=true:=by
    rw [List.all_eq_true]
    intro o ho
    obtain ⟨j,hj,rfl⟩:=List.getElem_of_mem ho
    have:=hgood j hj
    rw [G_,E_ hj,Option.getD_some] at this
    simpa using this
   have e1:fewO l=decide (l.length≤90):=by
    unfold fewO
    exact decide_eq_decide.2 ⟨fun h=>h.2,fun h=>⟨hall,h⟩⟩
   rw [e1]
   clear hgood hall e1
   by_cases c1:l.length≤90
   ·rw [decide_eq_true c1]
    refine wk ?_
    exact retP rfl (by exact lw) rfl
   ·rw [decide_eq_false c1]
    refine wk ?_
    exact retP rfl (by exact lw) rfl
theorem Xbr {l:List POp} (h:fewO l=true):l.length≤90∧∀o∈l,o.body.size≤300:=by
 simp only [fewO,decide_eq_true_eq] at h
 exact ⟨h.2,fun o ho=>by simpa using List.all_eq_true.1 h.1 o ho⟩
end
section
open Go.ChangeShapes Go.WideShapes Go.ChangeAt Go.RowKit
theorem Y8n {z:Int} (h:(Lit.int .i64 z).wf=true) : -9223372036854775808≤z∧z≤9223372036854775807:=by
 simp [Lit.wf,IntKind.min,IntKind.max,IntKind.signed,IntKind.bits] at h
 exact ⟨O_,O_⟩
theorem Y70 {z:Int} (h:(Lit.int .u8 z).wf=true):0≤z∧z < 256:=by
 simp [Lit.wf,IntKind.min,IntKind.max,IntKind.signed,IntKind.bits] at h
 exact ⟨O_,O_⟩
theorem Ya9 {z:Int} (h:(Lit.int .u16 z).wf=true):0≤z∧z < 65536:=by
 simp [Lit.wf,IntKind.min,IntKind.max,IntKind.signed,IntKind.bits] at h
 exact ⟨O_,O_⟩
theorem Xnw:X2r Tryz.prog 3 (fun z => [pint z]) (fun z => -9223372036854775808≤z∧z≤9223372036854775807):=(Xdi Tryz.underlying3).map id (fun _ _=>rfl) (fun _ h=>Y8n h)
theorem Xy8:X2r Tryz.prog 5 (fun z => [Xh z]) (fun z=>0≤z∧z < 256):=(Xdi Tryz.underlying5).map id (fun _ _=>rfl) (fun _ h=>Y70 h)
theorem Xmc:X2r Tryz.prog 9 (fun z => [pstr z]) (fun z=>z.size≤reachBytes):=(Xj7 Tryz.underlying9).map id (fun _ _=>rfl) (fun _ h=>h)
structure Y7e (o:POp):Prop where
 do_:0≤o.do_∧o.do_ < 256
 n : -9223372036854775808≤o.n∧o.n≤9223372036854775807
 body:o.body.size≤reachBytes
theorem Y2w:X2r Tryz.prog 40 popL Y7e:=
 (Xia Tryz.underlying40 (X7p rfl Xy8 K_ (X7p rfl Xnw K_ (X7p rfl Xmc K_ (X7p rfl (Xp5 Tryz.underlying4) K_ Xln)))) K_).map
  (fun p=>(⟨p.1,p.2.1,p.2.2.1,p.2.2.2.1⟩:POp)) (fun _ _=>rfl) (fun _ h=>⟨h.1,h.2.1,h.2.2.1⟩)
structure X9v (l:List POp):Prop where
 op:∀o∈l,Y7e o
 len:l.length * 40≤reachBytes
theorem Xye:X2r Tryz.prog 23 (fun l => [pops l]) X9v:=
 (X7e Tryz.underlying23 K_ D_ K_ Y2w (fun _ _=>rfl)).map id (fun a _=>rfl) (fun _ h=>⟨h.1,h.2⟩)
theorem Xs0:Z3 Tryz.prog 23 pops X9v:=Xcd Tryz.underlying23 Xye
theorem Xtl:Z3 Tryz.prog 22 (fun z=>.val (.int .u16 z)) (fun z=>0≤z∧z < 65536):=(Xkm Tryz.underlying22).map id (fun _ _=>rfl) (fun _ h=>Ya9 h)
theorem X8l:reachBytes=140737488351232:=rfl
theorem X9v.hl {l:List POp} (h:X9v l):l.length≤1000000000000000:=by have:=h.len;have:=X8l;omega
theorem X9v.hb {l:List POp} (h:X9v l):∀o∈l,o.body.size≤1000000000000000:=fun o ho=>by have:=(h.op o ho).body;have:=X8l;omega
theorem X9v.hn {l:List POp} (h:X9v l):∀o∈l,(-9223372036854775808≤o.n∧o.n≤9223372036854775807)∧0≤o.do_∧o.do_ < 256:=fun o ho=>⟨(h.op o ho).n,(h.op o ho).do_⟩
end
section
open Go.RowKit
theorem Hlt.crash {N k:Nat} {D:DM} (h:Hlt N k D):Hlt N 0 (D.crash [])∧∀q:Nat,q < N→(D.crash []).read q=D.read q:=by
 have hr:∀q:Nat,q < N→(D.crash []).read q=D.read q:=fun q hq=>Zd h.ok [] O_ O_ (by rw [X1d,h.op];rfl)
 exact ⟨⟨X34 h.ok [],rfl,fun q hq=>by rw [hr q hq];exact h.rd q hq⟩,hr⟩
theorem Xjm {P:Program} {f:FuncId} {args args' : List PV} {given res:List (Nat×List PV)} {gm rm:List (Nat×PMap)} {r:PV} (h:Xe P f args given gm r res rm) (hw:X7 args' args):Xe P f args' given gm r res rm:=
 ⟨h.1,fun Φ μ ω w vs himm hgl hrep=>h.2 Φ μ ω w vs himm hgl ⟨hrep.1.trans hw.len,fun j p v h1 h2=>by
  obtain ⟨q,h3,h4⟩:=hw.get j p h1
  exact h4.1 _ _ _ (hrep.2 j q v h3 h2)⟩⟩
def bA:ByteArray:=⟨#[97]⟩
def bB:ByteArray:=⟨#[98]⟩
def bX:ByteArray:=⟨#[120]⟩
def f0:PFrm:=⟨false,0,bA⟩
def f1:PFrm:=⟨false,1,bB⟩
theorem Yb0:(⟨[],0⟩:PSnd).put 0 bA=(⟨[bA],0⟩,0):=rfl
theorem Ybg:(⟨[bA],0⟩:PSnd).put 1 bB=(⟨[bA,bB],0⟩,0):=rfl
theorem Ybd:(⟨[bA,bB],0⟩:PSnd).put 0 bX=(⟨[bA,bB],0⟩,0):=rfl
theorem Ya4:(⟨[bA,bB],0⟩:PSnd).ack 2=(⟨[bA,bB],2⟩,0):=rfl
theorem Yap:((⟨[bA,bB],0⟩:PSnd).frames).take 9 = [f0,f1]:=rfl
theorem Y7s:((⟨[bA,bB],2⟩:PSnd).frames).take 9 = []:=rfl
theorem Y6r:(⟨⟨0,[]⟩,[]⟩:PRcv).take f1=(⟨⟨0,[f1]⟩,[]⟩,[],0):=rfl
theorem Y6i:(⟨⟨0,[f1]⟩,[]⟩:PRcv).take f0=(⟨⟨2,[]⟩,[bA,bB]⟩,[f0,f1],0):=rfl
theorem Y6z:(⟨⟨2,[]⟩,[bA,bB]⟩:PRcv).take f0=(⟨⟨2,[]⟩,[bA,bB]⟩,[],0):=rfl
theorem X6z:Xs Tryz.prog 9 [] (· = Y1 true):=by
 have z0:((0:Nat):Int)=0:=rfl
 have z3:((300:Nat):Int)=300:=rfl
 have hrm:=Xl2
 have kN:=Xik 600 O_ 900001 900002 900003 D_
 rw [show (600:Int).toNat=600 from rfl] at kN
 obtain ⟨h0,hn⟩:=Hlt.new 600 O_
 obtain ⟨hS0,-⟩:=hn 0 O_
 obtain ⟨-,hR0⟩:=hn 300 O_
 have hlen:(newD 600).cells.length=600:=h0.ok.len
 generalize newD 600=D0 at *
 have kOs:=X2p h0.ok.go 0 O_ O_ O_ (h0.recP hS0.head O_) rfl (h0.small O_).1 (h0.small O_).2 0 [] D_ hS0.num' hS0.notes 900004 900001 900002 900003 900005 D_
 have kOr:=X77 h0.ok.go 300 O_ O_ O_ (h0.recP hR0.head O_) rfl (h0.small O_).1 (h0.small O_).2 0 0 O_ O_ hR0.num' 900006 900001 900002 900003 900007 D_
 have kOe:=Xnl D0 600 hlen O_ 330 O_ O_ 900001 900002 900003 D_
 obtain ⟨Q1,a1,b1,h1,hS1,hT1,ap1⟩:=Xnv SndT.new h0 hS0 O_ O_ 0 bA
 have kP1:=Xjn h0.ok.go 0 O_ O_ O_ O_ (outQ 0 []) (K6 O_ D_) 0 bA O_ D_ 900004 900001 900002 900003 900005 D_
 rw [a1] at b1
 rw [a1,b1] at kP1
 rw [Yb0] at hT1 kP1
 have hR1:=hR0.keep (ap1 300 O_ O_)
 generalize (D0.sput (600:Nat) (0:Nat) (outQ 0 []) 0 bA).2=D1 at *
 obtain ⟨Q2,a2,b2,h2,hS2,hT2,ap2⟩:=Xnv hT1 h1 hS1 O_ O_ 1 bB
 have kP2:=Xjn h1.ok.go 0 O_ O_ O_ O_ (outQ 0 Q1) (K6 O_ hS1.few) 1 bB O_ D_ 900004 900001 900002 900003 900005 D_
 rw [a2] at b2
 rw [a2,b2] at kP2
 rw [Ybg] at hT2 kP2
 have hR2:=hR1.keep (ap2 300 O_ O_)
 generalize (D1.sput (600:Nat) (0:Nat) (outQ 0 Q1) 1 bB).2=D2 at *
 obtain ⟨Q3,a3,b3,h3,hS3,hT3,ap3⟩:=Xnv hT2 h2 hS2 O_ O_ 0 bX
 have kP3:=Xjn h2.ok.go 0 O_ O_ O_ O_ (outQ 0 Q2) (K6 O_ hS2.few) 0 bX O_ D_ 900004 900001 900002 900003 900005 D_
 rw [a3] at b3
 rw [a3,b3] at kP3
 rw [Ybd] at hT3 kP3
 have hR3:=hR2.keep (ap3 300 O_ O_)
 generalize (D2.sput (600:Nat) (0:Nat) (outQ 0 Q2) 0 bX).2=D3 at *
 have kE:=X09 D3 0 (outQ 0 Q3) (K6 O_ hS3.few) 900004 900001 900002 900003 900005 D_
 rw [show (outQ 0 Q3).base+((outQ 0 Q3).queue.length:Nat)=2 by
  have:=hT3.el
  change (2:Nat)=0+Q3.length at this
  show ((0:Nat):Int)+((Kl Q3).length:Nat)=2
  rw [Vu]
  omega] at kE
 have kF:=X1n D3 0 (outQ 0 Q3) (K6 O_ hS3.few) rfl 9 O_ 900004 900001 900002 900003 900005 D_
 rw [hT3.frames,Yap] at kF
 have kSF:=Kp [f0,f1] [f0,f1] D_ D_
 rw [decide_eq_true rfl] at kSF
 have hb0:∀{i:PIn},InOK i→True:=fun _=>trivial
 -- the receiver
 have hW0:=RcvT.new
 obtain ⟨L1,c1,d1,e1,g1,hR4,hW1,-,ap4⟩:=Xft hW0 h3 hR3 O_ D_ f1 (by rw [Y6r];decide)
 have kT1:=Xhb h3.ok.go 300 O_ O_ O_ O_ ⟨0,[]⟩ hW0.ib f1 D_ D_ 900006 900001 900002 900003 900007 D_
 rw [c1,d1,e1] at kT1
 rw [Y6r] at hW1 kT1 g1
 have hS4:=hS3.keep (ap4 0 O_ O_)
 generalize (D3.rcv 600 300 ⟨0,[]⟩ f1).D=D4 at *
 obtain ⟨L2,c2,d2,e2,g2,hR5,hW2,hl2,ap5⟩:=Xft hW1 g1 hR4 O_ (by have:=hW1.en;change (0:Int)=_ at this;omega) f0 (by rw [Y6i];decide)
 have kT2:=Xhb g1.ok.go 300 O_ O_ O_ D_ ⟨0,[f1]⟩ hW1.ib f0 D_ D_ 900006 900001 900002 900003 900007 D_
 rw [c2,d2,e2] at kT2
 rw [Y6i] at hW2 kT2 g2
 have hS5:=hS4.keep (ap5 0 O_ O_)
 generalize (D4.rcv 600 300 ⟨0,[f1]⟩ f0).D=D5 at *
 have hL2:L2.length=2:=by have:=hW2.en;change (2:Int)=_ at this;omega
 obtain ⟨L3,c3,d3,e3,g3,hR6,hW3,hl3,ap6⟩:=Xft hW2 g2 hR5 O_ O_ f0 (by rw [Y6z];decide)
 have kT3:=Xhb g2.ok.go 300 O_ O_ O_ D_ ⟨2,[]⟩ hW2.ib f0 D_ D_ 900006 900001 900002 900003 900007 D_
 rw [c3,d3,e3] at kT3
 rw [Y6z] at hW3 kT3 g3
 have hS6:=hS5.keep (ap6 0 O_ O_)
 generalize (D5.rcv 600 300 ⟨2,[]⟩ f0).D=D6 at *
 have hL3:L3.length=2:=by have:=hW3.en;change (2:Int)=_ at this;omega
 have kNx:=X9e D6 300 ⟨2,[]⟩ 900006 900001 900002 900003 900007 D_
 have hd1:(L3.drop 1).length=1:=by rw [L_,hL3]
 have kSi:=Xaj D6 300 1 [] (L3.drop 1) O_ O_ O_ (g3.small O_).1 (g3.small O_).2 (hR6.notes O_) 900006 900001 900002 900003 900007 D_
 have hbL:Kl L3 = [bA,bB]:=hW3.el.symm
 rw [hd1,X0y,hbL,show ([bA,bB]:List ByteArray).drop 1 = [bB] from rfl,show ((1+1:Nat):Int)=2 from rfl,show ((1:Nat):Int)=1 from rfl,z3] at kSi
 have kSe:=Xiu D6 300 ⟨2,[]⟩ 3 (.inr D_) 900006 900001 900002 900003 900007 D_
 -- the sender
 obtain ⟨a',Q4,a4,b4,h7,hS7,hT7,ap7⟩:=Y0q hT3 g3 hS6 O_ D_ 2
 have kA:=Xvd g3.ok.go 0 O_ O_ O_ D_ (outQ 0 Q3) (K6 O_ hS6.few) rfl 2 900004 900001 900002 900003 900005 D_
 rw [a4] at b4
 rw [a4,b4] at kA
 rw [Ya4] at hT7 kA
 have hR7:=hR6.keep (ap7 300 O_ O_)
 generalize (D6.sack (600:Nat) (0:Nat) (outQ 0 Q3) 2).2=D7 at *
 have ha' : a' = 2:=by have:=hT7.ea;change (2:Int)=_ at this;omega
 subst ha'
 have kF2:=X1n D7 0 (outQ 2 Q4) (K6 O_ hS7.few) rfl 9 O_ 900004 900001 900002 900003 900005 D_
 rw [hT7.frames,Y7s] at kF2
 have kAc:=V4 D7 0 (outQ 2 Q4) 900004 900001 900002 900003 900005 D_
 -- the failure
 have kCr:=Xmu D7 [] (by rw [h7.ok.len];decide) (by rw [h7.ok.len];exact h7.ok.op) (by rw [h7.op];decide) D_ S_ 900001 900002 900003 900008 900009 900010 D_
 obtain ⟨h8,r8⟩:=h7.crash
 have hR8:=hR7.keep (E:=D7.crash []) (fun q _ _=>r8 q O_)
 generalize D7.crash []=D8 at *
 have kOr2:=X77 h8.ok.go 300 O_ O_ O_ (h8.recP hR8.head O_) rfl (h8.small O_).1 (h8.small O_).2 L3.length 0 O_ O_ hR8.num' 900011 900008 900009 900010 900012 D_
 rw [hL3] at kOr2
 have kSz:=Xaj D8 300 0 [] (L3.drop 0) O_ (by rw [List.drop_zero];omega) (by rw [List.drop_zero];omega) (h8.small O_).1 (h8.small O_).2 (hR8.notes O_) 900011 900008 900009 900010 900012 D_
 rw [List.drop_zero,hL3,hbL,show ((0+2:Nat):Int)=2 from rfl,z0,z3] at kSz
 have kNz:=X9e D8 300 ⟨2,[]⟩ 900011 900008 900009 900010 900012 D_
 rw [show ((9:Nat):Int)=9 from rfl] at kF kF2
 rw [show inQ 0=⟨0,[]⟩ from rfl] at kOr
 rw [show inQ 2=⟨2,[]⟩ from rfl] at kOr2
 rw [z0] at kOs kP1 kP2 kP3 kA
 rw [z3] at kOr kT1 kT2 kT3 kOr2
 dsimp only at kOs kOr kP1 kP2 kP3 kT1 kT2 kT3 kNx kA kOr2 kNz
 rw [show Kg [] = [] from rfl] at kT1 kT3
 rw [show Kg [f0,f1] = [bA,bB] from rfl] at kT2
 rw [show (outQ 2 Q4).acked=2 from rfl] at kAc
 have kSm:=X2h [bA,bB] [bA,bB] D_ D_
 have kSb:=X2h [bB] [bB] D_ D_
 rw [decide_eq_true rfl] at kSm kSb
 have kCr' : Xe Tryz.prog 30 [.ptr 900001 0, .nilsl] (dG 900001 900002 900003 D7) (dMs 900003 D7) (.ptr 900008 0) (crG 900001 900002 900003 900008 900009 900010 D7 D8) (crM 900003 900010 D7 D8):=Xjm kCr (.cons (.refl _) (.cons (.nil 1) .nil))
 clear kCr
 have q1:Xp [f0,f1] = .sl 2 3 [Y1 false,pint 0,pstr bA,Y1 false,pint 1,pstr bB] none:=rfl
 have q2:Xp [] = .sl 0 3 [] none:=rfl
 have q3:Xr [bA,bB] = .sl 2 1 [pstr bA,pstr bB] none:=rfl
 have q4:Xr [bB] = .sl 1 1 [pstr bB] none:=rfl
 have q5:Xr [] = .sl 0 1 [] none:=rfl
 have q6:pfrm f0 = .agg [Y1 false,pint 0,pstr bA]:=rfl
 have q7:pfrm f1 = .agg [Y1 false,pint 1,pstr bB]:=rfl
 rw [q1] at kF kSF
 rw [q2] at kF2
 rw [q3] at kT2 kSm kSz
 rw [q4] at kSi kSb
 rw [q5] at kT1 kT3
 rw [q6] at kT2 kT3
 rw [q7] at kT1
 clear q1 q2 q3 q4 q5 q6 q7
 clear z0 z3 h0 hn hS0 hR0 hlen a1 b1 h1 hS1 hT1 ap1 hR1 a2 b2 h2 hS2 hT2 ap2 hR2 a3 b3 h3 hS3 hT3 ap3 hR3 hb0 hW0 c1 d1 e1 g1 hR4 hW1 ap4 hS4 c2 d2 e2 g2 hR5 hW2 hl2 ap5 hS5 hL2 c3 d3 e3 g3 hR6 hW3 hl3 ap6 hS6 hL3 hd1 hbL a4 b4 h7 hS7 hT7 ap7 hR7 h8 r8 hR8
 have lq:=fun Q:List Body=>(Xb (Kl Q)).2 trivial
 have lz0:Low (Xp []):=(Xf _).2 trivial
 have ukT1:=fun _:Unit=>kT1
 have ukT2:=fun _:Unit=>kT2
 have ukT3:=fun _:Unit=>kT3
 have ukNx:=fun _:Unit=>kNx
 have ukSi:=fun _:Unit=>kSi
 have ukSe:=fun _:Unit=>kSe
 have ukA:=fun _:Unit=>kA
 have ukF2:=fun _:Unit=>kF2
 have ukAc:=fun _:Unit=>kAc
 have ukCrq:=fun _:Unit=>kCr'
 have ukOr2:=fun _:Unit=>kOr2
 have ukSz:=fun _:Unit=>kSz
 have ukNz:=fun _:Unit=>kNz
 have ukSm:=fun _:Unit=>kSm
 have ukSb:=fun _:Unit=>kSb
 have ukSF:=fun _:Unit=>kSF
 clear kT1 kT2 kT3 kNx kSi kSe kA kF2 kAc kCr' kOr2 kSz kNz kSm kSb kSF
 refine Xd X6 Tryz.func9 rfl K_ S_ S_ N_ ?_
 refine wg ?_
 refine PW.region X6 K_ ?_
 refine wg ?_
 refine PW.region X6 K_ ?_
 refine wg ?_
 refine PW.region X6 K_ ?_
 refine wg ?_
 refine PW.region X6 K_ ?_
 refine wg ?_
 refine PW.region X6 K_ ?_
 refine wg ?_
 refine PW.region X6 K_ ?_
 refine wg ?_
 refine PW.region X6 K_ ?_
 refine wg ?_
 refine PW.region X6 K_ ?_
 refine wg ?_
 refine PW.cutT (fun _:Unit=>(bot.setb 900004 (sC 900001 900005 0 (outQ 0 Q3)) |>.setb 900005 (jB 900001 0 12) |>.setb 900006 (rvC 900001 900007 300 ⟨0,[]⟩) |>.setb 900007 (jB 900001 300 12) |>.setb 900001 (dB 900002 900003 D3) |>.setb 900002 (dC D3) |>.setm 900003 (dM D3)|>.put 1 (.ptr 900001 0) |>.put 2 (.ptr 900004 0) |>.put 4 (.ptr 900006 0) |>.put 8 (.sl 2 3 [Y1 false,pint 0,pstr bA,Y1 false,pint 1,pstr bB] none) |>.put 9 (pint 0))) (fun _=>True) ?_ ?_
 ·--1
  have cc3:=Xm D3
  have cm3:=Xi D3
  refine wk ?_
  refine midP () trivial ?_
  exact sb
  --2
 rintro ⟨⟩ -
 clear kN kOs kOr kOe kP1 kP2 kP3 kE kF hrm
 have kSF:=ukSF ()
 have kT1:=ukT1 ()
 have kT2:=ukT2 ()
 refine wg ?_
 refine PW.region X6 K_ ?_
 refine wg ?_
 refine PW.region X6 K_ ?_
 refine wg ?_
 refine PW.region X6 K_ ?_
 refine wg ?_
 have kT3:=ukT3 ()
 clear kT2
 refine PW.cutT (fun _:Unit=>(bot.setb 900004 (sC 900001 900005 0 (outQ 0 Q3)) |>.setb 900005 (jB 900001 0 12) |>.setb 900006 (rvC 900001 900007 300 ⟨2,[]⟩) |>.setb 900007 (jB 900001 300 12) |>.setb 900001 (dB 900002 900003 D6) |>.setb 900002 (dC D6) |>.setm 900003 (dM D6)|>.put 1 (.ptr 900001 0) |>.put 2 (.ptr 900004 0) |>.put 4 (.ptr 900006 0) |>.put 10 (.sl 0 1 [] none) |>.put 11 (pint 0) |>.put 12 (.sl 2 1 [pstr bA,pstr bB] none) |>.put 13 (pint 0) |>.put 14 (.sl 0 1 [] none) |>.put 15 (pint 0))) (fun _=>True) ?_ ?_
 ·--1
  have cc6:=Xm D6
  have cm6:=Xi D6
  refine wk ?_
  refine midP () trivial ?_
  exact sb
  --2
 rintro ⟨⟩ -
 clear kT1 kT3 kSF
 have kSm:=ukSm ()
 have kNx:=ukNx ()
 have kSi:=ukSi ()
 have kSe:=ukSe ()
 have kA:=ukA ()
 refine wg ?_
 refine PW.region X6 K_ ?_
 refine wg ?_
 refine PW.region X6 K_ ?_
 refine wg ?_
 refine PW.region X6 K_ ?_
 refine wg ?_
 refine PW.region X6 K_ ?_
 refine wg ?_
 have kF2:=ukF2 ()
 refine PW.cutT (fun _:Unit=>(bot.setb 900004 (sC 900001 900005 0 (outQ 2 Q4)) |>.setb 900005 (jB 900001 0 12) |>.setb 900001 (dB 900002 900003 D7) |>.setb 900002 (dC D7) |>.setm 900003 (dM D7) |>.put 1 (.ptr 900001 0) |>.put 2 (.ptr 900004 0) |>.put 16 (.sl 1 1 [pstr bB] none) |>.put 17 (pint 0) |>.put 19 (pint 1) |>.put 20 (pint 0) |>.put 21 (.sl 0 3 [] none) |>.put 22 (pint 0))) (fun _=>True) ?_ ?_
 ·--1
  have cc7:=Xm D7
  have cm7:=Xi D7
  refine wk ?_
  refine midP () trivial ?_
  exact sb
  --2
 rintro ⟨⟩ -
 clear kF2 kA kNx kSi kSe kSm
 have kCr':=ukCrq ()
 have kOr2:=ukOr2 ()
 refine wg ?_
 refine PW.region X6 K_ ?_
 refine wg ?_
 refine PW.cutT (fun _:Unit=>(bot.setb 900004 (sC 900001 900005 0 (outQ 2 Q4)) |>.setb 900005 (jB 900001 0 12) |>.setb 900001 (dB 900002 900003 D7) |>.setb 900002 (dC D7) |>.setm 900003 (dM D7) |>.setb 900011 (rvC 900008 900012 300 ⟨2,[]⟩) |>.setb 900012 (jB 900008 300 12) |>.setb 900008 (dB 900009 900010 D8) |>.setb 900009 (dC D8) |>.setm 900010 (dM D8) |>.put 2 (.ptr 900004 0) |>.put 16 (.sl 1 1 [pstr bB] none) |>.put 17 (pint 0) |>.put 19 (pint 1) |>.put 20 (pint 0) |>.put 21 (.sl 0 3 [] none) |>.put 22 (pint 0) |>.put 24 (.ptr 900011 0) |>.put 25 (pint 0))) (fun _=>True) ?_ ?_
 ·--1
  have cc7:=Xm D7
  have cm7:=Xi D7
  have cc8:=Xm D8
  have cm8:=Xi D8
  refine wk ?_
  refine midP () trivial ?_
  exact sb
  --2
 rintro ⟨⟩ -
 clear kCr' kOr2
 have kSb:=ukSb ()
 have kAc:=ukAc ()
 have kSz:=ukSz ()
 have kNz:=ukNz ()
 have kSm:=ukSm ()
 refine wk ?_
 exact retP rfl (.val _) rfl
theorem Xdf:Xs Tryz.prog 12 [] (· = pint 271):=by
 refine Xd X6 Tryz.func12 rfl K_ (by simp [Xo,Xx,Y0,Xy,Xw,Xb,Xb]) (by simp [pint,Kd,pstr,Y1,Xr,Yp,PV.ownB,Xr]) (by rw [Tryz.ntmps12];simp) ?_
 rw [Tryz.ntmps12,Tryz.results12]
 refine wk ?_
 exact retP rfl (.val _) rfl
end
end Go.Proofs.YtmciloafahkolaaGreatDoor
