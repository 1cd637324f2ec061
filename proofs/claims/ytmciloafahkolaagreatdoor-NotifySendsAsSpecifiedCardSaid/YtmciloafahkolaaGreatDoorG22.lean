/- Out of: Nk, Nl, Nm, Nn, No, Np, Nq, Nr, Ns, Nt, Nz3, Nz4, Nz5, Nz6. -/
import Derived.Test.YtmciloafahkolaaGreatDoorG19
namespace Go.Proofs.YtmciloafahkolaaGreatDoor
set_option maxRecDepth 100000
set_option maxHeartbeats 40000000
set_option linter.unusedSimpArgs false
set_option linter.unusedVariables false
set_option linter.unnecessarySimpa false
section
open Go.RowKit
theorem Y28:Yl 12=14:=D_
theorem Xup (l:List PPut) (a b c:PV) (ha:a.ownB=false) (hb:b.ownB=false) (hc:c.ownB=false):Xte [a,b,c,ppO l]:=by
 intro i n k cs E h
 match i,h with
 |0,h=>simp only [List.getElem?_cons_zero,Option.some.injEq] at h;rw [h] at ha;cases ha
 |1,h=>simp only [List.getElem?_cons_succ,List.getElem?_cons_zero,Option.some.injEq] at h;rw [h] at hb;cases hb
 |2,h=>simp only [List.getElem?_cons_succ,List.getElem?_cons_zero,Option.some.injEq] at h;rw [h] at hc;cases hc
 |3,h=>
  simp only [List.getElem?_cons_succ,List.getElem?_cons_zero,Option.some.injEq,ppO,PV.sl.injEq] at h
  obtain ⟨-,-,rfl,-⟩:=h
  cases l with
  |nil=>exact .inl rfl
  |cons p l=>
   refine .inr ⟨1,Xh (p.dat.1.getD 0 0),?_,rfl⟩
   rw [List.flatMap_cons,List.getElem?_append_left (by rw [Yi];omega)]
   show (secL p.dat)[0]? = _
   exact X1b _ 0 O_
 |i+4,h=>simp at h
theorem Xq9 (l:List PPut) (p:PPut):Yo (l ++ [p]) = .sl (l.length+1) 65 (l.flatMap putL ++ putL p) none:=by
 unfold Yo
 simp [List.flatMap_append]
theorem Y3w {N k:Nat} {D:DM} (h:GoD N k D) (at_:Nat) (ha:at_≤1000000000) (hN:at_+271≤N) (hNN:N≤100000000) (hk:k+10000≤100000000) (x y:Int) (l:List PPut) (hl:l.length≤1000) :
  X27 Tryz.prog 51 [X00 1000001 1000004 at_,pint x,pint y,ppO l] (jG 1000001 1000002 1000003 1000004 at_ 12 D) (dMs 1000003 D) (pint (D.applyR N at_ 12 (l ++ [Xu at_ x y])).1) (jG 1000001 1000002 1000003 1000004 at_ 12 (D.applyR N at_ 12 (l ++ [Xu at_ x y])).2) (dMs 1000003 (D.applyR N at_ 12 (l ++ [Xu at_ x y])).2):=by
 have c1:=Xm D
 have c2:=Xi D
 have kh:=Xfj D at_ O_ 1000001 1000002 1000003 1000004 D_
 have kn:=Xcu x y
 have kA:=Xnp at_ 12 h O_ D_ D_ (by rw [Y28];omega) hNN (l ++ [Xu at_ x y]) (by simp;omega) hk 1000001 1000002 1000003 1000004 D_
 rw [Xq9] at kA
 have hlo:=X4c l
 have e3:∀D,X0 (jG 1000001 1000002 1000003 1000004 at_ 12 D) (dMs 1000003 D) = [1000004,1000001,1000002,1000003]:=fun _=>rfl
 generalize D.applyR N at_ 12 (l ++ [Xu at_ x y])=R at *
 refine X9t X6 Tryz.func51 rfl rfl (Xup l _ _ _ rfl rfl rfl) N_ (by rw [e3];decide) (by rw [e3];decide) ⟨by rw [e3];exact X9 (Ze D_ D_ _) (X9 (.val _) (X9 (.val _) (X9 hlo.lowI Y2))),by rw [e3];exact X7a D_ D_ D_ _ _ _,K4 _ _,by rw [e3];exact .val _,by rw [e3];exact X7a D_ D_ D_ _ _ _,K4 _ _,by simp [jG,dG],by simp [dMs]⟩ ?_
 unfold ppO
 refine wk ?_
 exact RetH.mk rfl (Weak.refl _) aw0 am0
theorem Xwt {N k:Nat} {D:DM} (h:GoD N k D) (at_:Nat) (ha:at_≤1000000000) (hN:at_+271≤N) (hNN:N≤100000000) (hk:k+10000≤100000000) (x y:Int) :
  Xe Tryz.prog 51 [X00 1000001 1000004 at_,pint x,pint y, .nilsl] (jG 1000001 1000002 1000003 1000004 at_ 12 D) (dMs 1000003 D) (pint (D.applyR N at_ 12 [Xu at_ x y]).1) (jG 1000001 1000002 1000003 1000004 at_ 12 (D.applyR N at_ 12 [Xu at_ x y]).2) (dMs 1000003 (D.applyR N at_ 12 [Xu at_ x y]).2):=by
 have c1:=Xm D
 have c2:=Xi D
 have kh:=Xfj D at_ O_ 1000001 1000002 1000003 1000004 D_
 have kn:=Xcu x y
 have kA:=Xnp at_ 12 h O_ D_ D_ (by rw [Y28];omega) hNN [Xu at_ x y] S_ hk 1000001 1000002 1000003 1000004 D_
 rw [show Yo [Xu at_ x y] = .sl 1 65 (putL (Xu at_ x y)) none by simp [Yo]] at kA
 generalize D.applyR N at_ 12 [Xu at_ x y]=R at *
 refine X44 Tryz.func51 rfl rfl (X9 (Ze D_ D_ _) (X9 (.val _) (X9 (.val _) (X9 .nilsl Y2)))) (by simp [X00,pint,PV.ownB]) N_ (.val _) ?_
 refine wk ?_
 exact RetH.mk rfl (Weak.refl _) aw0 am0
theorem Y1t {N k:Nat} {D:DM} (h:GoD N k D) (at_:Nat) (ha:at_≤1000000000) (hN:at_+271≤N) (hNN:N≤100000000) (hk:k+10000≤100000000) (x y:Int) (d c m j:Nat) (hd:([d,c,m,j]:List Nat).Nodup) :
  Xe Tryz.prog 51 [X00 d j at_,pint x,pint y, .nilsl] (jG d c m j at_ 12 D) (dMs m D) (pint (D.applyR N at_ 12 [Xu at_ x y]).1) (jG d c m j at_ 12 (D.applyR N at_ 12 [Xu at_ x y]).2) (dMs m (D.applyR N at_ 12 [Xu at_ x y]).2):=
 Xkb (Xwt h at_ ha hN hNN hk x y) (by simp [Xo,X3p]) (.val _) d c m j hd
theorem Y0p {N k:Nat} {D:DM} (h:GoD N k D) (at_:Nat) (ha:at_≤1000000000) (hN:at_+271≤N) (hNN:N≤100000000) (hk:k+10000≤100000000) (x y:Int) (l:List PPut) (hl:l.length≤1000) (d c m j:Nat) (hd:([d,c,m,j]:List Nat).Nodup) :
  X27 Tryz.prog 51 [X00 d j at_,pint x,pint y,ppO l] (jG d c m j at_ 12 D) (dMs m D) (pint (D.applyR N at_ 12 (l ++ [Xu at_ x y])).1) (jG d c m j at_ 12 (D.applyR N at_ 12 (l ++ [Xu at_ x y])).2) (dMs m (D.applyR N at_ 12 (l ++ [Xu at_ x y])).2):=by
 have e:∀D,X0 (jG 1000001 1000002 1000003 1000004 at_ 12 D) (dMs 1000003 D) = [1000004,1000001,1000002,1000003]:=fun _=>rfl
 have hM:∀D,Kc (renN (ids4 d c m j)) (fun i=>i ∈ [1000004,1000001,1000002,1000003]) (dMs 1000003 D) (dMs m D):=fun D=>Kc.cons _ _ _ _ _ (RenM.low (Xi _)) Kc.nil
 exact (Y3w h at_ ha hN hNN hk x y l hl).at (ids4 d c m j) (by simpa [ids4] using hd) (by rw [e];simp [ids4]) (by simp [jG,dG]) (by simp [dMs]) (by rw [e];exact .cons (Xnq at_) (.cons (.low _ (.val _)) (.cons (.low _ (.val _)) (.cons (.low _ (X4c l)) .nil)))) (by rw [e];exact Xo3 at_ D) (by rw [e];exact hM _) (by rw [e];exact .low _ (.val _)) (by rw [e];exact Xo3 at_ _) (by rw [e];exact hM _)
def sC (d j:Nat) (at_:Int) (o:POut):List PV := [.ptr d 0, .ptr j 0,pint at_,pint o.base,pint o.acked,pstr o.sum,Xr o.queue]
def sG (s d c m j:Nat) (at_:Int) (o:POut) (D:DM):List (Nat×List PV):=(s,sC d j at_ o) :: jG d c m j at_ 12 D
theorem Y22 {S:Nat→Prop} {d j:Nat} (hd:S d) (hj:S j) (at_:Int) (o:POut):∀c∈sC d j at_ o,LowI S c:=X9 (.ptr _ _ hd) (X9 (.ptr _ _ hj) (X9 (.val _) (X9 (.val _) (X9 (.val _) (X9 (.val _) (X9 ((Xb _).2 trivial).lowI Y2))))))
theorem Xgm {S:Nat→Prop} {s d c m j:Nat} (hd:S d) (hc:S c) (hm:S m) (hj:S j) (at_:Int) (o:POut) (D:DM):∀x∈sG s d c m j at_ o D,∀p∈x.2,LowI S p:=
 Yt (Y22 hd hj at_ o) (X7a hd hc hm at_ 12 D)
def ids5 (s d c m j:Nat):List (Nat×Nat) := [(1000005,s),(1000001,d),(1000002,c),(1000003,m),(1000004,j)]
theorem Y05 {s d c m j:Nat} (at_:Int) (o:POut) (D:DM):RenB (renN (ids5 s d c m j)) (fun i=>i ∈ [1000005,1000004,1000001,1000002,1000003]) (sG 1000005 1000001 1000002 1000003 1000004 at_ o D) (sG s d c m j at_ o D):=
 RenB.cons _ _ _ _ _ (.cons (.ptr _ _ S_) (.cons (.ptr _ _ S_) (.cons (.low _ (.val _)) (.cons (.low _ (.val _)) (.cons (.low _ (.val _)) (.cons (.low _ (.val _)) (.cons (.low _ ((Xb _).2 trivial)) .nil))))))) (RenB.cons _ _ _ _ _ (.cons (.ptr _ _ S_) (.cons (.low _ (.val _)) (.cons (.low _ (.val _)) .nil))) (RenB.cons _ _ _ _ _ (.cons (.msl _ _ _ _ S_) (.cons (.mref _ S_) (.cons (.low _ (.val _)) (.cons (.low _ (.val _)) (.cons (.low _ (.val _)) .nil))))) (RenB.cons _ _ _ _ _ (RenL.low (Xm _)) RenB.nil)))
theorem X0f {f:FuncId} {fn:Func} {c:Code} {args:List PV} {o o' : POut} {D D' : DM} {r:PV} {at_:Int} (hf:Tryz.prog.funcs[f]? = some fn) (hb:fn.body=some c) (hcb:X28 Tryz.prog f=true) (hlow:∀p∈args,LowI (fun i=>i ∈ [1000005,1000004,1000001,1000002,1000003]) p) (hno:∀p∈args,p.ownB=false) (hn:args.length≤fn.ntmps) (hr:LowI (fun i=>i ∈ [1000005,1000004,1000001,1000002,1000003]) r)
  (h:PW Tryz.prog fn.ntmps c (RetH X9l fn.results.toList r (sG 1000005 1000001 1000002 1000003 1000004 at_ o' D') (dMs 1000003 D')) (Za args (sG 1000005 1000001 1000002 1000003 1000004 at_ o D) (dMs 1000003 D))):Xe Tryz.prog f args (sG 1000005 1000001 1000002 1000003 1000004 at_ o D) (dMs 1000003 D) r (sG 1000005 1000001 1000002 1000003 1000004 at_ o' D') (dMs 1000003 D'):=by
 have r3:∀o D,X0 (sG 1000005 1000001 1000002 1000003 1000004 at_ o D) (dMs 1000003 D) = [1000005,1000004,1000001,1000002,1000003]:=fun _ _=>rfl
 refine Xn X6 hf hb hcb hno hn (by rw [r3];decide) (by rw [r3];decide) ⟨by rw [r3];exact hlow,?_,?_,by rw [r3];exact hr,?_,?_,by simp [sG,jG,dG],by simp [dMs]⟩ h
 ·rw [r3];exact Xgm D_ D_ D_ D_ _ _ _
 ·exact K4 _ _
 ·rw [r3];exact Xgm D_ D_ D_ D_ _ _ _
 ·exact K4 _ _
theorem Xba {f:FuncId} {args args' : List PV} {o o' : POut} {D D' : DM} {r r' : PV} {at_:Int} (h:Xe Tryz.prog f args (sG 1000005 1000001 1000002 1000003 1000004 at_ o D) (dMs 1000003 D) r (sG 1000005 1000001 1000002 1000003 1000004 at_ o' D') (dMs 1000003 D')) (s d c m j:Nat) (hd:([s,d,c,m,j]:List Nat).Nodup)
  (ha:RenL (renN (ids5 s d c m j)) (fun i=>i ∈ [1000005,1000004,1000001,1000002,1000003]) args args') (hr:Ren (renN (ids5 s d c m j)) (fun i=>i ∈ [1000005,1000004,1000001,1000002,1000003]) r r'):Xe Tryz.prog f args' (sG s d c m j at_ o D) (dMs m D) r' (sG s d c m j at_ o' D') (dMs m D'):=by
 have e:∀o D,X0 (sG 1000005 1000001 1000002 1000003 1000004 at_ o D) (dMs 1000003 D) = [1000005,1000004,1000001,1000002,1000003]:=fun _ _=>rfl
 have hM:∀D,Kc (renN (ids5 s d c m j)) (fun i=>i ∈ [1000005,1000004,1000001,1000002,1000003]) (dMs 1000003 D) (dMs m D):=fun D=>Kc.cons _ _ _ _ _ (RenM.low (Xi _)) Kc.nil
 exact h.at (ids5 s d c m j) (by simpa [ids5] using hd) (by rw [e];simp [ids5]) (by simp [sG,jG,dG]) (by simp [dMs]) (by rw [e];exact ha) (by rw [e];exact Y05 at_ o D) (by rw [e];exact hM _) (by rw [e];exact hr) (by rw [e];exact Y05 at_ o' D') (by rw [e];exact hM _)
theorem Y46 (D:DM) (at_:Int) (o:POut) (h:Zm o):Xe Tryz.prog 20 [.ptr 1000005 0] (sG 1000005 1000001 1000002 1000003 1000004 at_ o D) (dMs 1000003 D) (pint (o.base+o.queue.length)) (sG 1000005 1000001 1000002 1000003 1000004 at_ o D) (dMs 1000003 D):=by
 obtain ⟨b,a,l,-,-⟩:=h
 refine X0f Tryz.func20 rfl rfl (X9 (.ptr _ _ D_) Y2) (by simp [PV.ownB]) N_ (.val _) ?_
 refine wk ?_
 exact RetH.mk rfl (Weak.refl _) aw0 am0
theorem X09 (D:DM) (at_:Int) (o:POut) (h:Zm o) (s d c m j:Nat) (hd:([s,d,c,m,j]:List Nat).Nodup):Xe Tryz.prog 20 [.ptr s 0] (sG s d c m j at_ o D) (dMs m D) (pint (o.base+o.queue.length)) (sG s d c m j at_ o D) (dMs m D):=
 Xba (Y46 D at_ o h) s d c m j hd (.cons (.ptr _ _ S_) .nil) (.low _ (.val _))
theorem Xt5 (D:DM) (at_:Int) (o:POut):Xe Tryz.prog 21 [.ptr 1000005 0] (sG 1000005 1000001 1000002 1000003 1000004 at_ o D) (dMs 1000003 D) (pint o.acked) (sG 1000005 1000001 1000002 1000003 1000004 at_ o D) (dMs 1000003 D):=by
 refine X0f Tryz.func21 rfl rfl (X9 (.ptr _ _ D_) Y2) (by simp [PV.ownB]) N_ (.val _) ?_
 refine wk ?_
 exact RetH.mk rfl (Weak.refl _) aw0 am0
theorem V4 (D:DM) (at_:Int) (o:POut) (s d c m j:Nat) (hd:([s,d,c,m,j]:List Nat).Nodup):Xe Tryz.prog 21 [.ptr s 0] (sG s d c m j at_ o D) (dMs m D) (pint o.acked) (sG s d c m j at_ o D) (dMs m D):=
 Xba (Xt5 D at_ o) s d c m j hd (.cons (.ptr _ _ S_) .nil) (.low _ (.val _))
theorem Xpp (D:DM) (at_:Int) (o:POut) (h:Zm o) (ha:o.acked=o.base) (most:Nat) (hm:most≤9223372036854775807):Xe Tryz.prog 18 [.ptr 1000005 0,pint most] (sG 1000005 1000001 1000002 1000003 1000004 at_ o D) (dMs 1000003 D) (.tup [Xp ((Kq o).take most),pint 0]) (sG 1000005 1000001 1000002 1000003 1000004 at_ o D) (dMs 1000003 D):=by
 have k:=Xfr o h ha most hm
 have hl:Low (Xp ((Kq o).take most)):=(Xf _).2 trivial
 refine X0f Tryz.func18 rfl rfl (X9 (.ptr _ _ D_) (X9 (.val _) Y2)) (by simp [pint,PV.ownB]) N_ (Km.2 (by simp [Xo,Xf])).lowI ?_
 generalize (Kq o).take most=F at *
 refine wk ?_
 exact RetH.mk rfl (Weak.refl _) aw0 am0
theorem X1n (D:DM) (at_:Int) (o:POut) (h:Zm o) (ha:o.acked=o.base) (most:Nat) (hm:most≤9223372036854775807) (s d c m j:Nat) (hd:([s,d,c,m,j]:List Nat).Nodup):Xe Tryz.prog 18 [.ptr s 0,pint most] (sG s d c m j at_ o D) (dMs m D) (.tup [Xp ((Kq o).take most),pint 0]) (sG s d c m j at_ o D) (dMs m D):=
 Xba (Xpp D at_ o h ha most hm) s d c m j hd (.cons (.ptr _ _ S_) (.cons (.low _ (.val _)) .nil)) (.low _ (Km.2 (by simp [Xo,Xf])))
def qG (b1 b2 s d c m j:Nat) (at_:Int) (q:PV) (o:POut) (D:DM):List (Nat×List PV):=(b1,[.ptr s 0]) :: (b2,[q]) :: sG s d c m j at_ o D
theorem Xha {S:Nat→Prop} {b1 b2 s d c m j:Nat} (hs:S s) (hd:S d) (hc:S c) (hm:S m) (hj:S j) (at_:Int) {q:PV} (hq:Low q) (o:POut) (D:DM):∀x∈qG b1 b2 s d c m j at_ q o D,∀p∈x.2,LowI S p:=
 Yt (X9 (.ptr _ _ hs) Y2) (Yt (X9 hq.lowI Y2) (Xgm hd hc hm hj at_ o D))
def qIds:List Nat := [1000006,1000007,1000005,1000004,1000001,1000002,1000003]
theorem Vn (at_:Int) (q:PV) (o:POut) (D:DM):X0 (qG 1000006 1000007 1000005 1000001 1000002 1000003 1000004 at_ q o D) (dMs 1000003 D)=qIds:=rfl
theorem Xg7 {f:FuncId} {fn:Func} {c:Code} {args:List PV} {o o' : POut} {D D' : DM} {q r:PV} {at_:Int} (hq:Low q) (hqo:q.ownB=false) (hf:Tryz.prog.funcs[f]? = some fn) (hb:fn.body=some c) (hcb:X28 Tryz.prog f=true) (hlow:∀p∈args,LowI (fun i=>i∈qIds) p) (hno:∀p∈args,p.ownB=false) (hn:args.length≤fn.ntmps) (hr:LowI (fun i=>i∈qIds) r)
  (h:PW Tryz.prog fn.ntmps c (RetH X9l fn.results.toList r (qG 1000006 1000007 1000005 1000001 1000002 1000003 1000004 at_ q o' D') (dMs 1000003 D')) (Za args (qG 1000006 1000007 1000005 1000001 1000002 1000003 1000004 at_ q o D) (dMs 1000003 D))):Xe Tryz.prog f args (qG 1000006 1000007 1000005 1000001 1000002 1000003 1000004 at_ q o D) (dMs 1000003 D) r (qG 1000006 1000007 1000005 1000001 1000002 1000003 1000004 at_ q o' D') (dMs 1000003 D'):=by
 have hgq:X0s q:=X9n hqo
 refine Xn X6 hf hb hcb hno hn (by rw [Vn];decide) (by rw [Vn];decide) ⟨by rw [Vn];exact hlow,?_,?_,by rw [Vn];exact hr,?_,?_,by simp [qG,sG,jG,dG],by simp [dMs]⟩ h
 ·rw [Vn];exact Xha D_ D_ D_ D_ D_ _ hq _ _
 ·exact K4 _ _
 ·rw [Vn];exact Xha D_ D_ D_ D_ D_ _ hq _ _
 ·exact K4 _ _
theorem Y1d (D:DM) (at_:Int) (o:POut) (s:ByteArray) (h:Zm o) (hs:s.size≤65536):Xe Tryz.prog 43 [.ptr 1000006 0, .ptr 1000007 0] (qG 1000006 1000007 1000005 1000001 1000002 1000003 1000004 at_ (pstr s) o D) (dMs 1000003 D) (.tup [pout (X1g o s),pint 0]) (qG 1000006 1000007 1000005 1000001 1000002 1000003 1000004 at_ (pstr s) o D) (dMs 1000003 D):=by
 have k:=Xpv o s h hs
 refine Xg7 (.val _) rfl Tryz.func43 rfl rfl (X9 (.ptr _ _ D_) (X9 (.ptr _ _ D_) Y2)) (by simp [PV.ownB]) N_ (Km.2 (by simp [Xo,X0b])).lowI ?_
 generalize X1g o s=o2 at *
 refine wk ?_
 exact RetH.mk rfl (Weak.refl _) aw0 am0
theorem Y1g (D:DM) (at_:Int) (o:POut) (n:Int) (h:Zm o) (hn:o.acked < n∧n≤o.base+o.queue.length) (hb:o.base < n):Xe Tryz.prog 46 [.ptr 1000006 0, .ptr 1000007 0] (qG 1000006 1000007 1000005 1000001 1000002 1000003 1000004 at_ (pint n) o D) (dMs 1000003 D) (.tup [pout ⟨n,n,ByteArray.empty,o.queue.drop (n - o.base).toNat⟩,pint 0]) (qG 1000006 1000007 1000005 1000001 1000002 1000003 1000004 at_ (pint n) o D) (dMs 1000003 D):=by
 have k:=Xpz o n h hn hb
 refine Xg7 (.val _) rfl Tryz.func46 rfl rfl (X9 (.ptr _ _ D_) (X9 (.ptr _ _ D_) Y2)) (by simp [PV.ownB]) N_ (Km.2 (by simp [Xo,X0b])).lowI ?_
 generalize (⟨n,n,ByteArray.empty,o.queue.drop (n - o.base).toNat⟩:POut)=o2 at *
 refine wk ?_
 exact RetH.mk rfl (Weak.refl _) aw0 am0
theorem Xyj (l:List PPut) (a b:PV) (ha:a.ownB=false) (hb:b.ownB=false):Xte [a,b,ppO l]:=by
 intro i n k cs E h
 match i,h with
 |0,h=>simp only [List.getElem?_cons_zero,Option.some.injEq] at h;rw [h] at ha;cases ha
 |1,h=>simp only [List.getElem?_cons_succ,List.getElem?_cons_zero,Option.some.injEq] at h;rw [h] at hb;cases hb
 |2,h=>exact Xup l a a a ha ha ha 3 n k cs E (by simpa using h)
 |i+3,h=>simp at h
def Xab (e:Int) (o2 o:POut):POut:=if e=0 then o2 else o
theorem Xpe {N k:Nat} {D:DM} (h:GoD N k D) (at_:Nat) (ha:at_≤1000000000) (hN:at_+271≤N) (hNN:N≤100000000) (hk:k+10000≤100000000) (o:POut) (s:ByteArray) (ho:Zm o) (hs:s.size≤65536) (l:List PPut) (hl:l.length≤1000) {R:Int×DM} (hR:R=D.applyR N at_ 12 (l ++ [Xu at_ o.acked (o.base+(o.queue.length+1:Nat))])) :
  X27 Tryz.prog 42 [.ptr 1000005 0, .fn 43 [.ptr 1000006 0, .ptr 1000007 0],ppO l] (qG 1000006 1000007 1000005 1000001 1000002 1000003 1000004 at_ (pstr s) o D) (dMs 1000003 D) (pint R.1) (qG 1000006 1000007 1000005 1000001 1000002 1000003 1000004 at_ (pstr s) (Xab R.1 (X1g o s) o) R.2) (dMs 1000003 R.2):=by
 have c1:=Xm D
 have c2:=Xi D
 have kf:=Y1d D at_ o s ho hs
 have kS:=Y0p h at_ ha hN hNN hk o.acked (o.base+(o.queue.length+1:Nat)) l hl 1000001 1000002 1000003 1000004 D_
 rw [←hR] at kS
 have hql:(X1g o s).queue.length=o.queue.length+1:=by simp [X1g]
 have hb2:(X1g o s).base=o.base:=rfl
 have ha2:(X1g o s).acked=o.acked:=rfl
 have hlo:=X4c l
 obtain ⟨b,a,hll,-,-⟩:=ho
 rw [←hql,←ha2,←hb2] at kS
 rw [←hb2] at b
 clear hR hb2 ha2 h
 generalize X1g o s=o2 at *
 refine X9t X6 Tryz.func42 rfl rfl (Xyj l _ _ rfl rfl) N_ (by rw [Vn];decide) (by rw [Vn];decide) ⟨by rw [Vn];exact X9 (.ptr _ _ D_) (X9 (.fn _ _ (X9 (.ptr _ _ D_) (X9 (.ptr _ _ D_) Y2))) (X9 hlo.lowI Y2)),by rw [Vn];exact Xha D_ D_ D_ D_ D_ _ (.val _) _ _,K4 _ _,by rw [Vn];exact .val _,by rw [Vn];exact Xha D_ D_ D_ D_ D_ _ (.val _) _ _,K4 _ _,by simp [qG,sG,jG,dG],by simp [dMs]⟩ ?_
 unfold ppO
 refine wk ?_
 refine X5.callOM rfl rfl rfl rfl rfl D_ rfl (by rfl) kS (by (first|exact trivial|(refine ⟨⟨rfl,rfl⟩,?_⟩;first|exact trivial|(refine ⟨⟨rfl,rfl⟩,?_⟩;first|exact trivial|(refine ⟨⟨rfl,rfl⟩,?_⟩;first|exact trivial|(refine ⟨⟨rfl,rfl⟩,?_⟩;first|exact trivial|(refine ⟨⟨rfl,rfl⟩,?_⟩;first|exact trivial|(refine ⟨⟨rfl,rfl⟩,?_⟩;first|exact trivial|(refine ⟨⟨rfl,rfl⟩,?_⟩;first|exact trivial|(refine ⟨⟨rfl,rfl⟩,?_⟩;first|exact trivial|fail)))))))))) (by (first|exact trivial|(refine ⟨⟨rfl,rfl⟩,?_⟩;first|exact trivial|(refine ⟨⟨rfl,rfl⟩,?_⟩;first|exact trivial|(refine ⟨⟨rfl,rfl⟩,?_⟩;first|exact trivial|(refine ⟨⟨rfl,rfl⟩,?_⟩;first|exact trivial|(refine ⟨⟨rfl,rfl⟩,?_⟩;first|exact trivial|(refine ⟨⟨rfl,rfl⟩,?_⟩;first|exact trivial|(refine ⟨⟨rfl,rfl⟩,?_⟩;first|exact trivial|(refine ⟨⟨rfl,rfl⟩,?_⟩;first|exact trivial|fail)))))))))) rfl rfl ?_
 clear kS
 obtain ⟨e,D'⟩:=R
 by_cases he:e=0
 ·subst he
  rw [show Xab ((0:Int),D').1 o2 o=o2 from rfl]
  refine wk ?_
  exact RetH.mk rfl (Weak.refl _) aw0 am0
 ·rw [show Xab (e,D').1 o2 o=o from if_neg he]
  refine wk ?_
  exact RetH.mk rfl (Weak.refl _) aw0 am0
theorem Xpl {N k:Nat} {D:DM} (h:GoD N k D) (at_:Nat) (ha:at_≤1000000000) (hN:at_+271≤N) (hNN:N≤100000000) (hk:k+10000≤100000000) (o:POut) (n:Int) (ho:Zm o) (hn:o.acked < n∧n≤o.base+o.queue.length) (hbn:o.base < n) {R:Int×DM} (hR:R=D.applyR N at_ 12 [Xu at_ n (o.base+o.queue.length)]) :
  Xe Tryz.prog 42 [.ptr 1000005 0, .fn 46 [.ptr 1000006 0, .ptr 1000007 0], .nilsl] (qG 1000006 1000007 1000005 1000001 1000002 1000003 1000004 at_ (pint n) o D) (dMs 1000003 D) (pint R.1) (qG 1000006 1000007 1000005 1000001 1000002 1000003 1000004 at_ (pint n) (Xab R.1 ⟨n,n,ByteArray.empty,o.queue.drop (n - o.base).toNat⟩ o) R.2) (dMs 1000003 R.2):=by
 have c1:=Xm D
 have c2:=Xi D
 have kf:=Y1g D at_ o n ho hn hbn
 have kS:=Y1t h at_ ha hN hNN hk n (o.base+o.queue.length) 1000001 1000002 1000003 1000004 D_
 rw [←hR] at kS
 obtain ⟨b,a,hll,-,-⟩:=ho
 obtain ⟨o2,ho2⟩:∃o2:POut,o2=⟨n,n,ByteArray.empty,o.queue.drop (n - o.base).toNat⟩:=⟨_,rfl⟩
 have hql:o2.base+o2.queue.length=o.base+o.queue.length:=by rw [ho2];simp only [L_];omega
 have hqn:(o2.queue.length:Int)≤1000:=by rw [ho2];simp only [L_];omega
 have ha2:n=o2.acked:=by rw [ho2]
 rw [←ho2] at kf ⊢
 have hb2:0≤o2.base∧o2.base≤1000000900:=by rw [ho2];simp only;omega
 rw [←hql,show Xu at_ n=Xu at_ o2.acked by rw [←ha2]] at hR
 rw [←hql] at kS
 have kS2:Xe Tryz.prog 51 [X00 1000001 1000004 at_,pint o2.acked,pint (o2.base+o2.queue.length), .nilsl] (jG 1000001 1000002 1000003 1000004 at_ 12 D) (dMs 1000003 D) (pint R.1) (jG 1000001 1000002 1000003 1000004 at_ 12 R.2) (dMs 1000003 R.2):=by rw [←ha2];exact kS
 clear kS hR hql ha2 ho2 h
 refine Xg7 (.val _) rfl Tryz.func42 rfl rfl (X9 (.ptr _ _ D_) (X9 (.fn _ _ (X9 (.ptr _ _ D_) (X9 (.ptr _ _ D_) Y2))) (X9 .nilsl Y2))) (by simp [PV.ownB]) N_ (.val _) ?_
 obtain ⟨e,D'⟩:=R
 by_cases he:e=0
 ·subst he
  rw [show Xab ((0:Int),D').1 o2 o=o2 from rfl]
  refine wk ?_
  exact RetH.mk rfl (Weak.refl _) aw0 am0
 ·rw [show Xab (e,D').1 o2 o=o from if_neg he]
  refine wk ?_
  exact RetH.mk rfl (Weak.refl _) aw0 am0
def ids7 (b1 b2 s d c m j:Nat):List (Nat×Nat) := [(1000006,b1),(1000007,b2),(1000005,s),(1000001,d),(1000002,c),(1000003,m),(1000004,j)]
theorem Xnn {b1 b2 s d c m j:Nat} (at_:Int) {q:PV} (hq:Low q) (o:POut) (D:DM):RenB (renN (ids7 b1 b2 s d c m j)) (fun i=>i∈qIds) (qG 1000006 1000007 1000005 1000001 1000002 1000003 1000004 at_ q o D) (qG b1 b2 s d c m j at_ q o D):=
 RenB.cons _ _ _ _ _ (.cons (.ptr _ _ (by simp [qIds])) .nil) (RenB.cons _ _ _ _ _ (.cons (.low _ hq) .nil) (RenB.cons _ _ _ _ _ (.cons (.ptr _ _ (by simp [qIds])) (.cons (.ptr _ _ (by simp [qIds])) (.cons (.low _ (.val _)) (.cons (.low _ (.val _)) (.cons (.low _ (.val _)) (.cons (.low _ (.val _)) (.cons (.low _ ((Xb _).2 trivial)) .nil))))))) (RenB.cons _ _ _ _ _ (.cons (.ptr _ _ (by simp [qIds])) (.cons (.low _ (.val _)) (.cons (.low _ (.val _)) .nil))) (RenB.cons _ _ _ _ _ (.cons (.msl _ _ _ _ (by simp [qIds])) (.cons (.mref _ (by simp [qIds])) (.cons (.low _ (.val _)) (.cons (.low _ (.val _)) (.cons (.low _ (.val _)) .nil))))) (RenB.cons _ _ _ _ _ (RenL.low (Xm _)) RenB.nil)))))
theorem Xff {b1 b2 s d c m j:Nat} (D:DM):Kc (renN (ids7 b1 b2 s d c m j)) (fun i=>i∈qIds) (dMs 1000003 D) (dMs m D):=Kc.cons _ _ _ _ _ (RenM.low (Xi _)) Kc.nil
theorem Xtg {f:FuncId} {b1 b2 s d c m j:Nat} : Ren (renN (ids7 b1 b2 s d c m j)) (fun i=>i∈qIds) (.fn f [.ptr 1000006 0, .ptr 1000007 0]) (.fn f [.ptr b1 0, .ptr b2 0]):=Xjg (.cons (.ptr _ _ (by simp [qIds])) (.cons (.ptr _ _ (by simp [qIds])) .nil))
theorem Xhs {N k:Nat} {D:DM} (h:GoD N k D) (at_:Nat) (ha:at_≤1000000000) (hN:at_+271≤N) (hNN:N≤100000000) (hk:k+10000≤100000000) (o:POut) (s:ByteArray) (ho:Zm o) (hs:s.size≤65536) (l:List PPut) (hl:l.length≤1000) {R:Int×DM} (hR:R=D.applyR N at_ 12 (l ++ [Xu at_ o.acked (o.base+(o.queue.length+1:Nat))])) (b1 b2 sn d c m j:Nat) (hd:([b1,b2,sn,d,c,m,j]:List Nat).Nodup) :
  X27 Tryz.prog 42 [.ptr sn 0, .fn 43 [.ptr b1 0, .ptr b2 0],ppO l] (qG b1 b2 sn d c m j at_ (pstr s) o D) (dMs m D) (pint R.1) (qG b1 b2 sn d c m j at_ (pstr s) (Xab R.1 (X1g o s) o) R.2) (dMs m R.2):=
 (Xpe h at_ ha hN hNN hk o s ho hs l hl hR).at (ids7 b1 b2 sn d c m j) (by simpa [ids7] using hd) (by rw [Vn];simp [ids7,qIds]) (by simp [qG,sG,jG,dG]) (by simp [dMs]) (by rw [Vn];exact .cons (.ptr _ _ (by simp [qIds])) (.cons Xtg (.cons (.low _ (X4c l)) .nil))) (by rw [Vn];exact Xnn at_ (.val _) o D) (by rw [Vn];exact Xff _) (by rw [Vn];exact .low _ (.val _)) (by rw [Vn];exact Xnn at_ (.val _) _ _) (by rw [Vn];exact Xff _)
theorem Xiw {N k:Nat} {D:DM} (h:GoD N k D) (at_:Nat) (ha:at_≤1000000000) (hN:at_+271≤N) (hNN:N≤100000000) (hk:k+10000≤100000000) (o:POut) (n:Int) (ho:Zm o) (hn:o.acked < n∧n≤o.base+o.queue.length) (hbn:o.base < n) {R:Int×DM} (hR:R=D.applyR N at_ 12 [Xu at_ n (o.base+o.queue.length)]) (b1 b2 sn d c m j:Nat) (hd:([b1,b2,sn,d,c,m,j]:List Nat).Nodup) :
  Xe Tryz.prog 42 [.ptr sn 0, .fn 46 [.ptr b1 0, .ptr b2 0], .nilsl] (qG b1 b2 sn d c m j at_ (pint n) o D) (dMs m D) (pint R.1) (qG b1 b2 sn d c m j at_ (pint n) (Xab R.1 ⟨n,n,ByteArray.empty,o.queue.drop (n - o.base).toNat⟩ o) R.2) (dMs m R.2):=
 (Xpl h at_ ha hN hNN hk o n ho hn hbn hR).at (ids7 b1 b2 sn d c m j) (by simpa [ids7] using hd) (by rw [Vn];simp [ids7,qIds]) (by simp [qG,sG,jG,dG]) (by simp [dMs]) (by rw [Vn];exact .cons (.ptr _ _ (by simp [qIds])) (.cons Xtg (.cons (.low _ .nilsl) .nil))) (by rw [Vn];exact Xnn at_ (.val _) o D) (by rw [Vn];exact Xff _) (by rw [Vn];exact .low _ (.val _)) (by rw [Vn];exact Xnn at_ (.val _) _ _) (by rw [Vn];exact Xff _)
def DM.sput (D:DM) (N at_:Nat) (o:POut) (n:Int) (s:ByteArray):Int×DM:=
 if n < 0∨o.base+o.queue.length < n∨240 < s.size then (1,D)
 else if n < o.base+o.queue.length then (0,D)
 else if 64≤n - o.acked then (2,D)
 else if h:s.size≤240 then D.applyR N at_ 12 (Ya at_ n.toNat (Zs s h) ++ [Xu at_ o.acked (o.base+(o.queue.length+1:Nat))]) else (0,D)
def X83 (o:POut) (n:Int) (s:ByteArray) (e:Int):POut:=if e=0∧n=o.base+o.queue.length then X1g o s else o
theorem Y2y {N k:Nat} {D:DM} (h:GoD N k D) (at_:Nat) (ha:at_≤1000000000) (hN:at_+271≤N) (hNN:N≤100000000) (hk:k+10000≤100000000) (o:POut) (ho:Zm o) (n:Int) (s:ByteArray) (hn:n≤9223372036854775807) (hs:s.size≤1000000000) :
  Xe Tryz.prog 14 [.ptr 1000005 0,pint n,pstr s] (sG 1000005 1000001 1000002 1000003 1000004 at_ o D) (dMs 1000003 D) (pint (D.sput N at_ o n s).1) (sG 1000005 1000001 1000002 1000003 1000004 at_ (X83 o n s (D.sput N at_ o n s).1) (D.sput N at_ o n s).2) (dMs 1000003 (D.sput N at_ o n s).2):=by
 have c1:=Xm D
 have c2:=Xi D
 have kE:=X09 D at_ o ho 1000005 1000001 1000002 1000003 1000004 D_
 have kA:=V4 D at_ o 1000005 1000001 1000002 1000003 1000004 D_
 have hb:=ho.b
 have ha2:=ho.a
 have hl2:=ho.l
 refine X0f Tryz.func14 rfl rfl (X9 (.ptr _ _ D_) (X9 (.val _) (X9 (.val _) Y2))) (by simp [pint,pstr,PV.ownB]) N_ (.val _) ?_
 by_cases g1:n < 0∨o.base+o.queue.length < n∨240 < s.size
 ·have e1:D.sput N at_ o n s=(1,D):=if_pos g1
  rw [e1]
  have e2:X83 o n s (1,D).1=o:=if_neg S_
  rw [e2]
  by_cases h1:n < 0
  ·refine wk ?_
   exact RetH.mk rfl (Weak.refl _) aw0 am0
  by_cases h2:o.base+o.queue.length < n
  ·refine wk ?_
   exact RetH.mk rfl (Weak.refl _) aw0 am0
  have h3:240 < s.size:=O_
  refine wk ?_
  exact RetH.mk rfl (Weak.refl _) aw0 am0
 by_cases g2:n < o.base+o.queue.length
 ·have e1:D.sput N at_ o n s=(0,D):=by unfold DM.sput;rw [if_neg g1,if_pos g2]
  rw [e1]
  have e2:X83 o n s (0,D).1=o:=if_neg (by simp;omega)
  rw [e2]
  refine wk ?_
  exact RetH.mk rfl (Weak.refl _) aw0 am0
 by_cases g3:64≤n - o.acked
 ·have e1:D.sput N at_ o n s=(2,D):=by unfold DM.sput;rw [if_neg g1,if_neg g2,if_pos g3]
  rw [e1]
  have e2:X83 o n s (2,D).1=o:=if_neg S_
  rw [e2]
  refine wk ?_
  exact RetH.mk rfl (Weak.refl _) aw0 am0
 have hs2:s.size≤240:=O_
 have hne:n=o.base+o.queue.length:=O_
 obtain ⟨m,rfl⟩:∃m:Nat,n=(m:Int):=⟨n.toNat,O_⟩
 have kN:=Xjq D at_ m s ha O_ hs2 1000001 1000002 1000003 1000004 D_
 have e1:D.sput N at_ o m s=D.applyR N at_ 12 (Ya at_ m (Zs s hs2) ++ [Xu at_ o.acked (o.base+(o.queue.length+1:Nat))]):=by
  unfold DM.sput;rw [if_neg g1,if_neg g2,if_neg g3,dif_pos hs2,Int.toNat_natCast]
 have kC:=Xhs h at_ ha hN hNN hk o s ho O_ (Ya at_ m (Zs s hs2)) (by simp [Ya]) (R:=D.sput N at_ o m s) e1 0 1 1000005 1000001 1000002 1000003 1000004 D_
 have e2:X83 o m s (D.sput N at_ o m s).1=Xab (D.sput N at_ o m s).1 (X1g o s) o:=by
  unfold X83 Xab
  by_cases he:(D.sput N at_ o m s).1=0
  ·rw [if_pos ⟨he,hne⟩,if_pos he]
  ·rw [if_neg (fun h=>he h.1),if_neg he]
 rw [e2]
 clear e1 e2 h
 generalize D.sput N at_ o m s=R at *
 generalize Ya at_ m (Zs s hs2)=L at *
 have hLl:=X4c L
 unfold ppO at kN kC hLl
 refine wk ?_
 refine X5.callOM rfl rfl rfl rfl rfl D_ rfl (by rfl) kC (by (first|exact trivial|(refine ⟨⟨rfl,rfl⟩,?_⟩;first|exact trivial|(refine ⟨⟨rfl,rfl⟩,?_⟩;first|exact trivial|(refine ⟨⟨rfl,rfl⟩,?_⟩;first|exact trivial|(refine ⟨⟨rfl,rfl⟩,?_⟩;first|exact trivial|(refine ⟨⟨rfl,rfl⟩,?_⟩;first|exact trivial|(refine ⟨⟨rfl,rfl⟩,?_⟩;first|exact trivial|(refine ⟨⟨rfl,rfl⟩,?_⟩;first|exact trivial|(refine ⟨⟨rfl,rfl⟩,?_⟩;first|exact trivial|fail)))))))))) (by (first|exact trivial|(refine ⟨⟨rfl,rfl⟩,?_⟩;first|exact trivial|(refine ⟨⟨rfl,rfl⟩,?_⟩;first|exact trivial|(refine ⟨⟨rfl,rfl⟩,?_⟩;first|exact trivial|(refine ⟨⟨rfl,rfl⟩,?_⟩;first|exact trivial|(refine ⟨⟨rfl,rfl⟩,?_⟩;first|exact trivial|(refine ⟨⟨rfl,rfl⟩,?_⟩;first|exact trivial|(refine ⟨⟨rfl,rfl⟩,?_⟩;first|exact trivial|(refine ⟨⟨rfl,rfl⟩,?_⟩;first|exact trivial|fail)))))))))) rfl rfl ?_
 refine wk ?_
 exact RetH.mk rfl (Weak.refl _) aw0 am0
theorem Xjn {N k:Nat} {D:DM} (h:GoD N k D) (at_:Nat) (ha:at_≤1000000000) (hN:at_+271≤N) (hNN:N≤100000000) (hk:k+10000≤100000000) (o:POut) (ho:Zm o) (n:Int) (s:ByteArray) (hn:n≤9223372036854775807) (hs:s.size≤1000000000) (sn d c m j:Nat) (hd:([sn,d,c,m,j]:List Nat).Nodup) :
  Xe Tryz.prog 14 [.ptr sn 0,pint n,pstr s] (sG sn d c m j at_ o D) (dMs m D) (pint (D.sput N at_ o n s).1) (sG sn d c m j at_ (X83 o n s (D.sput N at_ o n s).1) (D.sput N at_ o n s).2) (dMs m (D.sput N at_ o n s).2):=
 Xba (Y2y h at_ ha hN hNN hk o ho n s hn hs) sn d c m j hd (.cons (.ptr _ _ S_) (.cons (.low _ (.val _)) (.cons (.low _ (.val _)) .nil))) (.low _ (.val _))
def DM.sack (D:DM) (N at_:Nat) (o:POut) (n:Int):Int×DM:=
 if n < 0∨o.base+o.queue.length < n then (1,D)
 else if n≤o.acked then (0,D)
 else D.applyR N at_ 12 [Xu at_ n (o.base+o.queue.length)]
def Xah (o:POut) (n:Int) (e:Int):POut:=if e=0∧o.acked < n∧n≤o.base+o.queue.length then ⟨n,n,ByteArray.empty,o.queue.drop (n - o.base).toNat⟩ else o
theorem Y43 {N k:Nat} {D:DM} (h:GoD N k D) (at_:Nat) (ha:at_≤1000000000) (hN:at_+271≤N) (hNN:N≤100000000) (hk:k+10000≤100000000) (o:POut) (ho:Zm o) (hab:o.acked=o.base) (n:Int) :
  Xe Tryz.prog 16 [.ptr 1000005 0,pint n] (sG 1000005 1000001 1000002 1000003 1000004 at_ o D) (dMs 1000003 D) (pint (D.sack N at_ o n).1) (sG 1000005 1000001 1000002 1000003 1000004 at_ (Xah o n (D.sack N at_ o n).1) (D.sack N at_ o n).2) (dMs 1000003 (D.sack N at_ o n).2):=by
 have c1:=Xm D
 have c2:=Xi D
 have kE:=X09 D at_ o ho 1000005 1000001 1000002 1000003 1000004 D_
 have kA:=V4 D at_ o 1000005 1000001 1000002 1000003 1000004 D_
 have hb:=ho.b
 have hl2:=ho.l
 refine X0f Tryz.func16 rfl rfl (X9 (.ptr _ _ D_) (X9 (.val _) Y2)) (by simp [pint,PV.ownB]) N_ (.val _) ?_
 by_cases g1:n < 0∨o.base+o.queue.length < n
 ·have e1:D.sack N at_ o n=(1,D):=if_pos g1
  rw [e1]
  have e2:Xah o n (1,D).1=o:=if_neg S_
  rw [e2]
  by_cases h1:n < 0
  ·refine wk ?_
   exact RetH.mk rfl (Weak.refl _) aw0 am0
  refine wk ?_
  exact RetH.mk rfl (Weak.refl _) aw0 am0
 by_cases g2:n≤o.acked
 ·have e1:D.sack N at_ o n=(0,D):=by unfold DM.sack;rw [if_neg g1,if_pos g2]
  rw [e1]
  have e2:Xah o n (0,D).1=o:=if_neg (by simp;omega)
  rw [e2]
  refine wk ?_
  exact RetH.mk rfl (Weak.refl _) aw0 am0
 have e1:D.sack N at_ o n=D.applyR N at_ 12 [Xu at_ n (o.base+o.queue.length)]:=by unfold DM.sack;rw [if_neg g1,if_neg g2]
 have kC:=Xiw h at_ ha hN hNN hk o n ho O_ O_ (R:=D.sack N at_ o n) e1 0 1 1000005 1000001 1000002 1000003 1000004 D_
 have e2:Xah o n (D.sack N at_ o n).1=Xab (D.sack N at_ o n).1 ⟨n,n,ByteArray.empty,o.queue.drop (n - o.base).toNat⟩ o:=by
  unfold Xah Xab
  by_cases he:(D.sack N at_ o n).1=0
  ·rw [if_pos ⟨he,O_,O_⟩,if_pos he]
  ·rw [if_neg (fun h=>he h.1),if_neg he]
 rw [e2]
 clear e1 e2 h
 generalize D.sack N at_ o n=R at *
 generalize (⟨n,n,ByteArray.empty,o.queue.drop (n - o.base).toNat⟩:POut)=o2 at *
 refine wk ?_
 exact RetH.mk rfl (Weak.refl _) aw0 am0
theorem Xvd {N k:Nat} {D:DM} (h:GoD N k D) (at_:Nat) (ha:at_≤1000000000) (hN:at_+271≤N) (hNN:N≤100000000) (hk:k+10000≤100000000) (o:POut) (ho:Zm o) (hab:o.acked=o.base) (n:Int) (sn d c m j:Nat) (hd:([sn,d,c,m,j]:List Nat).Nodup) :
  Xe Tryz.prog 16 [.ptr sn 0,pint n] (sG sn d c m j at_ o D) (dMs m D) (pint (D.sack N at_ o n).1) (sG sn d c m j at_ (Xah o n (D.sack N at_ o n).1) (D.sack N at_ o n).2) (dMs m (D.sack N at_ o n).2):=
 Xba (Y43 h at_ ha hN hNN hk o ho hab n) sn d c m j hd (.cons (.ptr _ _ S_) (.cons (.low _ (.val _)) .nil)) (.low _ (.val _))
def X39 (D:DM) (at_ a:Nat) (Q:List Body):Prop:=∀i,i < Q.length→∀k:Nat,k < 4→D.read ((at_:Int)+15+((a+i:Nat):Int) % 64 * 4+k)=(Ve (Q.getD i default) k,0)
def Kl (Q:List Body):List ByteArray:=Q.map fun b=>strI b.1
def strA (l:List ByteArray):Nat→PV
 |0=>.nilsl
 |k+1=>.sl (k+1) 1 ((l.take (k+1)).map pstr) (some 9)
theorem Xc8 {l:List ByteArray} {k:Nat} {s:ByteArray} (h:l[k]? = some s):strA l (k+1) = .sl (k+1) 1 ((l.take k).map pstr ++ [pstr s]) (some 9):=by
 rw [strA,List.take_add_one,h];simp
theorem Xfx (l:List ByteArray):∀k,Low (strA l k)
 |0=>.nilsl
 |k+1=>.sl _ _ _ _ (Kx (fun _=>Low.val _) _)
theorem Y1b (D:DM) (at_ a:Nat) (Q:List Body) (ha:at_≤1000000000) (hn:a+Q.length≤1000000000) (hsz:D.cells.length≤1000000000) (hop:∀e∈D.op,e.2.2.length≤1000000000) (hr:X39 D at_ a Q) :
  Xe Tryz.prog 41 [X00 1000001 1000004 at_,pint a,pint (a+Q.length:Nat)] (jG 1000001 1000002 1000003 1000004 at_ 12 D) (dMs 1000003 D) (.tup [Xr (Kl Q),pint 0]) (jG 1000001 1000002 1000003 1000004 at_ 12 D) (dMs 1000003 D):=by
 have c1:=Xm D
 have c2:=Xi D
 have hlow:=Xfx (Kl Q)
 refine X44 Tryz.func41 rfl rfl (X9 (Ze D_ D_ _) (X9 (.val _) (X9 (.val _) Y2))) (by simp [X00,pint,PV.ownB]) N_ (Km.2 (by simp [Xo,Xb])).lowI ?_
 refine wk ?_
 refine PW.loop (fun k:Nat=>bot.setb 1000004 (jB 1000001 at_ 12) |>.setb 1000001 (dB 1000002 1000003 D) |>.setb 1000002 (dC D) |>.setm 1000003 (dM D) |>.setb 0 [.ptr 1000001 0, .ptr 1000004 0,pint at_] |>.put 2 (pint (a+Q.length:Nat)) |>.put 3 (.ptr 0 0) |>.put 8 (strA (Kl Q) k) |>.put 9 (pint (a+k:Nat))) (fun k=>k≤Q.length) (fun k=>Q.length - k) 0 O_ ?_ ?_
 ·exact sb
 ·intro k hk
  by_cases hlt:k < Q.length
  ·have kr:=Y3t D at_ (a+k) (Q.getD k default) ha O_ hsz hop (hr k hlt) 1000001 1000002 1000003 1000004 D_
   have hg:(Kl Q)[k]? = some (strI (Q.getD k default).1):=by simp [Kl,G_,hlt]
   have e6:=Xc8 hg
   have q1:=hlow (k+1)
   rw [e6] at q1
   clear hr hg
   generalize strI (Q.getD k default).1=s at *
   rcases k with _|k
   ·refine wk ?_
    refine Y4 1 O_ O_ ?_
    try dsimp only
    rw [e6]
    exact sb
   ·refine wk ?_
    refine Y4 (k+2) O_ O_ ?_
    try dsimp only
    rw [e6]
    exact sb
  ·obtain rfl:k=Q.length:=O_
   have hbl:(Kl Q).length=Q.length:=by simp [Kl]
   rw [←hbl]
   clear hr
   generalize Kl Q=B at *
   rw [←hbl] at *
   rcases B with _|⟨x,B⟩
   ·refine wk ?_
    exact RetH.mk (r':=.tup [.nilsl,pint 0]) rfl (.tup (.cons (.nil 1) (.cons (.refl _) .nil))) aw0 am0
   ·have e5:Xr (x :: B) = .sl (B.length+1) 1 (((x :: B).take (B.length+1)).map pstr) none:=by
     rw [H_ S_];rfl
    rw [e5]
    refine wk ?_
    exact RetH.mk rfl (Weak.refl _) aw0 am0
theorem Y0j (D:DM) (at_ a:Nat) (Q:List Body) (ha:at_≤1000000000) (hn:a+Q.length≤1000000000) (hsz:D.cells.length≤1000000000) (hop:∀e∈D.op,e.2.2.length≤1000000000) (hr:X39 D at_ a Q) (d c m j:Nat) (hd:([d,c,m,j]:List Nat).Nodup) :
  Xe Tryz.prog 41 [X00 d j at_,pint a,pint (a+Q.length:Nat)] (jG d c m j at_ 12 D) (dMs m D) (.tup [Xr (Kl Q),pint 0]) (jG d c m j at_ 12 D) (dMs m D):=
 Xkb (Y1b D at_ a Q ha hn hsz hop hr) (by simp [Xo]) (Km.2 (by simp [Xo,Xb])) d c m j hd
theorem Y5y {N at_:Nat} (h:at_+271≤N):Vs N at_ 12=true:=by
 unfold Vs
 rw [show Yl 12=14 from Y28]
 simp only [decide_eq_true_eq]
 omega
theorem Xzh {N k:Nat} {D:DM} (h:GoD N k D) (at_:Nat) (hN:at_+271≤N) (hk:k+2000≤100000000) (hNN:N≤100000000) {R:Int×DM} (hh:RecP D at_ 12 R) (hz:R.1=0):Xe Tryz.prog 39 [.ptr 1000001 0,pint at_] (dG 1000001 1000002 1000003 D) (dMs 1000003 D) (.tup [X00 1000001 900004 at_,pint 0]) (jG 1000001 1000002 1000003 900004 at_ 12 R.2) (dMs 1000003 R.2):=by
 have c1:=Xm D
 have c2:=Xi D
 have hsz:=X5j D 1000001 1000002 1000003 D_
 rw [h.len] at hsz
 have hrm:=Xl2
 have hop:=Y21 at_ 12 h (Y5y hN) hk hNN hh hz 1000001 1000002 1000003 900004 D_
 have r1:X0 (dG 1000001 1000002 1000003 D) (dMs 1000003 D) = [1000001,1000002,1000003]:=rfl
 have r2:X0 (jG 1000001 1000002 1000003 900004 at_ 12 R.2) (dMs 1000003 R.2) = [900004,1000001,1000002,1000003]:=rfl
 have s1:=Xm R.2
 have s2:=Xi R.2
 refine Xn X6 Tryz.func39 rfl rfl (by simp [pint,PV.ownB]) N_ (by rw [r1];decide) (by rw [r1];decide) ⟨by rw [r1];exact X9 (.ptr _ _ D_) (X9 (.val _) Y2),by rw [r1];exact Yt (Zi D_ D_ D) (Yt (X1h c1) X2i),K4 _ _,by rw [r2];exact .tup _ (X9 (Ze D_ D_ _) (X9 (.val _) Y2)),by rw [r2];exact X7a D_ D_ D_ _ _ _,K4 _ _,by simp [jG,dG],by simp [dMs]⟩ ?_
 generalize R.2=D2 at *
 clear hh hz h
 refine wk ?_
 exact RetH.mk rfl (Weak.refl _) aw0 am0
theorem Xu2 {N k:Nat} {D:DM} (h:GoD N k D) (at_:Nat) (hN:at_+271≤N) (hk:k+2000≤100000000) (hNN:N≤100000000) {R:Int×DM} (hh:RecP D at_ 12 R) (hz:R.1=0) (d c m j:Nat) (hd:([d,c,m,j]:List Nat).Nodup):Xe Tryz.prog 39 [.ptr d 0,pint at_] (dG d c m D) (dMs m D) (.tup [X00 d j at_,pint 0]) (jG d c m j at_ 12 R.2) (dMs m R.2):=by
 have r1:X0 (dG 1000001 1000002 1000003 D) (dMs 1000003 D) = [1000001,1000002,1000003]:=rfl
 have r2:X0 (jG 1000001 1000002 1000003 900004 at_ 12 R.2) (dMs 1000003 R.2) = [900004,1000001,1000002,1000003]:=rfl
 have hB:∀(S:Nat→Prop) (D:DM),S 1000002→S 1000003→RenL (renN [(1000001,d),(1000002,c),(1000003,m),(900004,j)]) S (dB 1000002 1000003 D) (dB c m D):=fun S D s1 s2=>
  .cons (.msl _ _ _ _ s1) (.cons (.mref _ s2) (.cons (.low _ (.val _)) (.cons (.low _ (.val _)) (.cons (.low _ (.val _)) .nil))))
 refine (Xzh h at_ hN hk hNN hh hz).at [(1000001,d),(1000002,c),(1000003,m),(900004,j)] (by simpa using hd) (by rw [r2];simp) (by simp [jG,dG]) (by simp [dMs]) ?_ ?_ ?_ ?_ ?_ ?_
 ·rw [r1];exact .cons (.ptr _ _ S_) (.cons (.low _ (.val _)) .nil)
 ·rw [r1];exact RenB.cons _ _ _ _ _ (hB _ D S_ S_) (RenB.cons _ _ _ _ _ (RenL.low (Xm _)) RenB.nil)
 ·exact Kc.cons _ _ _ _ _ (RenM.low (Xi _)) Kc.nil
 ·rw [r2];exact X7j (.cons (Xlq (.cons (.ptr _ _ S_) (.cons (.ptr _ _ S_) (.cons (.low _ (.val _)) .nil)))) (.cons (.low _ (.val _)) .nil))
 ·rw [r2];exact RenB.cons _ _ _ _ _ (.cons (.ptr _ _ S_) (.cons (.low _ (.val _)) (.cons (.low _ (.val _)) .nil))) (RenB.cons _ _ _ _ _ (hB _ _ S_ S_) (RenB.cons _ _ _ _ _ (RenL.low (Xm _)) RenB.nil))
 ·exact Kc.cons _ _ _ _ _ (RenM.low (Xi _)) Kc.nil
def outQ (a:Nat) (Q:List Body):POut:=⟨a,a,ByteArray.empty,Kl Q⟩
theorem Xwi {N k:Nat} {D:DM} (h:GoD N k D) (at_:Nat) (hN:at_+271≤N) (hk:k+2000≤100000000) (hNN:N≤100000000) {R:Int×DM} (hh:RecP D at_ 12 R) (hz:R.1=0) (hsz:R.2.cells.length≤1000000000) (hop:∀e∈R.2.op,e.2.2.length≤1000000000) (a:Nat) (Q:List Body) (ha:a+Q.length≤1000000000) (hr:R.2.read ((at_:Int)+14)=(Vc a (a+Q.length:Nat),0)) (hq:X39 R.2 at_ a Q) :
  Xe Tryz.prog 11 [.ptr 1000001 0,pint at_] (dG 1000001 1000002 1000003 D) (dMs 1000003 D) (.tup [.ptr 10006 0,pint 0]) (sG 10006 1000001 1000002 1000003 900004 at_ (outQ a Q) R.2) (dMs 1000003 R.2):=by
 have c1:=Xm D
 have c2:=Xi D
 have kO:=Xu2 h at_ hN hk hNN hh hz 1000001 1000002 1000003 900004 D_
 have kN:=Xeg R.2 at_ a (a+Q.length:Nat) O_ hsz hop O_ O_ hr 1000001 1000002 1000003 900004 D_
 have kA:=Y0j R.2 at_ a Q O_ ha hsz hop hq 1000001 1000002 1000003 900004 D_
 have r1:X0 (dG 1000001 1000002 1000003 D) (dMs 1000003 D) = [1000001,1000002,1000003]:=rfl
 have r2:X0 (sG 10006 1000001 1000002 1000003 900004 at_ (outQ a Q) R.2) (dMs 1000003 R.2) = [10006,900004,1000001,1000002,1000003]:=rfl
 have s1:=Xm R.2
 have s2:=Xi R.2
 refine Xn X6 Tryz.func11 rfl rfl (by simp [pint,PV.ownB]) N_ (by rw [r1];decide) (by rw [r1];decide) ⟨by rw [r1];exact X9 (.ptr _ _ D_) (X9 (.val _) Y2),by rw [r1];exact Yt (Zi D_ D_ D) (Yt (X1h c1) X2i),K4 _ _,by rw [r2];exact .tup _ (X9 (.ptr _ _ D_) (X9 (.val _) Y2)),by rw [r2];exact Xgm D_ D_ D_ D_ _ _ _,K4 _ _,by simp [sG,jG,dG],by simp [dMs]⟩ ?_
 unfold outQ
 generalize R.2=D2 at *
 clear hh hz h hr hq hop hsz
 generalize Kl Q=B at *
 refine wk ?_
 exact RetH.mk rfl (Weak.refl _) aw0 am0
theorem X2p {N k:Nat} {D:DM} (h:GoD N k D) (at_:Nat) (hN:at_+271≤N) (hk:k+2000≤100000000) (hNN:N≤100000000) {R:Int×DM} (hh:RecP D at_ 12 R) (hz:R.1=0) (hsz:R.2.cells.length≤1000000000) (hop:∀e∈R.2.op,e.2.2.length≤1000000000) (a:Nat) (Q:List Body) (ha:a+Q.length≤1000000000) (hr:R.2.read ((at_:Int)+14)=(Vc a (a+Q.length:Nat),0)) (hq:X39 R.2 at_ a Q) (s d c m j:Nat) (hd:([s,d,c,m,j]:List Nat).Nodup) :
  Xe Tryz.prog 11 [.ptr d 0,pint at_] (dG d c m D) (dMs m D) (.tup [.ptr s 0,pint 0]) (sG s d c m j at_ (outQ a Q) R.2) (dMs m R.2):=by
 have r1:X0 (dG 1000001 1000002 1000003 D) (dMs 1000003 D) = [1000001,1000002,1000003]:=rfl
 have r2:X0 (sG 10006 1000001 1000002 1000003 900004 at_ (outQ a Q) R.2) (dMs 1000003 R.2) = [10006,900004,1000001,1000002,1000003]:=rfl
 have hB:∀(S:Nat→Prop) (D:DM),S 1000002→S 1000003→RenL (renN [(10006,s),(1000001,d),(1000002,c),(1000003,m),(900004,j)]) S (dB 1000002 1000003 D) (dB c m D):=fun S D s1 s2=>
  .cons (.msl _ _ _ _ s1) (.cons (.mref _ s2) (.cons (.low _ (.val _)) (.cons (.low _ (.val _)) (.cons (.low _ (.val _)) .nil))))
 refine (Xwi h at_ hN hk hNN hh hz hsz hop a Q ha hr hq).at [(10006,s),(1000001,d),(1000002,c),(1000003,m),(900004,j)] (by simpa using hd) (by rw [r2];simp) (by simp [sG,jG,dG]) (by simp [dMs]) ?_ ?_ ?_ ?_ ?_ ?_
 ·rw [r1];exact .cons (.ptr _ _ S_) (.cons (.low _ (.val _)) .nil)
 ·rw [r1];exact RenB.cons _ _ _ _ _ (hB _ D S_ S_) (RenB.cons _ _ _ _ _ (RenL.low (Xm _)) RenB.nil)
 ·exact Kc.cons _ _ _ _ _ (RenM.low (Xi _)) Kc.nil
 ·rw [r2];exact X7j (.cons (.ptr _ _ S_) (.cons (.low _ (.val _)) .nil))
 ·rw [r2]
  exact RenB.cons _ _ _ _ _ (.cons (.ptr _ _ S_) (.cons (.ptr _ _ S_) (.cons (.low _ (.val _)) (.cons (.low _ (.val _)) (.cons (.low _ (.val _)) (.cons (.low _ (.val _)) (.cons (.low _ ((Xb _).2 trivial)) .nil))))))) (RenB.cons _ _ _ _ _ (.cons (.ptr _ _ S_) (.cons (.low _ (.val _)) (.cons (.low _ (.val _)) .nil))) (RenB.cons _ _ _ _ _ (hB _ _ S_ S_) (RenB.cons _ _ _ _ _ (RenL.low (Xm _)) RenB.nil)))
 ·exact Kc.cons _ _ _ _ _ (RenM.low (Xi _)) Kc.nil
structure PIn where
 next:Int
 ahead:List PFrm
deriving Inhabited
def pinL (i:PIn):List PV := [pint i.next,Xp i.ahead]
def pinb (i:PIn):PV:=.agg (pinL i)
theorem X1e (i:PIn):∀c∈pinL i,Low c:=by
 intro c hc
 simp only [pinL,List.mem_cons,List.not_mem_nil,or_false] at hc
 rcases hc with rfl|rfl
 ·exact .val _
 ·exact (Xf _).2 trivial
theorem X0j (i:PIn):Low (pinb i)↔True:=⟨fun _=>trivial,fun _=>.agg _ (X1e i)⟩
def rvC (d j:Nat) (at_:Int) (i:PIn):List PV := [.ptr d 0, .ptr j 0,pint at_,pint i.next,Xp i.ahead]
def rvG (s d c m j:Nat) (at_:Int) (i:PIn) (D:DM):List (Nat×List PV):=(s,rvC d j at_ i) :: jG d c m j at_ 12 D
theorem Xwz {S:Nat→Prop} {d j:Nat} (hd:S d) (hj:S j) (at_:Int) (i:PIn):∀c∈rvC d j at_ i,LowI S c:=X9 (.ptr _ _ hd) (X9 (.ptr _ _ hj) (X9 (.val _) (X9 (.val _) (X9 ((Xf _).2 trivial).lowI Y2))))
theorem Xh5 {S:Nat→Prop} {s d c m j:Nat} (hd:S d) (hc:S c) (hm:S m) (hj:S j) (at_:Int) (i:PIn) (D:DM):∀x∈rvG s d c m j at_ i D,∀p∈x.2,LowI S p:=
 Yt (Xwz hd hj at_ i) (X7a hd hc hm at_ 12 D)
theorem Xqu {s d c m j:Nat} (at_:Int) (i:PIn) (D:DM):RenB (renN (ids5 s d c m j)) (fun i=>i ∈ [1000005,1000004,1000001,1000002,1000003]) (rvG 1000005 1000001 1000002 1000003 1000004 at_ i D) (rvG s d c m j at_ i D):=
 RenB.cons _ _ _ _ _ (.cons (.ptr _ _ S_) (.cons (.ptr _ _ S_) (.cons (.low _ (.val _)) (.cons (.low _ (.val _)) (.cons (.low _ ((Xf _).2 trivial)) .nil))))) (RenB.cons _ _ _ _ _ (.cons (.ptr _ _ S_) (.cons (.low _ (.val _)) (.cons (.low _ (.val _)) .nil))) (RenB.cons _ _ _ _ _ (.cons (.msl _ _ _ _ S_) (.cons (.mref _ S_) (.cons (.low _ (.val _)) (.cons (.low _ (.val _)) (.cons (.low _ (.val _)) .nil))))) (RenB.cons _ _ _ _ _ (RenL.low (Xm _)) RenB.nil)))
theorem X2u {f:FuncId} {fn:Func} {c:Code} {args:List PV} {o o' : PIn} {D D' : DM} {r:PV} {at_:Int} (hf:Tryz.prog.funcs[f]? = some fn) (hb:fn.body=some c) (hcb:X28 Tryz.prog f=true) (hlow:∀p∈args,LowI (fun i=>i ∈ [1000005,1000004,1000001,1000002,1000003]) p) (hno:∀p∈args,p.ownB=false) (hn:args.length≤fn.ntmps) (hr:LowI (fun i=>i ∈ [1000005,1000004,1000001,1000002,1000003]) r)
  (h:PW Tryz.prog fn.ntmps c (RetH X9l fn.results.toList r (rvG 1000005 1000001 1000002 1000003 1000004 at_ o' D') (dMs 1000003 D')) (Za args (rvG 1000005 1000001 1000002 1000003 1000004 at_ o D) (dMs 1000003 D))):Xe Tryz.prog f args (rvG 1000005 1000001 1000002 1000003 1000004 at_ o D) (dMs 1000003 D) r (rvG 1000005 1000001 1000002 1000003 1000004 at_ o' D') (dMs 1000003 D'):=by
 have r3:∀o D,X0 (rvG 1000005 1000001 1000002 1000003 1000004 at_ o D) (dMs 1000003 D) = [1000005,1000004,1000001,1000002,1000003]:=fun _ _=>rfl
 refine Xn X6 hf hb hcb hno hn (by rw [r3];decide) (by rw [r3];decide) ⟨by rw [r3];exact hlow,?_,?_,by rw [r3];exact hr,?_,?_,by simp [rvG,jG,dG],by simp [dMs]⟩ h
 ·rw [r3];exact Xh5 D_ D_ D_ D_ _ _ _
 ·exact K4 _ _
 ·rw [r3];exact Xh5 D_ D_ D_ D_ _ _ _
 ·exact K4 _ _
theorem Xs9 {f:FuncId} {args args' : List PV} {o o' : PIn} {D D' : DM} {r r' : PV} {at_:Int} (h:Xe Tryz.prog f args (rvG 1000005 1000001 1000002 1000003 1000004 at_ o D) (dMs 1000003 D) r (rvG 1000005 1000001 1000002 1000003 1000004 at_ o' D') (dMs 1000003 D')) (s d c m j:Nat) (hd:([s,d,c,m,j]:List Nat).Nodup)
  (ha:RenL (renN (ids5 s d c m j)) (fun i=>i ∈ [1000005,1000004,1000001,1000002,1000003]) args args') (hr:Ren (renN (ids5 s d c m j)) (fun i=>i ∈ [1000005,1000004,1000001,1000002,1000003]) r r'):Xe Tryz.prog f args' (rvG s d c m j at_ o D) (dMs m D) r' (rvG s d c m j at_ o' D') (dMs m D'):=by
 have e:∀o D,X0 (rvG 1000005 1000001 1000002 1000003 1000004 at_ o D) (dMs 1000003 D) = [1000005,1000004,1000001,1000002,1000003]:=fun _ _=>rfl
 have hM:∀D,Kc (renN (ids5 s d c m j)) (fun i=>i ∈ [1000005,1000004,1000001,1000002,1000003]) (dMs 1000003 D) (dMs m D):=fun D=>Kc.cons _ _ _ _ _ (RenM.low (Xi _)) Kc.nil
 exact h.at (ids5 s d c m j) (by simpa [ids5] using hd) (by rw [e];simp [ids5]) (by simp [rvG,jG,dG]) (by simp [dMs]) (by rw [e];exact ha) (by rw [e];exact Xqu at_ o D) (by rw [e];exact hM _) (by rw [e];exact hr) (by rw [e];exact Xqu at_ o' D') (by rw [e];exact hM _)
theorem Xwo (D:DM) (at_:Int) (o:PIn):Xe Tryz.prog 28 [.ptr 1000005 0] (rvG 1000005 1000001 1000002 1000003 1000004 at_ o D) (dMs 1000003 D) (pint o.next) (rvG 1000005 1000001 1000002 1000003 1000004 at_ o D) (dMs 1000003 D):=by
 refine X2u Tryz.func28 rfl rfl (X9 (.ptr _ _ D_) Y2) (by simp [PV.ownB]) N_ (.val _) ?_
 obtain ⟨nx,l⟩:=o
 refine wk ?_
 exact RetH.mk rfl (Weak.refl _) aw0 am0
theorem X9e (D:DM) (at_:Int) (o:PIn) (s d c m j:Nat) (hd:([s,d,c,m,j]:List Nat).Nodup):Xe Tryz.prog 28 [.ptr s 0] (rvG s d c m j at_ o D) (dMs m D) (pint o.next) (rvG s d c m j at_ o D) (dMs m D):=
 Xs9 (Xwo D at_ o) s d c m j hd (.cons (.ptr _ _ S_) .nil) (.low _ (.val _))
theorem Xqc (D:DM) (at_:Int) (o:PIn) (n:Int) (h:n < 0∨o.next < n):Xe Tryz.prog 26 [.ptr 1000005 0,pint n] (rvG 1000005 1000001 1000002 1000003 1000004 at_ o D) (dMs 1000003 D) (.tup [.nilsl,pint 1]) (rvG 1000005 1000001 1000002 1000003 1000004 at_ o D) (dMs 1000003 D):=by
 refine X2u Tryz.func26 rfl rfl (X9 (.ptr _ _ D_) (X9 (.val _) Y2)) (by simp [pint,PV.ownB]) N_ (.tup _ (X9 .nilsl (X9 (.val _) Y2))) ?_
 obtain ⟨nx,l⟩:=o
 dsimp only at h
 by_cases h1:n < 0
 ·refine wk ?_
  exact RetH.mk rfl (Weak.refl _) aw0 am0
 ·have h2:nx < n:=O_
  refine wk ?_
  exact RetH.mk rfl (Weak.refl _) aw0 am0
theorem Xiu (D:DM) (at_:Int) (o:PIn) (n:Int) (h:n < 0∨o.next < n) (s d c m j:Nat) (hd:([s,d,c,m,j]:List Nat).Nodup):Xe Tryz.prog 26 [.ptr s 0,pint n] (rvG s d c m j at_ o D) (dMs m D) (.tup [.nilsl,pint 1]) (rvG s d c m j at_ o D) (dMs m D):=
 Xs9 (Xqc D at_ o n h) s d c m j hd (.cons (.ptr _ _ S_) (.cons (.low _ (.val _)) .nil)) (.low _ (.tup _ (by simp [Low.nilsl,pint,Low.val])))
theorem Xrf (D:DM) (at_ a:Nat) (l:List PFrm) (Q:List Body) (ha:at_≤1000000000) (hn:a+Q.length≤1000000000) (hq:Q.length≤64) (hsz:D.cells.length≤1000000000) (hop:∀e∈D.op,e.2.2.length≤1000000000) (hr:X39 D at_ a Q):Xe Tryz.prog 26 [.ptr 1000005 0,pint a] (rvG 1000005 1000001 1000002 1000003 1000004 at_ ⟨(a+Q.length:Nat),l⟩ D) (dMs 1000003 D) (.tup [Xr (Kl Q),pint 0]) (rvG 1000005 1000001 1000002 1000003 1000004 at_ ⟨(a+Q.length:Nat),l⟩ D) (dMs 1000003 D):=by
 have c1:=Xm D
 have c2:=Xi D
 have kA:=Y0j D at_ a Q ha hn hsz hop hr 1000001 1000002 1000003 1000004 D_
 refine X2u Tryz.func26 rfl rfl (X9 (.ptr _ _ D_) (X9 (.val _) Y2)) (by simp [pint,PV.ownB]) N_ (Km.2 (by simp [Xo,Xb])).lowI ?_
 clear hr
 have h1:(0:Int)≤(a:Int):=O_
 have h2:(a:Int)≤((a+Q.length:Nat):Int):=O_
 have h3:((a+Q.length:Nat):Int) - 64≤(a:Int):=O_
 have h4:((a+Q.length:Nat):Int)≤1000000000:=O_
 generalize Kl Q=B at *
 generalize ((a+Q.length:Nat):Int)=z at *
 refine wk ?_
 exact RetH.mk rfl (Weak.refl _) aw0 am0
theorem Xaj (D:DM) (at_ a:Nat) (l:List PFrm) (Q:List Body) (ha:at_≤1000000000) (hn:a+Q.length≤1000000000) (hq:Q.length≤64) (hsz:D.cells.length≤1000000000) (hop:∀e∈D.op,e.2.2.length≤1000000000) (hr:X39 D at_ a Q) (s d c m j:Nat) (hd:([s,d,c,m,j]:List Nat).Nodup):Xe Tryz.prog 26 [.ptr s 0,pint a] (rvG s d c m j at_ ⟨(a+Q.length:Nat),l⟩ D) (dMs m D) (.tup [Xr (Kl Q),pint 0]) (rvG s d c m j at_ ⟨(a+Q.length:Nat),l⟩ D) (dMs m D):=
 Xs9 (Xrf D at_ a l Q ha hn hq hsz hop hr) s d c m j hd (.cons (.ptr _ _ S_) (.cons (.low _ (.val _)) .nil)) (.low _ (Km.2 (by simp [Xo,Xb])))
def inQ (a:Nat):PIn:=⟨a,[]⟩
theorem Xww {N k:Nat} {D:DM} (h:GoD N k D) (at_:Nat) (hN:at_+271≤N) (hk:k+2000≤100000000) (hNN:N≤100000000) {R:Int×DM} (hh:RecP D at_ 12 R) (hz:R.1=0) (hsz:R.2.cells.length≤1000000000) (hop:∀e∈R.2.op,e.2.2.length≤1000000000) (a b:Nat) (ha:a≤1000000000) (hb:b≤1000000000) (hr:R.2.read ((at_:Int)+14)=(Vc a b,0)) :
  Xe Tryz.prog 22 [.ptr 1000001 0,pint at_] (dG 1000001 1000002 1000003 D) (dMs 1000003 D) (.tup [.ptr 7004 0,pint 0]) (rvG 7004 1000001 1000002 1000003 900004 at_ (inQ a) R.2) (dMs 1000003 R.2):=by
 have c1:=Xm D
 have c2:=Xi D
 have kO:=Xu2 h at_ hN hk hNN hh hz 1000001 1000002 1000003 900004 D_
 have kN:=Xeg R.2 at_ a b O_ hsz hop O_ O_ hr 1000001 1000002 1000003 900004 D_
 have r1:X0 (dG 1000001 1000002 1000003 D) (dMs 1000003 D) = [1000001,1000002,1000003]:=rfl
 have r2:X0 (rvG 7004 1000001 1000002 1000003 900004 at_ (inQ a) R.2) (dMs 1000003 R.2) = [7004,900004,1000001,1000002,1000003]:=rfl
 have s1:=Xm R.2
 have s2:=Xi R.2
 refine Xn X6 Tryz.func22 rfl rfl (by simp [pint,PV.ownB]) N_ (by rw [r1];decide) (by rw [r1];decide) ⟨by rw [r1];exact X9 (.ptr _ _ D_) (X9 (.val _) Y2),by rw [r1];exact Yt (Zi D_ D_ D) (Yt (X1h c1) X2i),K4 _ _,by rw [r2];exact .tup _ (X9 (.ptr _ _ D_) (X9 (.val _) Y2)),by rw [r2];exact Xh5 D_ D_ D_ D_ _ _ _,K4 _ _,by simp [rvG,jG,dG],by simp [dMs]⟩ ?_
 unfold inQ
 generalize R.2=D2 at *
 clear hh hz h hr hop hsz
 refine wk ?_
 exact RetH.mk rfl (Weak.refl _) ⟨⟨_,rfl, .cons (.refl _) (.cons (.refl _) (.cons (.refl _) (.cons (.refl _) (.cons (.nil 3) .nil))))⟩,⟨_,rfl,X7.refl _⟩,⟨_,rfl,X7.refl _⟩,⟨_,rfl,X7.refl _⟩,trivial⟩ ⟨⟨rfl,rfl⟩,trivial⟩
theorem X77 {N k:Nat} {D:DM} (h:GoD N k D) (at_:Nat) (hN:at_+271≤N) (hk:k+2000≤100000000) (hNN:N≤100000000) {R:Int×DM} (hh:RecP D at_ 12 R) (hz:R.1=0) (hsz:R.2.cells.length≤1000000000) (hop:∀e∈R.2.op,e.2.2.length≤1000000000) (a b:Nat) (ha:a≤1000000000) (hb:b≤1000000000) (hr:R.2.read ((at_:Int)+14)=(Vc a b,0)) (s d c m j:Nat) (hd:([s,d,c,m,j]:List Nat).Nodup) :
  Xe Tryz.prog 22 [.ptr d 0,pint at_] (dG d c m D) (dMs m D) (.tup [.ptr s 0,pint 0]) (rvG s d c m j at_ (inQ a) R.2) (dMs m R.2):=by
 have r1:X0 (dG 1000001 1000002 1000003 D) (dMs 1000003 D) = [1000001,1000002,1000003]:=rfl
 have r2:X0 (rvG 7004 1000001 1000002 1000003 900004 at_ (inQ a) R.2) (dMs 1000003 R.2) = [7004,900004,1000001,1000002,1000003]:=rfl
 have hB:∀(S:Nat→Prop) (D:DM),S 1000002→S 1000003→RenL (renN [(7004,s),(1000001,d),(1000002,c),(1000003,m),(900004,j)]) S (dB 1000002 1000003 D) (dB c m D):=fun S D s1 s2=>
  .cons (.msl _ _ _ _ s1) (.cons (.mref _ s2) (.cons (.low _ (.val _)) (.cons (.low _ (.val _)) (.cons (.low _ (.val _)) .nil))))
 refine (Xww h at_ hN hk hNN hh hz hsz hop a b ha hb hr).at [(7004,s),(1000001,d),(1000002,c),(1000003,m),(900004,j)] (by simpa using hd) (by rw [r2];simp) (by simp [rvG,jG,dG]) (by simp [dMs]) ?_ ?_ ?_ ?_ ?_ ?_
 ·rw [r1];exact .cons (.ptr _ _ S_) (.cons (.low _ (.val _)) .nil)
 ·rw [r1];exact RenB.cons _ _ _ _ _ (hB _ D S_ S_) (RenB.cons _ _ _ _ _ (RenL.low (Xm _)) RenB.nil)
 ·exact Kc.cons _ _ _ _ _ (RenM.low (Xi _)) Kc.nil
 ·rw [r2];exact X7j (.cons (.ptr _ _ S_) (.cons (.low _ (.val _)) .nil))
 ·rw [r2]
  exact RenB.cons _ _ _ _ _ (.cons (.ptr _ _ S_) (.cons (.ptr _ _ S_) (.cons (.low _ (.val _)) (.cons (.low _ (.val _)) (.cons (.low _ ((Xf _).2 trivial)) .nil))))) (RenB.cons _ _ _ _ _ (.cons (.ptr _ _ S_) (.cons (.low _ (.val _)) (.cons (.low _ (.val _)) .nil))) (RenB.cons _ _ _ _ _ (hB _ _ S_ S_) (RenB.cons _ _ _ _ _ (RenL.low (Xm _)) RenB.nil)))
 ·exact Kc.cons _ _ _ _ _ (RenM.low (Xi _)) Kc.nil
theorem Xnf {l:List PFrm} {k:Nat} {f:PFrm} (h:l[k]? = some f):(((l.flatMap Yj).drop (k * 3)).take 3).map PV.bare=Yj f:=by
 rw [Vq (f:=Yj) (k:=3) (fun _=>rfl) h];rfl
theorem K3 (l:List PFrm):(l.flatMap Yj).length=l.length * 3:=Kk (f:=Yj) (k:=3) (fun _=>rfl) l
theorem X78 {l:List PFrm} {k:Nat} (h:k < l.length):l[k]? = some (l.getD k default):=by
 rw [G_,E_ h];rfl
structure InOK (i:PIn):Prop where
 n:0≤i.next∧i.next≤900000000
 l:i.ahead.length≤64
 s:∀x,x < i.ahead.length→(i.ahead.getD x default).sum=false∧(i.ahead.getD x default).seq≤1099511627776∧(i.ahead.getD x default).body.size≤65536
 r:∀x,x < i.ahead.length→i.next < (i.ahead.getD x default).seq
 m:∀x y,x < y→y < i.ahead.length→(i.ahead.getD x default).seq < (i.ahead.getD y default).seq
def Xdt (i:PIn) (k:Nat):Int:=if k=0 then i.next else (i.ahead.getD (k - 1) default).seq
theorem InOK.last {i:PIn} (h:InOK i) {k:Nat} (hk:k < i.ahead.length):Xdt i k < (i.ahead.getD k default).seq:=by
 unfold Xdt
 split
 ·exact h.r k hk
 ·exact h.m (k - 1) k O_ hk
theorem X5x (i:PIn) (h:InOK i):Xs Tryz.prog 71 [pinb i] (· = Y1 true):=by
 have hlo:=X1e i
 have hlp:Low (Xp i.ahead):=(Xf _).2 trivial
 have hl:=h.l
 have hn:=h.n
 have kw:=X1i i.next 2199023255552
 rw [decide_eq_true hn.1,decide_eq_true (show i.next≤2199023255552 by omega)] at kw
 have hf:=fun k (hk:k < i.ahead.length)=>And.intro (h.s k hk) (h.last hk)
 clear h
 refine Xd X6 Tryz.func71 rfl K_ (by simp [Xo,Xx,Y0,Xy,Xw,Xb,X0j]) (by simp [pint,Kd,pstr,Y1,Xr,Yp,PV.ownB,pinb]) (by rw [Tryz.ntmps71];simp) ?_
 rw [Tryz.ntmps71,Tryz.results71]
 have fl:=K3 i.ahead
 refine wk ?_
 refine PW.loop (fun k:Nat=>((((((bot.setb 0 (pinL i)).put 1 (.ptr 0 0)).put 3 (pint (Xdt i k))).put 9 (Xp i.ahead)).put 10 (pint i.ahead.length)).put 11 (pint k))) (fun k=>k≤i.ahead.length) (fun k=>i.ahead.length - k) 0 O_ ?_ ?_
 ·exact sb
 ·intro k hk
  by_cases hlt:k < i.ahead.length
  ·obtain ⟨⟨f1,f2,f3⟩,f4⟩:=hf k hlt
   have hr:=X78 hlt
   have hr':=Xnf hr
   have e9:Xdt i (k+1)=(i.ahead.getD k default).seq:=by simp [Xdt]
   have kb:=X2g (i.ahead.getD k default).body O_
   rw [decide_eq_true f3] at kb
   clear hf
   generalize i.ahead.getD k default=f at *
   obtain ⟨fs,fq,fb⟩:=f
   simp only at f1 f2 f3 f4 kb e9
   subst f1
   generalize Xdt i k=z at *
   refine wk ?_
   refine Y4 (k+1) O_ O_ ?_
   try dsimp only
   rw [e9]
   exact sb
  ·obtain rfl:k=i.ahead.length:=O_
   clear hf
   refine wk ?_
   exact retP rfl (by exact lw) rfl
def posF (l:List PFrm) (n:Int):Nat:=(l.takeWhile fun f=>decide (f.seq < n)).length
theorem Xtb {n:Int} : ∀{l:List PFrm} {j:Nat},j≤l.length→(∀x,x < j→(l.getD x default).seq < n)→(j < l.length→n≤(l.getD j default).seq)→posF l n=j
 | [],j,h,_,_=>by simp at h;subst h;rfl
 |f :: l,0,_,_,h2=>by
  have e:n≤f.seq:=h2 S_
  simp only [posF]
  rw [List.takeWhile_cons_of_neg (by simp;omega)];rfl
 |f :: l,j+1,h,h1,h2=>by
  have e:f.seq < n:=h1 0 O_
  have ih:=Xtb (n:=n) (l:=l) (j:=j) (by simpa using h) (fun x hx=>h1 (x+1) O_) (fun hj=>h2 (by simpa using hj))
  simp only [posF] at ih ⊢
  rw [List.takeWhile_cons_of_pos (by simp [e]),C_,ih]
def X89 (l:List PFrm) (n:Int):Bool:=decide (posF l n < l.length) && decide ((l.getD (posF l n) default).seq - n=0)
theorem Y23 (i j : Nat) (h : i + j ≤ 4000000000) : IntKind.i64.wrap ((IntKind.u64.wrap ((i : Int) + (j : Int))).fdiv (2 ^ min (Int.toNat 1) IntKind.u64.bits)) = (((i + j) / 2 : Nat) : Int) := by
  have h1 : IntKind.u64.wrap ((i : Int) + (j : Int)) = (i : Int) + j := by
    show ((i : Int) + j).emod (2 ^ 64) = _
    exact Int.emod_eq_of_lt O_ (by have : (2 : Int) ^ 64 = 18446744073709551616 := by decide
                                   omega)
  have h2 : (2 : Int) ^ min (Int.toNat 1) IntKind.u64.bits = 2 := rfl
  rw [h1, h2, Zp]
  · rw [Int.fdiv_eq_ediv_of_nonneg _ D_]; omega
  · rw [Int.fdiv_eq_ediv_of_nonneg _ D_]; omega
  · rw [Int.fdiv_eq_ediv_of_nonneg _ D_]; omega
theorem Y13 (f:FuncId):Low (.fn f []):=.fn _ _ S_
theorem Xmh (f:PFrm) (n:Int) (h : -1000000000000000≤f.seq∧f.seq≤1000000000000000) (hn : -1000000000000000≤n∧n≤1000000000000000):Xs Tryz.prog 73 [pfrm f,pint n] (· = pint (f.seq - n)):=by
 have hlo:=Yw f
 refine Xd X6 Tryz.func73 rfl K_ (by simp [Xo,Xx,Y0,Xy,Xw,Xb,Kv]) (by simp [pint,Kd,pstr,Y1,Xr,Yp,PV.ownB,pfrm]) (by rw [Tryz.ntmps73];simp) ?_
 rw [Tryz.ntmps73,Tryz.results73]
 obtain ⟨fs,fq,fb⟩:=f
 simp only at h
 refine wk ?_
 exact retP rfl (by exact lw) rfl
theorem X8s (l:List PFrm) (n:Int) (hl:l.length≤1000000000) (hn : -1000000000000000≤n∧n≤1000000000000000) (hb:∀x,x < l.length→0≤(l.getD x default).seq∧(l.getD x default).seq≤1000000000000000) (hs:∀x y,x < y→y < l.length→(l.getD x default).seq < (l.getD y default).seq):Xs Tryz.prog 72 [Xp l,pint n, .fn 73 []] (· = .tup [pint (posF l n),Y1 (X89 l n)]):=by
 have hl1:Low (Xp l):=(Xf _).2 trivial
 have hl3:=Y13 73
 refine Xd X6 Tryz.func72 rfl K_ (by simp [Xo,Xx,Y0,Xy,Xw,Xb,Xf,Kv,Y13]) (by simp [pint,Kd,pstr,Y1,Xr,Yp,PV.ownB,Xp,pfrm]) (by rw [Tryz.ntmps72];simp) ?_
 rw [Tryz.ntmps72,Tryz.results72]
 have f1:=K3 l
 refine wk ?_
 refine PW.loop (fun p:Nat×Nat=>((((((bot.put 0 (Xp l)).put 1 (pint n)).put 2 (.fn 73 [])).put 8 (pint l.length)).put 9 (pint p.1)).put 10 (pint p.2))) (fun p=>p.1≤p.2∧p.2≤l.length∧(∀x,x < p.1→(l.getD x default).seq < n)∧(∀x,p.2≤x→x < l.length→n≤(l.getD x default).seq)) (fun p=>p.2 - p.1) (0,l.length) ⟨S_,S_,fun x hx=>by simp at hx,fun x h1 h2=>by simp at h1;omega⟩ ?_ ?_
 ·exact sb
 ·rintro ⟨i,j⟩ ⟨h1,h2,h3,h4⟩
  simp only at h1 h2 h3 h4
  have hv:=fun _:Unit=>And.intro hb hs
  clear hb hs
  by_cases hlt:i < j
  ·have hu:=fun _:Unit=>And.intro h3 h4
   clear h3 h4
   refine wk ?_
   rw [Y23 (i,j).1 (i,j).2 (by simp only;omega)]
   obtain ⟨m,hm⟩:∃m,m=((i,j).1+(i,j).2) / 2:=⟨_,rfl⟩
   rw [←hm]
   simp only at hm
   have hmj:i≤m∧m < j:=O_
   have hml:m < l.length:=O_
   have hbm:=(hv ()).1 m hml
   have ho:=Xmh (l.getD m default) n O_ hn
   obtain ⟨z,hz⟩:∃z,z=(l.getD m default).seq - n:=⟨_,rfl⟩
   rw [←hz] at ho
   by_cases hz0:z < 0
   ·refine wk ?_
    refine Y4 (m+1,j) ⟨by simp only;omega,h2,?_,(hu ()).2⟩ (by simp only;omega) ?_
    ·intro x hx
     simp only at hx
     by_cases hxm:x=m
     ·subst hxm;omega
     ·have:=(hv ()).2 x m O_ hml
      omega
    exact sb
   ·refine wk ?_
    refine Y4 (i,m) ⟨by simp only;omega,by simp only;omega,(hu ()).1,?_⟩ (by simp only;omega) ?_
    ·intro x hx hxl
     simp only at hx
     by_cases hxm:x=m
     ·subst hxm;omega
     ·have:=(hv ()).2 m x O_ hxl
      omega
    exact sb
  ·obtain rfl:i=j:=O_
   have hp:posF l n=i:=Xtb h2 h3 (fun h=>h4 i (Nat.le_refl _) h)
   clear h3 h4
   unfold X89
   rw [hp]
   by_cases hlt2:i < l.length
   ·have hbm:=(hv ()).1 i hlt2
    have ho:=Xmh (l.getD i default) n O_ hn
    obtain ⟨z,hz⟩:∃z,z=(l.getD i default).seq - n:=⟨_,rfl⟩
    rw [←hz] at ho ⊢
    by_cases hz0:z=0
    ·refine wk ?_
     refine retP (r:=.tup [pint i,Y1 true]) rfl (by exact lw) ?_
     simp [Y1,hlt2,hz0]
    ·refine wk ?_
     refine retP (r:=.tup [pint i,Y1 false]) rfl (by exact lw) ?_
     simp [Y1,hz0]
   ·refine wk ?_
    refine retP (r:=.tup [pint i,Y1 false]) rfl (by exact lw) ?_
    simp [Y1,hlt2]
def vfrm (f:PFrm):List Value := [.bool f.sum, .int .i64 f.seq, .string f.body]
theorem Xjv (f:PFrm):Yj f=(vfrm f).map PV.val:=rfl
theorem X3i:∀l:List PFrm,l.flatMap Yj=(l.flatMap vfrm).map PV.val
 | []=>rfl
 |f :: l=>by rw [List.flatMap_cons,List.flatMap_cons,List.map_append,Xjv,X3i l]
theorem Xmr (l:List PFrm):∀v∈l.flatMap vfrm,v.oneCell' = true:=by
 intro v hv
 obtain ⟨f,-,hv⟩:=List.mem_flatMap.1 hv
 simp only [vfrm,List.mem_cons,List.not_mem_nil,or_false] at hv
 rcases hv with rfl|rfl|rfl<;>rfl
theorem Xod (l:List PFrm):∀v∈l.flatMap vfrm,X2v v=true:=by
 intro v hv
 obtain ⟨f,-,hv⟩:=List.mem_flatMap.1 hv
 simp only [vfrm,List.mem_cons,List.not_mem_nil,or_false] at hv
 rcases hv with rfl|rfl|rfl<;>rfl
theorem Xzu (l:List PFrm):(l.flatMap vfrm).length=l.length * 3:=by
 have:=K3 l
 rwa [X3i,List.length_map] at this
theorem Xsv (l:List PFrm) (i:Nat):(l.flatMap vfrm).take (i * 3)=(l.take i).flatMap vfrm:=by
 induction l generalizing i with
 |nil=>simp
 |cons f l ih=>
  cases i with
  |zero=>simp
  |succ i=>
   rw [List.take_succ_cons,List.flatMap_cons,List.flatMap_cons,←ih i]
   have:(vfrm f).length=3:=rfl
   rw [List.take_append,this,H_ O_,show (i+1) * 3 - 3=i * 3 by omega]
theorem Xv3 (l:List PFrm) (i:Nat):(l.flatMap vfrm).drop (i * 3)=(l.drop i).flatMap vfrm:=by
 induction l generalizing i with
 |nil=>simp
 |cons f l ih=>
  cases i with
  |zero=>simp
  |succ i=>
   rw [List.drop_succ_cons,List.flatMap_cons,←ih i]
   have:(vfrm f).length=3:=rfl
   rw [List.drop_append,this,List.drop_of_length_le O_,List.nil_append,show (i+1) * 3 - 3=i * 3 by omega]
theorem Xx9 (l:List PFrm) (i:Nat) (f:PFrm):(l.flatMap vfrm).take (i * 3) ++ vfrm f ++ (l.flatMap vfrm).drop (i * 3)=(l.take i ++ [f] ++ l.drop i).flatMap vfrm:=by
 rw [Xsv,Xv3,List.flatMap_append,List.flatMap_append]
 simp
theorem Xix {Φ:Imm} {μ:Nat→Option Nat} {w:World} {n k g cap:Nat} {xs:List Value} {own:Option TypeId} {cur:Array Value} {T:TypeId} {fz:Nat×Nat} (hr:Rep Φ μ (.sl n k (xs.map PV.val) own) (.slice (some ⟨g,0,none⟩) n cap)) (himm:∀b o u,Φ b o=some u→w.cell? ⟨b,o,none⟩=some u) (hg:w.heap[g]? = some (.cells cur T fz)):∀(j:Nat) (v:Value),xs[j]? = some v→cur[j]? = some v:=by
 intro j v hj
 obtain ⟨a,b,off,cap',us,hv,-,-,q3,q4,q5,q6⟩:=hr.sl_inv
 have hl:j < xs.length:=(List.getElem?_eq_some_iff.1 hj).1
 have hn:0 < n:=by
  rcases Nat.eq_zero_or_pos n with h|h
  ·subst h;rw [List.length_map,Nat.zero_mul] at q3;omega
  ·exact h
 cases hv
 have h4:=q4 hn
 cases h4
 have h5:=himm _ _ _ (q5 j (by simpa using hl))
 rw [Nat.zero_add,X63 hg] at h5
 rw [h5]
 have h6:=q6 j (.val v) (by rw [M_,hj];rfl)
 exact congrArg some h6.val_inv.1
end
section
open Go.RowKit
variable {Φ0:Ent} {W:World} {M:Nat} {Φ:Imm} {μ:Nat→Option Nat} {ω:Nat→Option Who} {σ:PS} {a:Act} {w:World}
structure X0n (s:Nat) (σ:PS):Prop where
 t:∀t,t≠s→X4p (σ.t t)
 b:∀i bs,σ.b i=some bs→∀c∈bs,X4p c
 m:∀i,σ.m i=none
theorem X0n.bot (s:Nat):X0n s bot:=⟨fun _ _=>.inl .undef,fun _ _ e=>(by cases e),fun _=>rfl⟩
theorem X0n.put {s d:Nat} {p:PV} (h:X0n s σ) (hp:X4p p):X0n s (σ.put d p):=by
 refine ⟨fun t ht=>?_,h.b,h.m⟩
 simp only [PS.put,X8]
 split
 ·exact hp
 ·exact h.t t ht
theorem X0n.putS {s:Nat} {p:PV} (h:X0n s σ):X0n s (σ.put s p):=by
 refine ⟨fun t ht=>?_,h.b,h.m⟩
 simp only [PS.put,X8,if_neg ht]
 exact h.t t ht
theorem X0n.setb {s i:Nat} {bs:List PV} (h:X0n s σ) (hp:∀c∈bs,X4p c):X0n s (σ.setb i bs):=by
 refine ⟨h.t,fun id cs e=>?_,h.m⟩
 simp only [PS.setb,X8] at e
 split at e
 ·cases e;exact hp
 ·exact h.b id cs e
theorem X90:∀c∈([]:List PV),X4p c:=fun c h=>by cases h
theorem Zy {c:PV} {cs:List PV} (h:X4v c) (hs:∀c∈cs,X4p c):∀d∈c :: cs,X4p d:=by
 intro d hd
 rcases List.mem_cons.1 hd with rfl|hd
 ·exact .inl h
 ·exact hs d hd
theorem Xsl {s d g b' cap n:Nat} {cur:Array Value} {new:List PFrm} {w' : World} (h:RelG Φ0 W M Φ μ ω σ a w) (hC:Xss Φ0 W) (hg:Mine Φ0 W g) (hgo:∀p,ω g=some p→p = .tmp s) (hst:X0n s σ) (hd:d < M) (hsd:s≠d)
  (e1:w'.heap[b']? = some (.cells cur 59 (0,0))) (e2:n+1≤cap) (e3:cap≤maxLen) (e4:∀(j:Nat) (v:Value),(new.flatMap vfrm)[j]? = some v→cur[j]? = some v) (e5:b' = g∨w.heap.size≤b') (e6:Kept (fun k=>k < w.heap.size∧k≠g) w w') (hn:new.length=n+1) :
  Rel Φ0 W M ((σ.put s .undef).put d (Xp new)) (a.put (some d) (.slice (some ⟨b',0,none⟩) (n+1) cap)) w':=by
 have hWw:=h.below.size
 have hgold:∀b,Old Φ0 W b→b≠g:=fun b hb=>hg.ne hb
 have hbold:∀b,Old Φ0 W b→b≠b':=by
  intro b hb e
  rcases e5 with rfl|e5
  ·exact hgold b hb e
  ·subst e;have:=hb.1;omega
 have hbm:Mine Φ0 W b':=by
  rcases e5 with rfl|e5
  ·exact hg
  ·exact .inl O_
 let Φ' : Imm:=fun b o=>if b=b' then cur[o]? else if b=g then none else Φ b o
 let ω' : Nat→Option Who:=fun x=>if x=g then none else ω x
 have hΦo:∀b o,b≠b'→b≠g→Φ' b o=Φ b o:=fun b o h1 h2=>by show (if _ then _ else _)=_;rw [if_neg h1,if_neg h2]
 have hω1:∀x p,ω' x=some p→x≠g∧ω x=some p:=by
  intro x p e
  have e' : (if x=g then none else ω x)=some p:=e
  split at e'
  ·cases e'
  ·rename_i hx;exact ⟨hx,e'⟩
 have hω2:∀x p,ω x=some p→p≠.tmp s→x≠g∧x≠b'∧ω' x=some p:=by
  intro x p e hp
  have hx:x≠g:=by rintro rfl;exact hp (hgo p e)
  refine ⟨hx,?_,by show (if _ then _ else _)=_;rw [if_neg hx];exact e⟩
  rcases e5 with rfl|e5
  ·exact hx
  ·have:=h.lt x p e;omega
 have hblk:∀x,x < w.heap.size→x≠g→w'.heap[x]? = w.heap[x]?:=fun x h1 h2=>e6.block x ⟨h1,h2⟩
 have hΦq:∀q,q≠.tmp s→∀x,ω x=some q→∀j,Φ' x j=Φ x j:=fun q hq x e j=>by
  obtain ⟨h1,h2,-⟩:=hω2 x q e hq
  exact hΦo x j h2 h1
 have hown:∀q n' k' E' v,q≠.tmp s→Ki (Mine Φ0 W) Φ ω w q n' k' E' v→Ki (Mine Φ0 W) Φ' ω' w' q n' k' E' v:=by
  intro q n' k' E' v hq hh
  refine hh.step (fun x e=>?_)
  obtain ⟨h1,h2,h3⟩:=hω2 x q e hq
  exact ⟨hblk x (h.lt x q e) h1,fun j=>hΦo x j h2 h1,h3⟩
 have hd' : d < a.tmps.size:=by rw [h.size];exact hd
 refine ⟨Φ',μ,ω',?_,h.defers,by simp [Act.put,h.size],?_,?_,fun t=>?_,fun t n' k' cs' E' et=>?_,fun i bs eb=>?_,?_,fun x p e=>?_,h.gmu,?_,fun b o u e=>?_,fun i X e=>?_,fun x p e=>h.mine x p (hω1 x p e).2⟩
 ·exact h.below.trans (e6.mono fun k hk=>⟨Nat.lt_of_lt_of_le hk.1 hWw,hgold k hk⟩)
 ·intro b o u e
  have e' : (if b=b' then cur[o]? else if b=g then none else Φ b o)=some u:=e
  split at e'
  ·subst b;rw [X63 e1];exact e'
  ·split at e'
   ·cases e'
   ·rename_i h1 h2
    have h3:=h.imm b o u e'
    have h4:=h.fresh e'
    simp only [World.cell?] at h3 ⊢
    rw [hblk b h4 h2];exact h3
 ·intro b o hb
  rw [hΦo b o (hbold b hb) (hgold b hb)]
  exact h.old b o hb
 ·rw [K5 _ _ _ _ hd']
  simp only [PS.put,X8]
  by_cases ht:t=d
  ·simp only [if_pos ht]
   have hlen:(new.flatMap Yj).length=new.length * 3:=K3 new
   unfold Xp
   rw [hn]
   refine .sl (n+1) 3 _ none b' 0 cap (fun j=>cur.getD j undef) (by rw [hlen,hn]) e2 e3 (fun j hj=>?_) (fun j c hc=>?_)
   ·show (if b' = b' then cur[0+j]? else _)=_
    rw [if_pos rfl,Nat.zero_add]
    have hj' : j < (new.flatMap vfrm).length:=by rw [X3i,List.length_map] at hj;exact hj
    have:=e4 j _ (E_ hj')
    rw [Array.getD_eq_getD_getElem?,this];rfl
   ·rw [X3i,M_] at hc
    obtain ⟨v,hv,rfl⟩:=Option.map_eq_some_iff.1 hc
    have:=e4 j v hv
    have e7:cur.getD j undef=v:=by rw [Array.getD_eq_getD_getElem?,this];rfl
    rw [e7]
    exact .val v (Xod new v (Xc hv))
  ·simp only [if_neg ht]
   by_cases hts:t=s
   ·simp only [if_pos hts];exact .undef _
   ·simp only [if_neg hts]
    exact (hst.t t hts).rep (fun _ _ e=>e) (h.tmps t) (fun n k cs E e' => h.own t n k cs E e') (hΦq (.tmp t) (by simp [hts]))
 ·rw [K5 _ _ _ _ hd']
  simp only [PS.put,X8] at et
  by_cases ht:t=d
  ·simp only [if_pos ht] at et;cases et
  ·simp only [if_neg ht] at et ⊢
   by_cases hts:t=s
   ·simp only [if_pos hts] at et;cases et
   ·simp only [if_neg hts] at et
    exact hown _ _ _ _ _ (by simp [hts]) (h.own t n' k' cs' E' et)
 ·have eb' : σ.b i=some bs:=eb
  obtain ⟨g2,cur',Ty,r1,r2,r3,r4,r5,r6,r7⟩:=h.box i bs eb'
  obtain ⟨h1,h2,h3⟩:=hω2 g2 _ r4 S_
  refine ⟨g2,cur',Ty,r1,by rw [hblk g2 (Y14 r2) h1];exact r2,r3,h3,fun j=>by rw [hΦo g2 j h2 h1];exact r5 j,r6,fun j c hc=>?_⟩
  obtain ⟨u,s1,s2,s3,s4⟩:=r7 j c hc
  exact ⟨u,s1,s2,(hst.b i bs eb' c (Xc hc)).rep (fun _ _ e=>e) s3 s4 (hΦq (.cell i j) S_),fun n k cs E e=>hown _ _ _ _ _ S_ (s4 n k cs E e)⟩
 ·exact h.gone
 ·obtain ⟨h1,h2⟩:=hω1 x p e
  exact Nat.lt_of_lt_of_le (h.lt x p h2) e6.size
 ·exact h.kmu
 ·obtain ⟨k1,k2⟩:=h.ext b o u e
  refine ⟨?_,k2⟩
  have hbg:b≠g:=by
   rintro rfl
   rcases hg with hg|hg
   ·omega
   ·rw [hC b hg o] at e;cases e
  have hbb:b≠b':=by
   rintro rfl
   rcases e5 with e5|e5
   ·exact hbg e5
   ·omega
  rw [hΦo b o hbb hbg];exact k1
 ·have e' : σ.m i=some X:=e
  rw [hst.m i] at e'; cases e'
def ownK:List PFrm→PV
 | []=>.sl 0 3 [] (some (59+1000000))
 |x :: l=>.sl (l.length+1) 3 ((x :: l).flatMap Yj) (some 59)
theorem Y2r {s1 s2 s3 d i:Nat} {l:List PFrm} {f:PFrm} {E3:TypeId} {o:Oper} {c:Call} (hop:o.op = .call c) (hcal:c.callee = .value (.func 74)) (hargs:c.args.toList = [.tmp s1, .tmp s2, .tmp s3]) (hdst:o.dst=some d)
  (h1:σ.t s1=ownK l) (h2:σ.t s2=pint i) (h3:σ.t s3 = .sl 1 3 (Yj f) (some E3)) (hE:E3 < 1000000) (h13:s1≠s3) (h1d:s1≠d) (hst:X0n s1 σ) (hi:i≤l.length) (hl:l.length≤1000000) :
  ∀Φ0 W a w,Xss Φ0 W→(∀d,o.dst=some d→d < M)→Rel Φ0 W M σ a w→∀(next:Act→World→Prop) (Q:Exit→Act→World→Prop),(∀a' w',Rel Φ0 W M ((σ.put s1 .undef).put d (Xp (l.take i ++ [f] ++ l.drop i))) a' w'→next a' w')→o.wp Tryz.prog a w next Q:=by
 intro Φ0 W a w hC hM hr next Q hn
 obtain ⟨Φ,μ,ω,h⟩:=hr
 have hd:=hM d hdst
 have hrun:=Xf2 h o hop hcal (x:=.func 74) rfl D_ (show X28 Tryz.prog 74=true by kernel_rfl)
 have v2:a.tmps.getD s2 undef = .int .i64 i:=by
  have:=h.tmps s2
  rw [h2] at this
  exact this.val_inv.1
 obtain ⟨vb,vc,curv,v3,m3,c3,n3,n3b,z3,w3⟩:∃vb vc curv,a.tmps.getD s3 undef = .slice (some ⟨vb,0,none⟩) 1 vc∧Mine Φ0 W vb∧w.heap[vb]? = some (.cells curv E3 (0,0))∧1≤vc∧vc≤maxLen∧curv.size=vc * 3∧ω vb=some (.tmp s3):=by
  rcases h.own s3 1 3 _ E3 h3 with ⟨-,q⟩|⟨g,cap,cur,q1,q2,q3,q4,q5,q6,q7,q8⟩|⟨q,-⟩
  ·cases q
  ·exact ⟨g,cap,cur,q1,q2,q3,q4,q5,q6,q7⟩
  ·exact absurd hE (Nat.not_lt.2 q)
 have hvs:∀(j:Nat) (v:Value),(vfrm f)[j]? = some v→curv[j]? = some v:=by
  have hr3:=h.tmps s3
  rw [h3,v3,Xjv] at hr3
  exact Xix hr3 h.imm c3
 have hv1:∀v∈vfrm f,v.oneCell' = true:=fun v hv=>Xmr [f] v (by simpa using hv)
 have hev:∀s,a.eval (.tmp s)=a.tmps.getD s undef:=fun s=>rfl
 unfold Oper.wp
 rw [hrun,hargs]
 simp only [List.map_cons,List.map_nil,hev,v2,v3]
 show Calls Tryz.prog _ _ w _
 cases l with
 |nil=>
  obtain rfl:i=0:=by simpa using hi
  obtain ⟨base,v1⟩:∃base,a.tmps.getD s1 undef = .slice base 0 0:=by
   rcases h.own s1 0 3 _ _ h1 with ⟨q,-⟩|⟨g,cap,cur,q1,q2,q3,q4,q5,q6,q7,q8⟩|⟨-,ad,q⟩
   ·exact ⟨none,q⟩
   ·exact absurd q8.1 D_
   ·exact ⟨ad,q⟩
  rw [v1]
  refine (Y34 base vb vc (vfrm f) w curv E3 c3 w.heap.size rfl hvs hv1).mono ?_
  rintro e w' ⟨b',cap,cur,rfl,e1,e2,e3,e4,e5,e6⟩
  simp only
  rw [hdst]
  refine hn _ _ (Xsl h hC (g:=w.heap.size) (.inl h.below.size) (fun p e=>?_) hst hd h1d e1 e2 e3 (fun j v hj=>e4 j v (by simpa using hj)) e5 e6 rfl)
  have:=h.lt _ p e;omega
 |cons x l=>
  have ho:=h.own s1 (l.length+1) 3 ((x :: l).flatMap Yj) 59 h1
  obtain ⟨b,c0,cur0,v1,m1,c1,n1,n1b,z1,w1⟩:∃b c0 cur0,a.tmps.getD s1 undef = .slice (some ⟨b,0,none⟩) (l.length+1) c0∧Mine Φ0 W b∧w.heap[b]? = some (.cells cur0 59 (0,0))∧l.length+1≤c0∧c0≤maxLen∧cur0.size=c0 * 3∧ω b=some (.tmp s1):=by
   rcases ho with ⟨-,q⟩|⟨g,cap,cur,q1,q2,q3,q4,q5,q6,q7,q8⟩|⟨q,-⟩
   ·cases q
   ·exact ⟨g,cap,cur,q1,q2,q3,q4,q5,q6,q7⟩
   ·exact absurd q D_
  have hbv:vb≠b:=by
   rintro rfl
   rw [w3] at w1
   injection w1 with w1
   injection w1 with w1
   exact h13 w1.symm
  have hcs:∀(j:Nat) (v:Value),((x :: l).flatMap vfrm)[j]? = some v→cur0[j]? = some v:=by
   have hr1:=h.tmps s1
   rw [h1,v1] at hr1
   have hr1' : Rep Φ μ (.sl (l.length+1) 3 (((x :: l).flatMap vfrm).map PV.val) (some 59)) (.slice (some ⟨b,0,none⟩) (l.length+1) c0):=by rw [←X3i];exact hr1
   exact Xix hr1' h.imm c1
  rw [v1]
  simp only [C_] at hi hl
  refine (Y47 b (l.length+1) c0 i vb vc ((x :: l).flatMap vfrm) (vfrm f) w cur0 curv E3 c1 z1 n1 n1b c3 hbv hi O_ (Xzu (x :: l)) rfl hcs hvs (Xmr _) hv1).mono ?_
  rintro e w' ⟨b',cap,cur,rfl,e1,e2,e3,e4,e5,e6⟩
  simp only
  rw [hdst]
  rw [Xx9] at e4
  refine hn _ _ (Xsl h hC (g:=b) m1 (fun p e=>?_) hst hd h1d e1 e2 e3 e4 e5 e6 ?_)
  ·rw [w1] at e;cases e;rfl
  ·simp only [A_,T_,L_,C_,List.length_nil];omega
end
section
open Go.RowKit
theorem Y4y (a:Option Addr) (cap:Nat) (w:World):Calls Tryz.prog 75 #[.slice a 0 cap] w (fun e w' => ∃a',e = .returned (.slice a' 0 0)∧Below w.heap.size w w'):=by
 cases a with
 |none=>
  have he:=fun (w:World)=>Lib.run_eql_slice_nil (P:=Tryz.prog) w 36 59 none 0 cap 0 0 K_
  go_enter Tryz.func75,Tryz.ntmps75
  simp only [Option.isNone_none] at he
  go_wp2
  go_ret
  exact ⟨_,rfl,Below.refl _ _⟩
 |some ad=>
  have he:=fun (w:World)=>Lib.run_eql_slice_nil (P:=Tryz.prog) w 36 59 (some ad) 0 cap 0 0 K_
  go_enter Tryz.func75,Tryz.ntmps75
  simp only [Option.isNone_some] at he
  go_wp2
  go_ret
  exact ⟨_,rfl,(Below.refl _ _).alloc (Nat.le_refl _) _⟩
theorem Xyz:∀l,Low (ownK l)
 | []=>.sl _ _ _ _ S_
 |_ :: _=>.sl _ _ _ _ (Ks _)
theorem Xzt:∀(l:List PFrm),l.length≤1000000→Xs Tryz.prog 75 [Xp l] (· = ownK l)
 | [],_=>Xda K_ fun Φ μ w v himm hr=>by
  obtain ⟨a,b,off,cap,us,rfl,-⟩:=hr.sl_inv
  refine (Y4y a cap w).mono ?_
  rintro e w' ⟨a',rfl,hb⟩
  exact ⟨_,_,Φ,rfl,rfl, .sl0 _ _ _ _ (Nat.zero_le _),fun b o u e=>Xz hb (himm b o u e),fun _ _ _=>rfl,hb,fun n k cs E' e=>by cases e;exact .inr (.inr ⟨D_,a',rfl⟩)⟩
 |x :: l,h=>Xy9 (x :: l) h
theorem Sub.weakB {M:Nat} {σ:PS} {id:Nat} {bs:List PV} (cs:List PV) (hb:σ.b id=some bs) (hw:X7 bs cs):Sub M σ (σ.setb id cs):=fun _ _ _ _ ⟨Φ,μ,ω,hg⟩=>⟨Φ,μ,ω,hg.weakB hb hw⟩
theorem Xcs:∀c∈([]:List PV),c.ownB=false:=fun c h=>by cases h
theorem X19 {c:PV} {cs:List PV} (h:c.ownB=false) (hs:∀c∈cs,c.ownB=false):∀d∈c :: cs,d.ownB=false:=by
 intro d hd
 rcases List.mem_cons.1 hd with rfl|hd
 ·exact h
 ·exact hs d hd
theorem Xfi (i:PIn) {p:PV} (h:Low p):Low (.tup [pinb i,p,pint 0]):=.tup _ (by
 intro c hc
 simp only [List.mem_cons,List.not_mem_nil,or_false] at hc
 rcases hc with rfl|rfl|rfl
 ·exact (X0j _).2 trivial
 ·exact h
 ·exact .val _)
def X3h (i:PIn) (f:PFrm):PIn:=if X89 i.ahead f.seq=false∧i.ahead.length < 64 then ⟨i.next,i.ahead.take (posF i.ahead f.seq) ++ [f] ++ i.ahead.drop (posF i.ahead f.seq)⟩ else i
theorem Xyb (i:PIn) (f:PFrm) (h:InOK i) (hs:f.sum=false) (h0:0≤f.seq) (hb:f.body.size≤65536) (hlt:f.seq < i.next):Xs Tryz.prog 50 [pinb i,pfrm f] (· = .tup [pinb i, .nilsl,pint 0]):=by
 have hlo:=X1e i
 have hlf:=Yw f
 have hl1:Low (Xp i.ahead):=(Xf _).2 trivial
 have kV:=X5x i h
 have kw:=X1i f.seq 1099511627776
 have hn:=h.n
 rw [decide_eq_true h0,decide_eq_true (show f.seq≤1099511627776 by omega)] at kw
 have kb:=X2g f.body O_
 rw [decide_eq_true hb] at kb
 have kS:=X8s i.ahead f.seq (by have:=h.l;omega) O_ (fun x hx=>by have:=h.r x hx;have:=(h.s x hx).2.1;omega) h.m
 generalize posF i.ahead f.seq=p at kS
 generalize X89 i.ahead f.seq=fd at kS
 clear h
 obtain ⟨fs,fq,fb⟩:=f
 obtain ⟨ne,ah⟩:=i
 simp only at hs h0 hb hlt hn hlo hlf hl1 kV kw kb kS
 subst hs
 refine Xd X6 Tryz.func50 rfl K_ (by simp [Xo,Xx,Y0,Xy,Xw,Xb,X0j,Kv]) (by simp [pint,Kd,pstr,Y1,Xr,Yp,PV.ownB,pinb,pfrm]) (by rw [Tryz.ntmps50];simp) ?_
 rw [Tryz.ntmps50,Tryz.results50]
 refine wk ?_
 exact retP (r:=.tup [pinb ⟨ne,ah⟩, .nilsl,pint 0]) rfl (Xfi _ .nilsl) rfl
theorem Xwd (i:PIn) (f:PFrm) (h:InOK i) (hs:f.sum=false) (hq:f.seq≤1099511627776) (hb:f.body.size≤65536) (hlt:i.next < f.seq):Xs Tryz.prog 50 [pinb i,pfrm f] (· = .tup [pinb (X3h i f), .nilsl,pint 0]):=by
 have hlo:=X1e i
 have hlf:=Yw f
 have hl1:Low (Xp i.ahead):=(Xf _).2 trivial
 have kV:=X5x i h
 have kw:=X1i f.seq 1099511627776
 have hn:=h.n
 rw [decide_eq_true (show 0≤f.seq by omega),decide_eq_true hq] at kw
 have kb:=X2g f.body O_
 rw [decide_eq_true hb] at kb
 have kS:=X8s i.ahead f.seq (by have:=h.l;omega) O_ (fun x hx=>by have:=h.r x hx;have:=(h.s x hx).2.1;omega) h.m
 have hpl:posF i.ahead f.seq≤i.ahead.length:=by unfold posF;exact (List.takeWhile_sublist _).length_le
 have hl64:=h.l
 have hC:=Xzt i.ahead O_
 unfold X3h
 generalize posF i.ahead f.seq=p at kS hpl ⊢
 generalize X89 i.ahead f.seq=fd at kS ⊢
 clear h
 obtain ⟨fs,fq,fb⟩:=f
 obtain ⟨ne,ah⟩:=i
 simp only at hs hb hlt hn hlo hlf hl1 kV kw kb kS hpl hl64 hC hq ⊢
 subst hs
 have hlr:∀i:PIn,Low (.tup [pinb i, .nilsl,pint 0]):=fun i=>Xfi i .nilsl
 refine Xd X6 Tryz.func50 rfl K_ (by simp [Xo,Xx,Y0,Xy,Xw,Xb,X0j,Kv]) (by simp [pint,Kd,pstr,Y1,Xr,Yp,PV.ownB,pinb,pfrm]) (by rw [Tryz.ntmps50];simp) ?_
 rw [Tryz.ntmps50,Tryz.results50]
 cases fd with
 |true=>
  rw [if_neg S_]
  refine wk ?_
  exact retP (r:=.tup [pinb ⟨ne,ah⟩, .nilsl,pint 0]) rfl (hlr _) rfl
 |false=>
  have hu:=fun _:Unit=>hl64
  clear hl64
  refine wk ?_
  by_cases h64:ah.length < 64
  ·rw [if_pos ⟨rfl,h64⟩]
   refine wg ?_
   refine PW.sub (σ':=(((((((bot.setb 0 [pint ne,Xp ah]).setb 1 [Y1 false,pint fq,pstr fb]).setb 2 [pint 0, .nilsl]).put 2 (.ptr 0 0)).put 3 (.ptr 1 0)).put 4 (.ptr 2 0)).put 7 (pint p))) ?_ (by exact sb)
   refine PW.drawX 6 ((((((Xbc.bot.setb (X19 rfl (X19 rfl Xcs))).setb (X19 rfl (X19 rfl (X19 rfl Xcs)))).setb (X19 rfl (X19 rfl Xcs))).put rfl).put rfl).put rfl |>.put rfl) X6 K_ K_ K_ K_ ?_
   simp only [Xa,List.filter_cons,List.filter_nil,Nat.reduceAdd,Nat.reduceLT,Nat.reduceLeDiff,decide_true,decide_false,if_true,if_false,Bool.false_eq_true]
   (refine ops0 ?_)
   (refine ops0 ?_)
   (refine ops0 ?_)
   (refine ops0 ?_)
   (refine ops0 ?_)
   (refine ops0 ?_)
   refine X5.done ?_
   refine SeqX.raw (((((((((((bot.setb 0 [pint ne, .undef]).setb 1 [Y1 false,pint fq,pstr fb]).setb 2 [pint 0, .nilsl]).put 2 (.ptr 0 0)).put 3 (.ptr 1 0)).put 4 (.ptr 2 0)).put 72 (pint p)).put 74 (.sl 1 3 (Yj ⟨false,fq,fb⟩) (some 59))).put 71 (ownK ah)).put 71 .undef).put 75 (Xp (ah.take p ++ [⟨false,fq,fb⟩] ++ ah.drop p))) rfl (fun Φ0 W a w hCl hM hr=>?_) ?_
   ·have l1:Low .undef:=.undef
    have l2:=Xyz ah
    have l3:Low (.sl 1 3 (Yj ⟨false,fq,fb⟩) (some 59)):=.sl _ _ _ _ hlf
    have hr2:=(Sub.trans (Sub.weakB (id:=0) [pint ne, .undef] rfl (.cons (Weak.refl _) (.cons (Weak.undef _) .nil))) (show Sub 98 _ (((((((((bot.setb 0 [pint ne, .undef]).setb 1 [Y1 false,pint fq,pstr fb]).setb 2 [pint 0, .nilsl]).put 2 (.ptr 0 0)).put 3 (.ptr 1 0)).put 4 (.ptr 2 0)).put 72 (pint p)).put 74 (.sl 1 3 (Yj ⟨false,fq,fb⟩) (some 59))).put 71 (ownK ah)) from by exact sb)) _ _ _ _ hr
    have hff:∀c∈Yj ⟨false,fq,fb⟩,X4v c:=by
     intro c hc
     simp only [Yj,List.mem_cons,List.not_mem_nil,or_false] at hc
     rcases hc with rfl|rfl|rfl<;>exact .val _
    exact Y2r (s1:=71) (s2:=72) (s3:=74) (d:=75) (i:=p) (l:=ah) (f:=⟨false,fq,fb⟩) (E3:=59) rfl rfl rfl rfl rfl rfl rfl D_ D_ D_
     ((((((((X0n.bot 71).setb (Zy (.val _) (Zy .undef X90))).setb (Zy (.val _) (Zy (.val _) (Zy (.val _) X90)))).setb (Zy (.val _) (Zy .nilsl X90))).put (.inl (.ptr _ _))).put (.inl (.ptr _ _))).put (.inl (.ptr _ _))).put (.inl (.val _)) |>.put (.inr ⟨_,_,_,_,rfl,D_,hff⟩) |>.putS) hpl O_ _ _ _ _ hCl hM hr2
   refine SeqX.of ?_
   (refine ops0 ?_)
   (refine ops0 ?_)
   refine X5.done ?_
   refine Xwv ?_
   have l4:Low .undef:=.undef
   refine wk ?_
   exact retP (r:=.tup [pinb ⟨ne,_⟩, .nilsl,pint 0]) rfl (hlr _) rfl
  ·rw [if_neg (fun e=>h64 e.2)]
   refine wk ?_
   exact retP (r:=.tup [pinb ⟨ne,ah⟩, .nilsl,pint 0]) rfl (hlr _) rfl
def ownO (l:List PFrm):PV:=.sl l.length 3 (l.flatMap Yj) (some 59)
theorem Zt (l:List PFrm):Low (ownO l):=.sl _ _ _ _ (Ks _)
theorem Xp2 {l:List PFrm} (h:l ≠ []):X6h (ownO l):=by
 intro n k cs E e
 cases l with
 |nil=>exact absurd rfl h
 |cons f l=>cases e;exact .inr ⟨0,Y1 f.sum,rfl,rfl⟩
def rG (nx:Int) (ah:List PFrm) (l:List PFrm):List (Nat×List PV) := [(1000002,[pint nx,Xp ah]),(1000003,[ownO l])]
theorem X7x (nx:Int) (ah l:List PFrm) {S:Nat→Prop} : ∀x∈rG nx ah l,∀c∈x.2,LowI S c:=
 Yt (X9 (.val _) (X9 ((Xf ah).2 trivial).lowI Y2)) (Yt (X9 (Zt l).lowI Y2) X2i)
theorem Xcy (nx:Int) (ah:List PFrm) {l:List PFrm} (h:l ≠ []):∀x∈rG nx ah l,∀c∈x.2,X6h c:=by
 intro x hx
 simp only [rG,List.mem_cons,List.not_mem_nil,or_false] at hx
 rcases hx with rfl|rfl
 ·exact X20 (X4b rfl) (X20 (X4b rfl) X59)
 ·exact X20 (Xp2 h) X59
theorem X7v (l:List PFrm) (x:PFrm):l.flatMap Yj ++ Yj x=(l ++ [x]).flatMap Yj:=by simp [List.flatMap_append]
theorem Xt8 (l:List PFrm) (x:PFrm):ownO (l ++ [x]) = .sl (l.length+1) 3 (l.flatMap Yj ++ Yj x) (some 59):=by
 unfold ownO;rw [A_,X7v];rfl
theorem Xrh (x:PFrm) (ah l:List PFrm) (hl:l ≠ []) (hll:l.length≤1000) (hx:0≤x.seq∧x.seq≤1099511627776) :
  Xe Tryz.prog 77 [pfrm x, .ptr 1000002 0, .ptr 1000003 0] (rG x.seq ah l) [] (Y1 true) (rG (x.seq+1) ah (l ++ [x])) []:=by
 have hlx:=Yw x
 have hl1:Low (Xp ah):=(Xf _).2 trivial
 have hlow:=Zt
 have hone:=X5u [x]
 have r1:X0 (rG x.seq ah l) [] = [1000002,1000003]:=rfl
 refine Vd X6 Tryz.func77 rfl K_ (by simp [pfrm,PV.ownB]) N_ (by rw [r1];decide) (by rw [r1];decide) ⟨by rw [r1];exact X9 ((Kv x).2 trivial).lowI (X9 (.ptr _ _ D_) (X9 (.ptr _ _ D_) Y2)),X7x _ _ _,Vw, .val _,X7x _ _ _,Vw,by simp [rG],S_⟩ ?_ (Xcy _ _ hl) rfl
 obtain ⟨fs,fq,fb⟩:=x
 simp only at hx ⊢
 have h0:(fq == fq)=true:=S_
 refine wk ?_
 exact RetH.mk rfl (Weak.refl _) ⟨⟨_,rfl,X7.refl _⟩,⟨_,rfl,X7.eq (by rw [Xt8];rfl)⟩,trivial⟩ trivial
theorem Xt2 (x:PFrm) (nx:Int) (ah l:List PFrm) (hl:l ≠ []) (hx:nx < x.seq) :
  Xe Tryz.prog 77 [pfrm x, .ptr 1000002 0, .ptr 1000003 0] (rG nx ah l) [] (Y1 false) (rG nx ah l) []:=by
 have hlx:=Yw x
 have hl1:Low (Xp ah):=(Xf _).2 trivial
 have hlow:=Zt
 have r1:X0 (rG nx ah l) [] = [1000002,1000003]:=rfl
 refine Vd X6 Tryz.func77 rfl K_ (by simp [pfrm,PV.ownB]) N_ (by rw [r1];decide) (by rw [r1];decide) ⟨by rw [r1];exact X9 ((Kv x).2 trivial).lowI (X9 (.ptr _ _ D_) (X9 (.ptr _ _ D_) Y2)),X7x _ _ _,Vw, .val _,X7x _ _ _,Vw,by simp [rG],S_⟩ ?_ (Xcy _ _ hl) rfl
 obtain ⟨fs,fq,fb⟩:=x
 simp only at hx ⊢
 have h0:(fq == nx)=false:=by simp;omega
 refine wk ?_
 exact RetH.mk rfl (Weak.refl _) aw0 trivial
def rD (cs:List PFrm) (nx:Int) (ah l:List PFrm):List (Nat×List PV):=(1000001,cs.flatMap Yj) :: rG nx ah l
theorem X9w (cs:List PFrm) (nx:Int) (ah l:List PFrm) {S:Nat→Prop} : ∀x∈rD cs nx ah l,∀c∈x.2,LowI S c:=
 Yt (X1h (Ks _)) (X7x nx ah l)
theorem Xgq (cs:List PFrm) (nx:Int) (ah:List PFrm) {l:List PFrm} (h:l ≠ []):∀x∈rD cs nx ah l,∀c∈x.2,X6h c:=by
 intro x hx
 rcases List.mem_cons.1 hx with rfl|hx
 ·intro c hc
  obtain ⟨y,-,hc⟩:=List.mem_flatMap.1 hc
  simp only [Yj,List.mem_cons,List.not_mem_nil,or_false] at hc
  rcases hc with rfl|rfl|rfl<;>exact X4b rfl
 ·exact Xcy nx ah h x hx
def fnD:PV:=.fn 77 [.ptr 1000002 0, .ptr 1000003 0]
theorem X95 {S:Nat→Prop} (h2:S 1000002) (h3:S 1000003):LowI S fnD:=.fn _ _ (X9 (.ptr _ _ h2) (X9 (.ptr _ _ h3) Y2))
theorem Xjr {S:Nat→Prop} (h2:S 1000002) (h3:S 1000003):RenQ (fun i=>i) S fnD fnD:=.inl (Xjg (RenL.cons (.ptr _ _ h2) (RenL.cons (.ptr _ _ h3) RenL.nil)))
theorem Y4p (cs:List PFrm) (n:Nat) (hn:cs.length=n) (nx:Int) (ah l:List PFrm) (hl:l ≠ []) (h64:n≤1000) (hx:∀x,x < n→nx < (cs.getD x default).seq) :
  Xe Tryz.prog 89 [.msl 1000001 0 n 3,fnD] (rD cs nx ah l) [] (pint (-1)) (rD cs nx ah l) []:=by
 have hl1:Low (Xp ah):=(Xf _).2 trivial
 have hlow:=Zt
 have hlc:=Ks cs
 have r1:X0 (rD cs nx ah l) [] = [1000001,1000002,1000003]:=rfl
 refine Vd X6 Tryz.func89 rfl K_ (by simp [fnD,PV.ownB]) N_ (by rw [r1];decide) (by rw [r1];decide) ⟨by rw [r1];exact X9 (.msl _ _ _ _ D_) (X9 (X95 D_ D_) Y2),X9w _ _ _ _,Vw, .val _,X9w _ _ _ _,Vw,by simp [rD,rG],S_⟩ ?_ (Xgq _ _ _ hl) rfl
 have fl:=K3 cs
 have lfn:Low (pint n):=.val _
 refine wk ?_
 refine PW.loop (fun k:Nat=>((((((bot.setb 1000001 (cs.flatMap Yj)).setb 1000002 [pint nx,Xp ah]).setb 1000003 [ownO l]).put 0 (.msl 1000001 0 n 3)).put 1 fnD).put 7 (pint n)).put 8 (pint k)) (fun k=>k≤n) (fun k=>n - k) 0 O_ ?_ ?_
 ·(refine Sub.same ?_;(repeat (first|exact SubR.bot|((with_reducible refine SubR.isp ?_);refine SubR.put ?_ (by first|exact Xjr rfl rfl|exact rq0))|((with_reducible refine SubR.isb ?_);refine SubR.setb ?_ rfl rfl (by exact rl0)))))
 ·intro k hk
  by_cases hlt:k < n
  ·have hxk:=hx k hlt
   have hdl:=Xt2 (cs.getD k default) nx ah l hl hxk
   clear hx
   refine wk ?_
   refine Y4 (k+1) O_ O_ ?_
   (refine Sub.same ?_;(repeat (first|exact SubR.bot|((with_reducible refine SubR.isp ?_);refine SubR.put ?_ (by first|exact Xjr rfl rfl|exact rq0))|((with_reducible refine SubR.isb ?_);refine SubR.setb ?_ rfl rfl (by exact rl0)))))
  ·obtain rfl:k=n:=O_
   clear hx
   refine wk ?_
   exact RetH.mk rfl (Weak.refl _) aw0 trivial
theorem Y1x (cs:List PFrm) (n:Nat) (hn:cs.length=n) (h0:0 < n) (nx:Int) (hnx:(cs.getD 0 default).seq=nx) (hb:0≤nx∧nx≤1099511627776) (ah l:List PFrm) (hl:l ≠ []) (hll:l.length≤1000) (h64:n≤1000) :
  Xe Tryz.prog 89 [.msl 1000001 0 n 3,fnD] (rD cs nx ah l) [] (pint 0) (rD cs (nx+1) ah (l ++ [cs.getD 0 default])) []:=by
 subst hnx
 have hl1:Low (Xp ah):=(Xf _).2 trivial
 have hlow:=Zt
 have hlc:=Ks cs
 have r1:X0 (rD cs (cs.getD 0 default).seq ah l) [] = [1000001,1000002,1000003]:=rfl
 refine Vd X6 Tryz.func89 rfl K_ (by simp [fnD,PV.ownB]) N_ (by rw [r1];decide) (by rw [r1];decide) ⟨by rw [r1];exact X9 (.msl _ _ _ _ D_) (X9 (X95 D_ D_) Y2),X9w _ _ _ _,Vw, .val _,X9w _ _ _ _,Vw,by simp [rD,rG],S_⟩ ?_ (Xgq _ _ _ hl) rfl
 have fl:=K3 cs
 have hdl:=Xrh (cs.getD 0 default) ah l hl hll hb
 refine wk ?_
 refine PW.unroll ?_
 refine wk ?_
 exact RetH.mk rfl (Weak.refl _) aw0 trivial
def shF (cs:List PFrm) (m j:Nat):List PFrm:=(cs.drop m).take (j - m) ++ cs.drop (j - m)
theorem Xvj (cs:List PFrm) {m j:Nat} (h1:m≤cs.length) (h2:j≤cs.length):(shF cs m j).length=cs.length:=by
 unfold shF;simp only [A_,T_,L_];omega
theorem Xno (cs:List PFrm) {m j:Nat} (h:j≤m):shF cs m j=cs:=by
 unfold shF;rw [show j - m=0 by omega];rfl
theorem Xrz (cs:List PFrm) {m j:Nat} (h1:m≤cs.length) (h2:j < cs.length):(shF cs m j).getD j default=cs.getD j default:=by
 unfold shF
 rw [G_,List.getElem?_append_right (by simp only [T_,L_];omega),List.getElem?_drop,G_]
 simp only [T_,L_]
 rw [show j - m+(j - min (j - m) (cs.length - m))=j by omega]
theorem Y4v (cs:List PFrm) {m j:Nat} (h0:m≤j) (h1:0 < m) (h2:j < cs.length):(shF cs m j).set (j - m) (cs.getD j default)=shF cs m (j+1):=by
 have ht:((cs.drop m).take (j - m)).length=j - m:=by simp only [T_,L_];omega
 have hj:cs[j]? = some (cs.getD j default):=by rw [G_,E_ h2];rfl
 unfold shF
 rw [List.set_append_right _ _ O_,ht,Nat.sub_self,List.drop_eq_getElem_cons (show j - m < cs.length by omega),List.set_cons_zero,show j+1 - m=(j - m)+1 by omega,List.take_add_one,List.getElem?_drop,show m+(j - m)=j by omega,hj]
 simp
theorem Y8k (cs:List PFrm) (n:Nat) (hn:cs.length=n) (nx:Int) (ah l:List PFrm) (hl:l ≠ []) (h64:n≤1000) (hx:∀x,x < n→nx < (cs.getD x default).seq) :
  Xe Tryz.prog 76 [.msl 1000001 0 n 3,fnD] (rD cs nx ah l) [] (.msl 1000001 0 n 3) (rD cs nx ah l) []:=by
 have hl1:Low (Xp ah):=(Xf _).2 trivial
 have hlow:=Zt
 have hlc:=Ks cs
 have r1:X0 (rD cs nx ah l) [] = [1000001,1000002,1000003]:=rfl
 have ki:=Y4p cs n hn nx ah l hl h64 hx
 clear hx
 refine Vd X6 Tryz.func76 rfl K_ (by simp [fnD,PV.ownB]) N_ (by rw [r1];decide) (by rw [r1];decide) ⟨by rw [r1];exact X9 (.msl _ _ _ _ D_) (X9 (X95 D_ D_) Y2),X9w _ _ _ _,Vw,by rw [r1];exact .msl _ _ _ _ D_,X9w _ _ _ _,Vw,by simp [rD,rG],S_⟩ ?_ (Xgq _ _ _ hl) rfl
 refine wk ?_
 exact RetH.mk rfl (Weak.refl _) aw0 trivial
theorem Xtj (m:Nat):(List.replicate m (Yj default)).flatten=(List.replicate m (default:PFrm)).flatMap Yj:=by
 induction m with
 |zero=>rfl
 |succ m ih=>rw [List.replicate_succ,List.replicate_succ,List.flatten_cons,List.flatMap_cons,ih]
theorem Y77 (cs:List PFrm) {m:Nat} (h:m≤cs.length):Y5 ((shF cs m cs.length).flatMap Yj) (0+(cs.length - m) * 3) (List.replicate (cs.length - (cs.length - m)) (Yj default)).flatten=(cs.drop m ++ List.replicate m default).flatMap Yj:=by
 have h1:(cs.drop m).length=cs.length - m:=L_
 have h2:((cs.drop m).flatMap Yj).length=(cs.length - m) * 3:=by rw [K3,h1]
 have h3:((List.replicate m (default:PFrm)).flatMap Yj).length=m * 3:=by rw [K3,List.length_replicate]
 have h4:((cs.drop (cs.length - m)).flatMap Yj).length=m * 3:=by rw [K3,L_];congr 1;omega
 rw [show cs.length - (cs.length - m)=m by omega,Xtj,shF,H_ O_,List.flatMap_append,List.flatMap_append,Nat.zero_add]
 unfold Y5
 have h5:(List.drop ((cs.length - m) * 3+(List.flatMap Yj (List.replicate m default)).length) (List.flatMap Yj (cs.drop m) ++ List.flatMap Yj (cs.drop (cs.length - m)))) = []:=List.drop_of_length_le (by rw [A_,h2,h3,h4];omega)
 rw [List.take_left' h2,h5,List.append_nil]
theorem X68 (cs:List PFrm) {j:Nat} (h:j < cs.length):cs.take (j+1)=cs.take j ++ [cs.getD j default]:=by
 rw [List.take_add_one,G_,E_ h];rfl
theorem Y75 (cs:List PFrm) (n m:Nat) (hn:cs.length=n) (hm0:0 < m) (hm:m≤n) (nx:Int) (hb:0≤nx∧nx+n≤1099511627776) (ah l:List PFrm) (hl:l ≠ []) (h64:n≤500) (hll:l.length≤500) (h1:∀x,x < m→(cs.getD x default).seq=nx+x) (h2:∀x,m≤x→x < n→nx+m < (cs.getD x default).seq) :
  Xe Tryz.prog 76 [.msl 1000001 0 n 3,fnD] (rD cs nx ah l) [] (.msl 1000001 0 (n - m) 3) (rD (cs.drop m ++ List.replicate m default) (nx+m) ah (l ++ cs.take m)) []:=by
 have hl1:Low (Xp ah):=(Xf _).2 trivial
 have hlow:=Zt
 have hlc:=Ks
 have r1:X0 (rD cs nx ah l) [] = [1000001,1000002,1000003]:=rfl
 have ki:=Y1x cs n hn O_ nx (by have:=h1 0 hm0;simpa using this) O_ ah l hl O_ O_
 refine Vd X6 Tryz.func76 rfl K_ (by simp [fnD,PV.ownB]) N_ (by rw [r1];decide) (by rw [r1];decide) ⟨by rw [r1];exact X9 (.msl _ _ _ _ D_) (X9 (X95 D_ D_) Y2),X9w _ _ _ _,Vw,(show LowI (fun i=>i ∈ [1000001,1000002,1000003]) _ from .msl _ _ _ _ D_),X9w _ _ _ _,Vw,by simp [rD,rG],by simp [rD,rG]⟩ ?_ (Xgq _ _ _ hl) rfl
 have fl:=fun j (hj:j≤n)=>(K3 (shF cs m j)).trans (congrArg (· * 3) ((Xvj cs (m:=m) (j:=j) O_ O_).trans hn))
 have hq:=fun _:Unit=>And.intro h1 h2
 clear h1 h2
 have e0:cs.take 1 = [cs.getD 0 default]:=by
  cases cs with
  |nil=>simp at hn;omega
  |cons a l=>simp
 refine wk ?_
 refine PW.loop (fun j:Nat=>(((((((bot.setb 1000001 ((shF cs m j).flatMap Yj)).setb 1000002 [pint (nx+(min j m:Nat)),Xp ah]).setb 1000003 [ownO (l ++ cs.take (min j m))]).put 0 (.msl 1000001 0 n 3)).put 1 fnD).put 5 (pint (j - m:Nat))).put 6 (pint j))) (fun j=>1≤j∧j≤n) (fun j=>n - j) 1 ⟨Nat.le_refl _,O_⟩ ?_ ?_
 ·simp only [Xno cs (show 1≤m from hm0),show min 1 m=1 by omega,e0,show 1 - m=0 by omega,show nx+((1:Nat):Int)=nx+1 from rfl]
  have hlc1:=hlc cs
  (refine Sub.same ?_;(repeat (first|exact SubR.bot|((with_reducible refine SubR.isp ?_);refine SubR.put ?_ (by first|exact Xjr rfl rfl|exact rq0))|((with_reducible refine SubR.isb ?_);refine SubR.setb ?_ rfl rfl (by exact rl0)))))
 ·rintro j ⟨hj1,hjn⟩
  have flj:=fl j hjn
  by_cases hlt:j < n
  ·by_cases hjm:j < m
   ·have hs:=(hq ()).1 j hjm
    have hdl:=Xrh (cs.getD j default) ah (l ++ cs.take j) (by simp [hl]) (by simp;omega) O_
    rw [hs] at hdl
    rw [Xno cs (Nat.le_of_lt hjm)] at flj
    simp only [Xno cs (Nat.le_of_lt hjm),show min j m=j by omega,show j - m=0 by omega]
    clear hq fl
    refine wk ?_
    refine Y4 (j+1) ⟨O_,O_⟩ O_ ?_
    simp only [Xno cs (show j+1≤m from hjm),show min (j+1) m=j+1 by omega,show j+1 - m=0 by omega,X68 cs (show j < cs.length by omega),show nx+((j+1:Nat):Int)=nx+j+1 by omega,←List.append_assoc]
    have hlc1:=hlc cs
    (refine Sub.same ?_;(repeat (first|exact SubR.bot|((with_reducible refine SubR.isp ?_);refine SubR.put ?_ (by first|exact Xjr rfl rfl|exact rq0))|((with_reducible refine SubR.isb ?_);refine SubR.setb ?_ rfl rfl (by exact rl0)))))
   ·have hs:=(hq ()).2 j O_ hlt
    have hdl:=Xt2 ((shF cs m j).getD j default) (nx+m) ah (l ++ cs.take m) (by simp [hl]) (by rw [Xrz cs O_ O_];exact hs)
    simp only [show min j m=m by omega]
    have hsl:(shF cs m j).length=n:=(Xvj cs O_ O_).trans hn
    have hst:=Y4v cs (show m≤j by omega) hm0 (show j < cs.length by omega)
    have hgt:=Xrz cs (show m≤cs.length by omega) (show j < cs.length by omega)
    rw [←hgt] at hst
    clear hq fl hgt
    generalize shF cs m j=c2 at *
    refine wk ?_
    refine X5.stBR (f:=Yj) (l:=c2) (v:=c2.getD j default) (j:=j - m) (k:=3) rfl rfl rfl rfl rfl rfl rfl rfl rfl (fun _=>rfl) O_ rfl ?_
    rw [hst]
    refine wk ?_
    refine Y4 (j+1) ⟨O_,O_⟩ O_ ?_
    simp only [show min (j+1) m=m by omega,show (((j+1 - m:Nat)):Int)=((j - m:Nat):Int)+1 by omega]
    have hlc1:=hlc (shF cs m (j+1))
    (refine Sub.same ?_;(repeat (first|exact SubR.bot|((with_reducible refine SubR.isp ?_);refine SubR.put ?_ (by first|exact Xjr rfl rfl|exact rq0))|((with_reducible refine SubR.isb ?_);refine SubR.setb ?_ rfl rfl (by exact rl0)))))
  ·obtain rfl:j=n:=O_
   simp only [show min j m=m by omega]
   clear hq fl
   have hce:=Y77 cs (m:=m) O_
   have flj2:((shF cs m cs.length).flatMap Yj).length=j * 3:=by rw [hn];exact flj
   generalize hc2:(shF cs m cs.length).flatMap Yj=c2 at *
   rw [hn] at hc2 hce
   rw [hc2]
   refine wk ?_
   refine X5.slcMs (h:=j) (l:=j - m) rfl rfl rfl rfl rfl rfl rfl rfl (Xel O_) ?_
   refine X5.clrM (zr:=Yj default) (out:=(cs.drop m ++ List.replicate m default).flatMap Yj) X6 rfl (fun _ _=>rfl) rfl rfl rfl rfl rfl rfl O_ hce ?_
   refine wk ?_
   refine X5.slcMs (h:=j - m) (l:=0) rfl rfl rfl rfl rfl rfl rfl (Xel O_) rfl ?_
   refine wk ?_
   exact RetH.mk rfl (Weak.refl _) aw0 trivial
end
end Go.Proofs.YtmciloafahkolaaGreatDoor
