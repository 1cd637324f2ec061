/- Out of: He, Jf, Jl, Lo, Jm, Kd, Lb, Na. -/
import Derived.Test.YtmciloafahkolaaGreatDoorG8
import Derived.Test.YtmciloafahkolaaGreatDoorG9
namespace Go.Proofs.YtmciloafahkolaaGreatDoor
set_option maxRecDepth 100000
set_option maxHeartbeats 40000000
set_option linter.unusedSimpArgs false
set_option linter.unusedVariables false
set_option linter.unnecessarySimpa false
section
open Go.RowKit
def X8b:Strm:=⟨⟨1779033703,3144134277,1013904242,2773480762,1359893119,2600822924,528734635,1541459225⟩,List.replicate 64 0,0⟩
theorem Xzp:Xs Tryz.prog 120 [] (· = .agg (pS X8b)):=by
 refine Xd X6 Tryz.func120 rfl K_ S_ S_ N_ ?_
 refine wk ?_
 exact ⟨_,Vb (Yq rfl rfl rfl rfl rfl), .agg _ (X2m X8b),rfl⟩
theorem Xzx (s:ByteArray) (hl:s.size≤1000000000):Xs Tryz.prog 122 [pstr s] (· = Y1l (strB s)):=
 Xda K_ fun Φ μ w v himm hr=>by
  obtain ⟨rfl,-⟩:=hr.val_inv
  exact (Xvt s w hl).mono (by
  rintro e w' ⟨u,rfl,ho,hb⟩
  exact Xmn himm (fun _=>rfl) ho hb)
def X06 (ks:List Int):Strm→List ByteArray→Strm
 |s,[]=>s
 |s,p :: l=>X06 ks (addS ks s (strB p)) l
def ofS (ks:List Int) (tag:Int) (l:List ByteArray):List Int:=(sumS ks (X06 ks (addS ks X8b [IntKind.u8.wrap tag]) l)).take 16
theorem Y0c (ks:List Int):∀(n:Nat) (s:Strm) (bs:List Int),bs.length=n→(addS ks s bs).n=s.n+bs.length:=by
 intro n
 induction n using Nat.strongRecOn with
 |_ n ih=>
  intro s bs hl
  by_cases h0:bs = []
  ·subst h0;rw [Xfy];rfl
  ·have h1:bs.length≠0:=fun e=>h0 (List.eq_nil_of_length_eq_zero e)
   have h2:=Nat.mod_lt s.n (show 0 < 64 by omega)
   rw [X8i ks s h0,ih _ (by rw [←hl,L_];omega) _ _ rfl,Y6o,T_,L_]
   omega
theorem Xd5 (ks:List Int):∀(l:List ByteArray) (s:Strm) (p:ByteArray),X06 ks s (l ++ [p])=addS ks (X06 ks s l) (strB p)
 | [],s,p=>rfl
 |q :: l,s,p=>by rw [List.cons_append,X06,X06,Xd5 ks l]
theorem Xrp (ks:List Int) (s:Strm) (hs:s.blk.length=64) (l:List ByteArray) (hl:X1q l):(X06 ks s l).blk.length=64∧(X06 ks s l).n≤s.n+l.length * 1000010:=by
 induction l generalizing s with
 |nil=>exact ⟨hs,by simp [X06]⟩
 |cons p l ih=>
  have h1:=ih (addS ks s (strB p)) (Xak ks _ s (strB p) rfl hs) (fun x hx=>hl x (List.mem_cons_of_mem _ hx))
  have h2:=(Xas p (hl p (List.mem_cons_self ..))).2
  have h3:=Y0c ks _ s (strB p) rfl
  refine ⟨h1.1,?_⟩
  have h4:=h1.2
  rw [X06,C_]
  omega
theorem Xyn (n:Nat):∀z,z < n→∀c∈leb z,0≤c∧c < 256:=by
 induction n with
 |zero=>intro z h;omega
 |succ n ih=>
  intro z hz c hc
  by_cases h:z < 128
  ·rw [X3t z h] at hc;simp at hc;subst hc;omega
  ·rw [Xc0 z O_] at hc
   rcases List.mem_cons.1 hc with rfl|hc
   ·omega
   ·exact ih (z / 128) O_ c hc
theorem Xqt (n:Int):∀c∈intB n,0≤c∧c < 256:=Xyn _ _ (Nat.lt_succ_self _)
theorem Xsm (p:ByteArray) (h:p.size≤1000000):∀c∈strB p,0≤c∧c < 256:=by
 intro c hc
 rcases List.mem_append.1 hc with h|h
 ·exact Xqt _ c h
 ·exact Xdj p c h
theorem Yac (tag:Int) (l:List ByteArray) (hl:l.length≤1000000) (hs:X1q l):Xs Tryz.prog 106 [pint tag,Xr l] (· = .agg ((ofS Yy tag l).map Xh)):=by
 refine Xd X6 Tryz.func106 rfl K_ (by exact lw) (by simp [pint,Xr,PV.ownB]) N_ ?_
 have hb:=Xzp
 have ha:=Xvc X8b [IntKind.u8.wrap tag] rfl (by intro c hc;simp at hc;subst hc;rw [IntKind.wrap_u8];omega) (by simp [X8b])
 have h0l:=Xak Yy _ X8b [IntKind.u8.wrap tag] rfl rfl
 have h0n:=Y0c Yy _ X8b [IntKind.u8.wrap tag] rfl
 rw [show ofS Yy tag l=(sumS Yy (X06 Yy (addS Yy X8b [IntKind.u8.wrap tag]) l)).take 16 from rfl]
 obtain ⟨s0,hs0⟩:∃s0,s0=addS Yy X8b [IntKind.u8.wrap tag]:=⟨_,rfl⟩
 rw [←hs0] at ha h0l h0n ⊢
 have h0n' : s0.n=1:=h0n
 have l0:=X2m s0
 have hok:=fun i=>Xrp Yy s0 h0l (l.take i) (fun x hx=>hs x (List.mem_of_mem_take hx))
 refine wk ?_
 refine X5.stAll rfl rfl rfl rfl rfl rfl rfl rfl rfl (X1p h0l) rfl (Xex s0) (X29 s0) ?_
 refine wk ?_
 refine PW.loop (fun i:Nat=>(((((((bot.setb 0 (List.replicate 16 (Xh 0))).put 4 (.ptr 0 0)).setb 1006 (pS (X06 Yy s0 (l.take i)))).put 5 (.ptr 1006 0)).put 15 (Xr l)).put 16 (pint l.length)).put 17 (pint i))) (fun i=>i≤l.length) (fun i=>l.length - i) 0 O_ ?_ ?_
 ·exact sb
 ·intro i hi
  have hoi:=hok i
  have hti:(l.take i).length=i:=by rw [T_];omega
  rw [hti] at hoi
  have li:=X2m (X06 Yy s0 (l.take i))
  by_cases hlt:i < l.length
  ·have hsm:(l.getD i default).size≤1000000:=hs _ (by rw [G_,E_ hlt];exact List.getElem_mem hlt)
   have hpl:=(Xas (l.getD i default) hsm).2
   have hw:=Xzx (l.getD i default) O_
   have hadd:=Xvc (X06 Yy s0 (l.take i)) (strB (l.getD i default)) hoi.1 (Xsm _ hsm) (by have:=hoi.2;omega)
   have hnx:X06 Yy s0 (l.take (i+1))=addS Yy (X06 Yy s0 (l.take i)) (strB (l.getD i default)):=by rw [Vj default hlt,Xd5]
   have hal:=Xak Yy _ _ (strB (l.getD i default)) rfl hoi.1
   rw [←hnx] at hadd hal
   have li2:=X2m (X06 Yy s0 (l.take (i+1)))
   refine wk ?_
   refine X5.ldAll rfl rfl rfl rfl rfl rfl rfl (X1p hoi.1) (X29 _) ?_
   refine wk ?_
   refine X5.stAll rfl rfl rfl rfl rfl rfl rfl rfl rfl (X1p hal) (X1p hoi.1) (Xex _) (X29 _) ?_
   refine wk ?_
   refine Y4 (i+1) O_ O_ ?_
   exact sb
  ·have e:i=l.length:=O_
   subst e
   rw [List.take_length] at hoi li ⊢
   have hsum:=Y87 (X06 Yy s0 l) hoi.1 (by have:=hoi.2;omega)
   have hsl:(sumS Yy (X06 Yy s0 l)).length=32:=X84 _ _
   clear hok ha hs0 hb h0n hi
   generalize X06 Yy s0 l=u at *
   generalize sumS Yy u=D at *
   refine wk ?_
   refine X5.ldAll rfl rfl rfl rfl rfl rfl rfl (X1p hoi.1) (X29 _) ?_
   refine wk ?_
   refine X5.ldBA (row:=(D.take 16).map Xh) rfl rfl rfl rfl rfl rfl rfl (by rw [List.length_map,hsl];decide) (by show List.map PV.bare (List.take 16 (List.drop 0 (List.map Xh D)))=_;rw [List.drop_zero,←List.map_take,Yx (fun _=>rfl)]) ?_
   have htl:(D.take 16).length=16:=by rw [T_,hsl];rfl
   refine X5.stAll rfl rfl rfl rfl rfl rfl rfl rfl rfl (Yd htl) rfl (X8x (fun _=>rfl) _) (Yx (fun _=>rfl) _) ?_
   refine wk ?_
   exact ⟨_,Vb (Yq rfl rfl rfl (Yd htl) (Yx (fun _=>rfl) _)), .agg _ (Kx (fun _=>Low.val _) _),rfl⟩
def numL (z:Int):List Int := [IntKind.u8.wrap z,IntKind.u8.wrap (z.fdiv (2 ^ min (Int.toNat 8) IntKind.i64.bits)),IntKind.u8.wrap (z.fdiv (2 ^ min (Int.toNat 16) IntKind.i64.bits)),IntKind.u8.wrap (z.fdiv (2 ^ min (Int.toNat 24) IntKind.i64.bits))]
def Xpj (p:PPut):List ByteArray := [Zl (numL p.sec),Zl p.dat.1]
def Zr (l:List PPut):List ByteArray:=l.flatMap Xpj
theorem X96:∀(l:List PPut),(Zr l).length=l.length * 2
 | []=>rfl
 |p :: l=>by
  show (Xpj p ++ Zr l).length=_
  rw [A_,X96 l,C_]
  show 2+_=_
  omega
theorem Xkj (l:List PPut) (p:PPut):Zr (l ++ [p])=Zr l ++ Xpj p:=by
 rw [Zr,List.flatMap_append]
 show _ ++ (Xpj p ++ [])=_
 rw [List.append_nil];rfl
theorem Xhn (l:List PPut):X1q (Zr l):=by
 intro s hs
 obtain ⟨p,-,hp⟩:=List.mem_flatMap.1 hs
 simp only [Xpj,List.mem_cons,List.not_mem_nil,or_false] at hp
 rcases hp with rfl|rfl
 ·rw [X0a];simp [numL]
 ·rw [X0a,p.dat.2.1];omega
def outD (l:List PPut):Nat→PV
 |0=>.nilsl
 |k+1=>.sl (k * 2+2) 1 ((Zr (l.take (k+1))).map pstr) (some 9)
theorem Xy2 (l:List PPut):∀k,Low (outD l k)
 |0=>.nilsl
 |k+1=>Xnj
theorem Xw2 (l:List PPut) (h:0 < l.length):outD l l.length = .sl (l.length * 2) 1 ((Zr l).map pstr) (some 9):=by
 cases l with
 |nil=>simp at h
 |cons p l=>
  show outD (p :: l) (l.length+1)=_
  rw [outD,H_ S_,C_,Nat.add_mul]
theorem Y3o (p:PPut):(((putL p).drop 1).take 64).map PV.bare=p.dat.1.map Xh:=by
 show List.map PV.bare (List.take 64 (secL p.dat))=_
 rw [H_ (by rw [Xl];exact Nat.le_refl _),Xt];rfl
theorem Xck (l:List PPut) (hl:l.length≤100000) (hl0:0 < l.length):Xs Tryz.prog 95 [Yo l] (· = .agg ((ofS Yy 240 (Zr l)).map Xh)):=by
 refine Xd X6 Tryz.func95 rfl K_ (by simp [Kw]) (by simp [Yo,PV.ownB]) N_ ?_
 have hlw:=Xy2 l
 have hll:=Kw l
 have hof:=Yac 240 (Zr l) (by rw [X96];omega) (Xhn l)
 rw [show Xr (Zr l) = .sl (l.length * 2) 1 ((Zr l).map pstr) none by rw [Xr,X96]] at hof
 have hlo:(ofS Yy 240 (Zr l)).length=16:=by rw [ofS,T_,sumS,X84];rfl
 obtain ⟨O,hO⟩:∃O,O=ofS Yy 240 (Zr l):=⟨_,rfl⟩
 rw [←hO] at hof hlo ⊢
 clear hO
 refine wk ?_
 refine PW.loop (fun k:Nat=>((((bot.put 2 (.ptr 0 0)).setb 0 (List.replicate 16 (Xh 0))).put 3 (outD l k)).put 7 (Yo l)).put 8 (pint l.length) |>.put 9 (pint k)) (fun k=>k≤l.length) (fun k=>l.length - k) 0 O_ ?_ ?_
 ·have h1:=hlw 0
  exact sb
 ·intro k hk
  by_cases hlt:k < l.length
  ·have hnx:Zr (l.take (k+1))=Zr (l.take k) ++ Xpj (l.getD k default):=by rw [Vj default hlt,Xkj]
   have h1:=hlw (k+1)
   have ho:outD l (k+1) = .sl (k * 2+2) 1 ((Zr (l.take k)).map pstr ++ [pstr (Zl (numL (l.getD k default).sec)),pstr (Zl (l.getD k default).dat.1)]) (some 9):=by rw [outD,hnx,List.map_append];rfl
   rw [ho] at h1
   have hplen:=Yi (l.getD k default)
   have hpdat:=Y3o (l.getD k default)
   clear hlw hnx hof
   cases k with
   |zero=>
    refine wk ?_
    refine X5.strM (l:=numL (l.getD 0 default).sec) (s:=Zl (numL (l.getD 0 default).sec)) rfl rfl rfl rfl rfl rfl rfl rfl rfl rfl rfl rfl rfl N_ rfl rfl ?_
    refine wk ?_
    refine X5.strM (l:=(l.getD 0 default).dat.1) (s:=Zl (l.getD 0 default).dat.1) rfl rfl rfl rfl rfl rfl rfl rfl rfl rfl rfl rfl rfl (by rw [hplen];decide) hpdat rfl ?_
    refine wk ?_
    refine Y4 (0+1) O_ O_ ?_
    try dsimp only
    rw [ho]
    exact sb
   |succ k=>
    refine wk ?_
    refine X5.strM (l:=numL (l.getD (k+1) default).sec) (s:=Zl (numL (l.getD (k+1) default).sec)) rfl rfl rfl rfl rfl rfl rfl rfl rfl rfl rfl rfl rfl N_ rfl rfl ?_
    refine wk ?_
    refine X5.strM (l:=(l.getD (k+1) default).dat.1) (s:=Zl (l.getD (k+1) default).dat.1) rfl rfl rfl rfl rfl rfl rfl rfl rfl rfl rfl rfl rfl (by rw [hplen];decide) hpdat rfl ?_
    refine wk ?_
    refine Y4 (k+1+1) O_ O_ ?_
    try dsimp only
    have e2:(k+1) * 2+2=k * 2+2+2:=O_
    rw [ho,e2]
    rw [e2] at h1
    exact sb
  ·have e:k=l.length:=O_
   subst e
   rw [Xw2 l hl0]
   refine wk ?_
   exact ⟨_,Vb (Yq rfl rfl rfl (Yd hlo) (Yx (f:=Xh) (fun _=>rfl) _)), .agg _ (Kx (fun _=>Low.val _) _),rfl⟩
theorem Xhr (s:H8):∀i,∀c∈outW s i,0≤c∧c < 256
 |0,c,h=>by rw [outW] at h;rw [(List.mem_replicate.1 h).2];omega
 |i+1,c,h=>by
  rw [outW] at h
  rcases List.mem_or_eq_of_mem_set h with h|rfl
  ·exact Xhr s i c h
  ·unfold outV;rw [IntKind.wrap_u8];omega
def digG (l:List PPut):List Int:=ofS Yy 240 (Zr l)
theorem Zu (l:List PPut):(digG l).length=16:=by rw [digG,ofS,T_,sumS,X84];rfl
theorem Xd4 (l:List PPut):∀x∈digG l,0≤x∧x < 256:=fun x hx=>Xhr _ _ x (List.mem_of_mem_take hx)
def Y6 (l:List PPut):Sec:=Xq l.length (digG l) (Zu l) (Xd4 l)
theorem OkD.four {N k:Nat} {D:DM} (h:OkD N k D) {at_:Int} (h0:0≤at_) (h1:at_ < N) (l:List PPut) (hi:InD N l) (hk:k+l.length+3≤100000000) (g:Sec):OkD N (k+l.length+3) (D.four at_ l g)∧(D.four at_ l g).steps=D.steps+l.length+3∧(D.four at_ l g).op = [] ∧
  ∀q:Int,0≤q→q < N→(D.four at_ l g).read q=if q=at_ then (g,0) else match Vh q l with|some s=>(s,0)|none=>D.read q:=by
 have hN:0 < N:=O_
 obtain ⟨p1,p2⟩:=OkD.puts l h hi O_
 obtain ⟨s1,s2,s3,s4⟩:=p1.sync_ok hN
 obtain ⟨w1,w2,w3⟩:=s2.write h0 h1 O_ g
 obtain ⟨t1,t2,t3,t4⟩:=w2.sync_ok hN
 refine ⟨t2,?_,t4,fun q q0 q1=>?_⟩
 ·rw [DM.four,t3,w3,s3,p2];omega
 ·rw [DM.four,w2.read_sync hN q0 q1,s2.read_write h0 h1 O_ g q0 q1,p1.read_sync hN q0 q1,OkD.read_puts l h hi O_ q0 q1]
  split
  ·rfl
  ·cases Vh q l<;>rfl
theorem X2c {N:Nat} {at_ most:Int} (l:List PPut) (h0:0≤at_) (m0:1≤most) (m1:most≤1024) (hN:at_+Yl most≤N) (hl:(l.length:Int)≤most):(K0 at_ most l).length=l.length+(Xg l.length).toNat∧∀p∈K0 at_ most l,at_ < p.sec∧p.sec < at_+Yl most:=by
 have hr:Yl most=1+Xg most+most:=by unfold Yl;rw [if_neg O_]
 have hnn:Xg l.length≤Xg most∧0≤Xg l.length:=by unfold Xg;omega
 refine ⟨?_,fun p hp=>?_⟩
 ·rw [K0,A_,X7z];simp only [X50,List.length_map,List.length_range,X0q]
 ·rcases List.mem_append.1 hp with h|h
  ·obtain ⟨i,hi,rfl⟩:=List.mem_map.1 h
   have:=List.mem_range.1 hi
   simp only
   omega
  ·obtain ⟨i,hi,rfl⟩:=List.mem_map.1 h
   have:=List.mem_range.1 hi
   rw [X0q] at this
   simp only
   omega
def badP (N at_ most:Int) (p:PPut):Bool:=decide (p.sec < 0∨N≤p.sec∨(at_≤p.sec∧p.sec < at_+Yl most))
def jApE (N at_ most:Int) (l:List PPut):Int:=if most < l.length then 2 else if l.any (badP N at_ most)=true then 1 else if (l.map PPut.sec).Nodup then 0 else 6
def DM.applied (D:DM) (at_ most:Int) (l:List PPut):DM:=(D.four at_ (K0 at_ most l) (Y6 l)).four at_ l Xj
def DM.apply (D:DM) (N at_ most:Int) (l:List PPut):DM:=if jApE N at_ most l=0∧0 < l.length then D.applied at_ most l else D
theorem Xmy {N at_ most:Int} {l:List PPut} (h:¬most < l.length) {i:Nat} (hi:i < l.length) (hb:badP N at_ most (l.getD i default)=true):jApE N at_ most l=1:=by
 rw [jApE,if_neg h,if_pos]
 rw [List.any_eq_true]
 refine ⟨l.getD i default,?_,hb⟩
 rw [G_,E_ hi];exact List.getElem_mem hi
theorem Xiq {N at_ most:Int} {l:List PPut} (h:¬most < l.length) (hb:∀i,i < l.length→badP N at_ most (l.getD i default)=false):jApE N at_ most l=if (l.map PPut.sec).Nodup then 0 else 6:=by
 rw [jApE,if_neg h,if_neg]
 intro e
 obtain ⟨p,hp,h2⟩:=List.any_eq_true.1 e
 obtain ⟨j,hj,rfl⟩:=List.getElem_of_mem hp
 have:=hb j hj
 rw [G_,E_ hj] at this
 rw [Option.getD_some,h2] at this;cases this
theorem Xuv {N:Nat} {at_ most:Int} {l:List PPut} (hb:∀i,i < l.length→badP N at_ most (l.getD i default)=false):InD N l:=by
 intro p hp
 obtain ⟨j,hj,rfl⟩:=List.getElem_of_mem hp
 have:=hb j hj
 rw [G_,E_ hj,Option.getD_some] at this
 simp only [badP,decide_eq_false_iff_not,not_or] at this
 omega
def mE (x:Nat×Int):Nat×PV×PV:=(x.1,pint x.2,Y1 true)
def metL (l:List PPut) (i:Nat):List (Nat×Int):=(List.range i).map fun j=>(j,(l.getD j default).sec)
theorem Xc1 (l:List PPut) (i:Nat):metL l (i+1)=metL l i ++ [(i,(l.getD i default).sec)]:=by simp [metL,List.range_succ]
theorem Xb9 (l:List PPut):∀i,i≤l.length→(metL l i).map (·.2)=(l.take i).map PPut.sec
 |0,_=>rfl
 |i+1,h=>by rw [Xc1,Vj default O_,List.map_append,List.map_append,Xb9 l i O_];rfl
theorem Xh9 (z:Int):∀(L:List (Nat×Int)) (n:Nat),(z∉L.map (·.2)∧X0h .int (.int .i64 z) (L.map mE) n=some none)∨(z∈L.map (·.2)∧∃j s,X0h .int (.int .i64 z) (L.map mE) n=some (some (n+j))∧(L.map mE)[j]? = some (s,pint z,Y1 true))
 | [],n=>.inl ⟨S_,rfl⟩
 |(s,k) :: L,n=>by
  by_cases h:z=k
  ·subst h
   refine .inr ⟨S_,0,s,?_,rfl⟩
   simp [mE,pint,X0h,veq]
  ·have e:(z == k)=false:=by simpa using h
   have h1:X0h .int (.int .i64 z) (((s,k) :: L).map mE) n=X0h .int (.int .i64 z) (L.map mE) (n+1):=by simp [mE,pint,X0h,veq,e]
   rw [h1]
   rcases Xh9 z L (n+1) with ⟨a,b⟩|⟨a,j,s',b,c⟩
   ·exact .inl ⟨by simp only [List.map_cons,List.mem_cons,not_or];exact ⟨h,a⟩,b⟩
   ·exact .inr ⟨by simp only [List.map_cons,List.mem_cons];exact .inr a,j+1,s',by rw [b];congr 2;omega,c⟩
theorem Xg4 (z:Int) (L:List (Nat×Int)) {ki ei:TyI} (hk:ki.kind = .int .i64) (he:Xja ei=some (Y1 false)):mget ki ei (L.map mE) (.int .i64 z)=some (Y1 (decide (z∈L.map (·.2))),decide (z∈L.map (·.2))):=by
 unfold mget
 simp only [hk,X6j,skT,decide_true,if_true]
 rcases Xh9 z L 0 with ⟨a,b⟩|⟨a,j,s,b,c⟩
 ·rw [b,decide_eq_false a];simp [he];rfl
 ·rw [Nat.zero_add] at b
  rw [b,decide_eq_true a];simp only [c];rfl
theorem Xvm (z:Int) (L:List (Nat×Int)) {ki:TyI} (hk:ki.kind = .int .i64) (hz:z∉L.map (·.2)) (cl:Nat):mput ki (L.map mE) cl (.int .i64 z) (Y1 true)=some (.map ((L ++ [(cl,z)]).map mE) (cl+1)):=by
 unfold mput
 simp only [hk,X6j,skT,decide_true,if_true]
 rcases Xh9 z L 0 with ⟨a,b⟩|⟨a,j,s,b,c⟩
 ·rw [b,List.map_append];rfl
 ·exact absurd a hz
theorem X94 (L:List (Nat×Int)):∀e∈L.map mE,Low e.2.1∧Low e.2.2:=by
 intro e he
 obtain ⟨x,-,rfl⟩:=List.mem_map.1 he
 exact ⟨.val _, .val _⟩
def wops (l:List PPut):List DOp:=l.map fun p=>.w p.sec p.dat
def Yg (at_:Int) (l:List PPut) (g:Sec):List DOp:=wops l ++ [.sync, .w at_ g, .sync]
def X5l (at_:Int):List DOp := [.w at_ Xj, .sync]
def K8 (at_ most:Int) (l:List PPut):List DOp:=Yg at_ (K0 at_ most l) (Y6 l) ++ Yg at_ l Xj
theorem Xbm {n:Nat} {l:List PPut} (h:InD n l):∀o∈wops l,o.inD n:=by
 intro o ho
 obtain ⟨p,hp,rfl⟩:=List.mem_map.1 ho
 exact h p hp
theorem Zw (l:List PPut):(wops l).length=l.length:=List.length_map ..
theorem V8 (at_:Int) (l:List PPut) (g:Sec):(Yg at_ l g).length=l.length+3:=by rw [Yg,A_,Zw];rfl
theorem Zv {n:Nat} {at_:Int} (h0:0≤at_) (h1:at_ < n) {l:List PPut} (h:InD n l) (g:Sec):∀o∈Yg at_ l g,o.inD n:=by
 intro o ho
 have hn:0 < n:=O_
 rcases List.mem_append.1 ho with ho|ho
 ·exact Xbm h o ho
 ·simp only [List.mem_cons,List.not_mem_nil,or_false] at ho
  rcases ho with rfl|rfl|rfl
  ·exact hn
  ·exact ⟨h0,h1⟩
  ·exact hn
theorem Xps (at_:Int) (l:List PPut) (g:Sec) (m:Nat):(Yg at_ l g).take m=wops (l.take m)∨(Yg at_ l g).take m=wops l ++ [.sync]∨(Yg at_ l g).take m=wops l ++ [.sync, .w at_ g]∨(Yg at_ l g).take m=Yg at_ l g:=by
 by_cases h:m≤l.length
 ·left
  rw [Yg,List.take_append_of_le_length (by rw [Zw];exact h),wops,wops,List.map_take]
 ·right
  have e:(Yg at_ l g).take m=wops l ++ ([.sync, .w at_ g, .sync]:List DOp).take (m - l.length):=by
   rw [Yg,List.take_append,Zw,H_ (by rw [Zw];omega)]
  obtain ⟨j,hj⟩:∃j,m - l.length=j+1:=⟨m - l.length - 1,O_⟩
  rw [e,hj]
  match j with
  |0=>exact .inl rfl
  |1=>exact .inr (.inl rfl)
  |j+2=>exact .inr (.inr (by rw [H_ S_];rfl))
theorem X7j {ρ:Nat→Nat} {S:Nat→Prop} {ps qs:List PV} (h:RenL ρ S ps qs):Ren ρ S (.tup ps) (.tup qs):=.tup _ _ h.1 h.2
def X6t (c d e f:Nat):PV:=.sl 2 1 [Xdo c d e,X6w f] none
theorem X97 {ρ:Nat→Nat} {S:Nat→Prop} {c d e f:Nat} (h3:S c) (h4:S d) (h5:S e) (h6:S f):Ren ρ S (X6t c d e f) (X6t (ρ c) (ρ d) (ρ e) (ρ f)):=by
 have k2:RenL ρ S [.ptr f 0] [.ptr (ρ f) 0]:=.cons (.ptr _ _ h6) .nil
 have k3:RenL ρ S [.ptr d 0, .ptr e 0, .ptr c 0] [.ptr (ρ d) 0, .ptr (ρ e) 0, .ptr (ρ c) 0]:=.cons (.ptr _ _ h4) (.cons (.ptr _ _ h5) (.cons (.ptr _ _ h3) .nil))
 have k:RenL ρ S [Xdo c d e,X6w f] [Xdo (ρ c) (ρ d) (ρ e),X6w (ρ f)]:=.cons (.fn _ _ _ k3.1 k3.2) (.cons (.fn _ _ _ k2.1 k2.2) .nil)
 exact .sl _ _ _ _ k.1 k.2
def Vx (D:DM) (at_:Int):Prop:=D.read at_=(Ye,221)∨((D.read at_).2=0∧(D.read at_).1.1.getD 0 0=0∧(D.read at_).1.1.getD 1 0=0)
theorem X1b (s:Sec) (j:Nat) (h:j < 64):(secL s)[j]? = some (Xh (s.1.getD j 0)):=by
 rw [secL,M_,G_,E_ (by rw [s.2.1];exact h)];rfl
def Vs (N at_ most:Int):Bool:=decide (1≤most∧most≤1024∧0≤at_∧at_+Yl most≤N)
theorem X52:∀(l:List PPut) (d:List Sec),InD d.length l→∀q:Nat,q < d.length→(doM d l).getD q default=match Vh q l with|some s=>s|none=>d.getD q default
 | [],d,_,q,_=>rfl
 |p :: l,d,h,q,hq=>by
  obtain ⟨p0,p1⟩:=h p (List.mem_cons_self ..)
  rw [doM,X52 l (d.set p.sec.toNat p.dat) (fun x hx=>by rw [List.length_set];exact h x (List.mem_cons_of_mem _ hx)) q (by rw [List.length_set];exact hq),Vh]
  cases Vh q l with
  |some s=>rfl
  |none=>
   simp only
   by_cases e:p.sec=q
   ·rw [if_pos e]
    simp only
    rw [G_,List.getElem?_set,if_pos O_,if_pos O_];rfl
   ·rw [if_neg e]
    simp only
    rw [G_,List.getElem?_set,if_neg O_,←G_]
theorem Zn {N at_ most:Int} {l:List PPut} (h:jApE N at_ most l=0):(l.length:Int)≤most∧(∀p∈l,0≤p.sec∧p.sec < N∧(p.sec < at_∨at_+Yl most≤p.sec)):=by
 unfold jApE at h
 split at h
 ·cases h
 ·rename_i h1
  split at h
  ·cases h
  ·rename_i h2
   refine ⟨O_,fun p hp=>?_⟩
   have h3:badP N at_ most p=false:=by
    cases hb:badP N at_ most p with
    |false=>rfl
    |true=>exact absurd (List.any_eq_true.2 ⟨p,hp,hb⟩) h2
   simp only [badP,decide_eq_false_iff_not,not_or] at h3
   omega
theorem OkD.applied {N k:Nat} {D:DM} (h:OkD N k D) {at_ most:Int} (h0:0≤at_) (m0:1≤most) (m1:most≤1024) (hN:at_+Yl most≤N) (hk:k+10000≤100000000) {l:List PPut} (he:jApE N at_ most l=0):OkD N (k+5000) (D.applied at_ most l)∧(D.applied at_ most l).steps=D.steps+2 * l.length+Xg l.length+6∧(D.applied at_ most l).op = []∧(D.applied at_ most l).read at_=(Xj,0) ∧
  ∀q:Int,0≤q→q < N→(q < at_∨at_+Yl most≤q)→(D.applied at_ most l).read q=match Vh q l with|some s=>(s,0)|none=>D.read q:=by
 obtain ⟨e1,e2⟩:=Zn he
 have hrn:Yl most=1+Xg most+most:=by unfold Yl;rw [if_neg O_]
 have hnb:Xg l.length≤64∧0≤Xg l.length∧0≤Xg most:=by unfold Xg;omega
 obtain ⟨al,ai⟩:=X2c l h0 m0 m1 hN e1
 have hai:InD N (K0 at_ most l):=fun p hp=>by have:=ai p hp;omega
 have hin:InD N l:=fun p hp=>by have:=e2 p hp;omega
 have hat:at_ < N:=O_
 obtain ⟨f1,f2,f3,f4⟩:=h.four h0 hat (K0 at_ most l) hai O_ (Y6 l)
 obtain ⟨g1,g2,g3,g4⟩:=f1.four h0 hat l hin O_ Xj
 refine ⟨g1.mono O_,?_,g3,?_,fun q q0 q1 qo=>?_⟩
 ·rw [DM.applied,g2,f2];omega
 ·rw [DM.applied,g4 at_ h0 hat,if_pos rfl]
 ·rw [DM.applied,g4 q q0 q1,if_neg O_]
  cases Vh q l with
  |some s=>rfl
  |none=>
   simp only
   rw [f4 q q0 q1,if_neg O_]
   have:Vh q (K0 at_ most l)=none:=X5t fun p hp e=>by have:=ai p hp;omega
   rw [this]
structure JInv (N k:Nat) (at_ most:Int) (D:DM) (M:List Sec):Prop where
 ok:OkD N k D
 op:D.op = []
 len:M.length=N
 head:Vx D at_
 out:∀q:Nat,q < N→((q:Int) < at_∨at_+Yl most≤q)→D.read q=(M.getD q default,0)
theorem JInv.mono {N k k' : Nat} {at_ most:Int} {D:DM} {M:List Sec} (h:JInv N k at_ most D M) (hk:k≤k'):JInv N k' at_ most D M:=⟨h.ok.mono hk,h.op,h.len,h.head,h.out⟩
theorem Yz:Xj.1.getD 0 0=0∧Xj.1.getD 1 0=0:=⟨rfl,rfl⟩
theorem JInv.apply {N k:Nat} {at_ most:Int} {D:DM} {M:List Sec} (h:JInv N k at_ most D M) (hb:Vs N at_ most=true) (hk:k+10000≤100000000) (l:List PPut):JInv N (k+5000) at_ most (D.apply N at_ most l) (if jApE N at_ most l=0 then doM M l else M):=by
 simp only [Vs,decide_eq_true_eq] at hb
 obtain ⟨m0,m1,h0,hN⟩:=hb
 by_cases he:jApE N at_ most l=0
 ·rw [if_pos he]
  by_cases hl:0 < l.length
  ·rw [DM.apply,if_pos ⟨he,hl⟩]
   obtain ⟨a1,a2,a3,a4,a5⟩:=h.ok.applied h0 m0 m1 hN hk he
   obtain ⟨e1,e2⟩:=Zn he
   refine ⟨a1,a3,by rw [X7l,h.len], .inr ⟨by rw [a4],by rw [a4];exact Yz.1,by rw [a4];exact Yz.2⟩,fun q hq ho=>?_⟩
   rw [a5 q O_ O_ ho,X52 l M (fun p hp=>by have:=e2 p hp;rw [h.len];omega) q (by rw [h.len];exact hq)]
   cases Vh q l with
   |some s=>rfl
   |none=>exact h.out q hq ho
  ·have:l = []:=List.eq_nil_of_length_eq_zero O_
   subst this
   rw [DM.apply,if_neg (fun h=>by simp at h)]
   exact h.mono O_
 ·rw [if_neg he,DM.apply,if_neg (fun h=>he h.1)]
  exact h.mono O_
theorem JInv.new (N:Nat) (at_ most:Int) (hb:Vs N at_ most=true):JInv N 0 at_ most (newD N) (List.replicate N Ye):=by
 simp only [Vs,decide_eq_true_eq] at hb
 obtain ⟨m0,m1,h0,hN⟩:=hb
 have hrr:0 < Yl most:=by unfold Yl Xg;rw [if_neg O_];omega
 have hr:∀q:Int,0≤q→q < N→(newD N).read q=(Ye,0):=by
  intro q q0 q1
  rw [(Xbl N).read q0 q1]
  have e1:(newD N).get q = []:=rfl
  have e2:(newD N).cell q=⟨Ye,false⟩:=by
   unfold DM.cell newD
   rw [G_,List.getElem?_replicate,if_pos O_];rfl
  rw [e1,e2];rfl
 refine ⟨Xbl N,rfl,List.length_replicate .., .inr ?_,fun q hq ho=>?_⟩
 ·rw [hr at_ h0 O_];exact ⟨rfl,rfl,rfl⟩
 ·rw [hr q O_ O_,G_,List.getElem?_replicate,if_pos hq];rfl
def after (D:DM) (l:List PPut) (q:Int):Sec×Int:=match Vh q l with|some s=>(s,0)|none=>D.read q
theorem X07 {D:DM} {l:List PPut} {q:Int} (h:∀p∈l,p.sec≠q):after D l q=D.read q:=by rw [after,X5t h]
theorem Xwp {n:Nat} : ∀(l:List PPut) {k:Nat} {D:DM},OkD n k D→InD n l→k+l.length≤1000000000→∀q:Int,0≤q→q < n→(D.nxs (wops l)).read q=after D l q∧((∀p∈l,p.sec≠q)→(D.nxs (wops l)).get q=D.get q)
 | [],k,D,h,_,_,q,_,_=>⟨rfl,fun _=>rfl⟩
 |p :: l,k,D,h,hi,hk,q,q0,q1=>by
  simp only [C_] at hk
  obtain ⟨h0,h1⟩:=hi p (List.mem_cons_self ..)
  obtain ⟨w1,w2,w3⟩:=nx_w h h0 h1 O_ p.dat q
  have ho:=h.nx (o:=.w p.sec p.dat) ⟨h0,h1⟩ O_
  obtain ⟨i1,i2⟩:=Xwp l ho (fun x hx=>hi x (List.mem_cons_of_mem _ hx)) O_ q q0 q1
  refine ⟨?_,fun hn=>?_⟩
  ·show ((D.nx (.w p.sec p.dat)).nxs (wops l)).read q=_
   rw [i1,after,after,Vh]
   cases Vh q l with
   |some s=>rfl
   |none=>
    simp only
    rw [w3 q0 q1]
    by_cases e:q=p.sec
    ·rw [if_pos e,if_pos e.symm]
    ·rw [if_neg e,if_neg (fun h=>e h.symm)]
  ·show ((D.nx (.w p.sec p.dat)).nxs (wops l)).get q=_
   rw [i2 (fun x hx=>hn x (List.mem_cons_of_mem _ hx)),w1,if_neg (fun e=>hn p (List.mem_cons_self ..) e.symm)]
theorem Xf5 {n k:Nat} {D:DM} (h:OkD n k D) (ho:D.op = []) {at_:Int} (h0:0≤at_) (h1:at_ < n) {l:List PPut} (hi:InD n l) (hk:k+l.length+3≤1000000000) (hat:∀p∈l,p.sec≠at_) (g:Sec) (m:Nat) (keep:List Int) :
  let C:=(D.nxs ((Yg at_ l g).take m)).crash keep
  OkD n 0 C∧C.op = []∧((∀q:Int,0≤q→q < n→(∀p∈l,p.sec≠q)→C.read q=D.read q) ∨
   ((∀q:Int,0≤q→q < n→q≠at_→C.read q=after D l q)∧(C.read at_=D.read at_∨C.read at_=(Ye,221)∨∃s:Sec,C.read at_=(s,0)∧s.1.take 32=g.1.take 32))):=by
 intro C
 have hn:0 < n:=O_
 have hin:∀o∈(Yg at_ l g).take m,o.inD n:=fun o hm=>Zv h0 h1 hi g o (List.mem_of_mem_take hm)
 have hlen:((Yg at_ l g).take m).length≤l.length+3:=by rw [T_,V8];omega
 have hE:=h.nxs _ hin O_
 refine ⟨X34 hE keep,rfl,?_⟩
 have W:=Xwp l h hi O_
 have hW:=h.nxs (wops l) (Xbm hi) (by rw [Zw];omega)
 rw [Zw] at hW
 have hS:=X99 hW hn
 have hS1:=hW.nx (o:=.sync) hn O_
 have hat2:after D l at_=D.read at_:=X07 hat
 rcases Xps at_ l g m with e|e|e|e
 ·left
  intro q q0 q1 hq
  have hq2:∀p∈l.take m,p.sec≠q:=fun p hp=>hq p (List.mem_of_mem_take hp)
  have W2:=Xwp (l.take m) h (fun p hp=>hi p (List.mem_of_mem_take hp)) (by rw [T_];omega) q q0 q1
  show ((D.nxs ((Yg at_ l g).take m)).crash keep).read q=_
  rw [e] at hE ⊢
  rw [Zd hE keep q0 q1 (by rw [W2.2 hq2];exact X1r ho q),W2.1,X07 hq2]
 ·right
  have eE:D.nxs ((Yg at_ l g).take m)=(D.nxs (wops l)).nx .sync:=by rw [e,X0z];rfl
  have key:∀q:Int,0≤q→q < n→C.read q=after D l q:=by
   intro q q0 q1
   show ((D.nxs ((Yg at_ l g).take m)).crash keep).read q=_
   rw [eE] at hE ⊢
   rw [Zd hE keep q0 q1 (X1r hS.1 q),hS.2 q q0 q1,(W q q0 q1).1]
  exact ⟨fun q q0 q1 _=>key q q0 q1, .inl (by rw [key at_ h0 h1,hat2])⟩
 ·right
  have eE:D.nxs ((Yg at_ l g).take m)=((D.nxs (wops l)).nx .sync).nx (.w at_ g):=by rw [e,X0z];rfl
  have N2:=nx_w hS1 h0 h1 O_ g
  refine ⟨fun q q0 q1 hq=>?_,?_⟩
  ·show ((D.nxs ((Yg at_ l g).take m)).crash keep).read q=_
   rw [eE] at hE ⊢
   rw [Zd hE keep q0 q1 (by rw [(N2 q).1,if_neg hq];exact X1r hS.1 q),(N2 q).2.2 q0 q1,if_neg hq,hS.2 q q0 q1,(W q q0 q1).1]
  ·show ((D.nxs ((Yg at_ l g).take m)).crash keep).read at_=_∨((D.nxs ((Yg at_ l g).take m)).crash keep).read at_=_∨∃s:Sec,((D.nxs ((Yg at_ l g).take m)).crash keep).read at_=_∧_
   rw [eE] at hE ⊢
   have hc:=Xd9 hE keep h0 h1 (g:=g) (by rw [(N2 at_).1,if_pos rfl,X1r hS.1];rfl)
   rw [(N2 at_).2.1] at hc
   have hold:(if (((D.nxs (wops l)).nx .sync).cell at_).bad then (Ye,(221:Int)) else ((((D.nxs (wops l)).nx .sync).cell at_).s,0))=D.read at_:=by
    rw [←hat2,←(W at_ h0 h1).1,←hS.2 at_ h0 h1,hS1.read h0 h1,X1r hS.1,if_neg (show ¬(0 < ([]:List Sec).length) by simp)]
   rw [hold] at hc
   exact hc
 ·right
  have eE:D.nxs ((Yg at_ l g).take m)=(((D.nxs (wops l)).nx .sync).nx (.w at_ g)).nx .sync:=by rw [e,Yg,X0z];rfl
  have N2:=nx_w hS1 h0 h1 O_ g
  have hS2:=hS1.nx (o:=.w at_ g) ⟨h0,h1⟩ O_
  have hS3:=X99 hS2 hn
  have key:∀q:Int,0≤q→q < n→C.read q=if q=at_ then (g,0) else after D l q:=by
   intro q q0 q1
   show ((D.nxs ((Yg at_ l g).take m)).crash keep).read q=_
   rw [eE] at hE ⊢
   rw [Zd hE keep q0 q1 (X1r hS3.1 q),hS3.2 q q0 q1,(N2 q).2.2 q0 q1,hS.2 q q0 q1,(W q q0 q1).1]
  exact ⟨fun q q0 q1 hq=>by rw [key q q0 q1,if_neg hq], .inr (.inr ⟨g,by rw [key at_ h0 h1,if_pos rfl],rfl⟩)⟩
theorem Xat {n k:Nat} {D:DM} (h:OkD n k D) {at_:Int} (h0:0≤at_) (h1:at_ < n) {l:List PPut} (hi:InD n l) (hk:k+l.length+3≤1000000000) (g:Sec) :
  let E:=D.nxs (Yg at_ l g)
  OkD n (k+l.length+3) E∧E.op = []∧∀q:Int,0≤q→q < n→E.read q=if q=at_ then (g,0) else after D l q:=by
 intro E
 have hn:0 < n:=O_
 have W:=Xwp l h hi O_
 have hW:=h.nxs (wops l) (Xbm hi) (by rw [Zw];omega)
 rw [Zw] at hW
 have hS:=X99 hW hn
 have hS1:=hW.nx (o:=.sync) hn O_
 have N2:=nx_w hS1 h0 h1 O_ g
 have hS2:=hS1.nx (o:=.w at_ g) ⟨h0,h1⟩ O_
 have hS3:=X99 hS2 hn
 have eE:D.nxs (Yg at_ l g)=(((D.nxs (wops l)).nx .sync).nx (.w at_ g)).nx .sync:=by rw [Yg,X0z];rfl
 have hE:=h.nxs _ (Zv h0 h1 hi g) (by rw [V8];omega)
 rw [V8] at hE
 refine ⟨hE,?_,fun q q0 q1=>?_⟩
 ·show (D.nxs (Yg at_ l g)).op = []
  rw [eE];exact hS3.1
 ·show (D.nxs (Yg at_ l g)).read q=_
  rw [eE,hS3.2 q q0 q1,(N2 q).2.2 q0 q1,hS.2 q q0 q1,(W q q0 q1).1]
theorem Xf7 {q:Int} : ∀{l:List PPut} {s:Sec},Vh q l=some s→∃p∈l,p.sec=q∧p.dat=s
 | [],s,h=>by cases h
 |p :: l,s,h=>by
  rw [Vh] at h
  cases hl:Vh q l with
  |some t=>
   rw [hl] at h
   simp only [Option.some.injEq] at h
   subst h
   obtain ⟨x,hx,e⟩:=Xf7 hl;exact ⟨x,List.mem_cons_of_mem _ hx,e⟩
  |none=>
   rw [hl] at h
   simp only at h
   split at h
   ·rename_i e;cases h;exact ⟨p,List.mem_cons_self ..,e,rfl⟩
   ·cases h
theorem X5z {q:Int} : ∀{l:List PPut},(∃p∈l,p.sec=q)→Vh q l≠none
 | [],h=>by obtain ⟨p,hp,-⟩:=h;simp at hp
 |p :: l,h=>by
  rw [Vh]
  cases hl:Vh q l with
  |some t=>simp
  |none=>
   obtain ⟨x,hx,e⟩:=h
   rcases List.mem_cons.1 hx with rfl|hx
   ·simp [e]
   ·exact absurd hl (X5z ⟨x,hx,e⟩)
theorem X9r {l:List PPut} (h:∀p∈l,∀p'∈l,p.sec=p'.sec→p.dat=p'.dat) {p:PPut} (hp:p∈l):Vh p.sec l=some p.dat:=by
 cases hl:Vh p.sec l with
 |none=>exact absurd hl (X5z ⟨p,hp,rfl⟩)
 |some s=>
  obtain ⟨x,hx,e1,e2⟩:=Xf7 hl
  rw [←e2,h x hx p hp e1]
theorem Xic (at_ most:Int) (l:List PPut) (hl:(l.length:Int)≤most):∀p∈K0 at_ most l,∀p'∈K0 at_ most l,p.sec=p'.sec→p.dat=p'.dat:=by
 have hn:Xg l.length≤Xg most∧0≤Xg l.length:=by unfold Xg;omega
 intro p hp p' hp' e
 rw [K0] at hp hp'
 rcases List.mem_append.1 hp with h|h<;>rcases List.mem_append.1 hp' with h' | h' <;> obtain ⟨i,hi,rfl⟩:=List.mem_map.1 h<;>obtain ⟨i',hi',rfl⟩:=List.mem_map.1 h' <;> simp only [List.mem_range,X0q] at hi hi' <;> simp only at e ⊢
 ·have:i=i':=O_
  rw [this]
 ·omega
 ·omega
 ·have:i=i':=O_
  rw [this]
structure S1 (N k:Nat) (at_ most:Int) (D:DM) (M:List Sec) (l:List PPut):Prop where
 ok:OkD N k D
 op:D.op = []
 len:M.length=N
 head:∃s:Sec,D.read at_=(s,0)∧s.1.take 18=(Y6 l).1.take 18
 area:∀p∈K0 at_ most l,D.read p.sec=(p.dat,0)
 out:∀q:Nat,q < N→((q:Int) < at_∨at_+Yl most≤q)→(∀p∈l,p.sec≠q)→D.read q=(M.getD q default,0)
theorem Y8m {a b:List Int} (h:a.take 32=b.take 32):a.take 18=b.take 18:=by
 have e:∀x:List Int,x.take 18=(x.take 32).take 18:=fun x=>by rw [List.take_take];rfl
 rw [e a,e b,h]
theorem X8o {a b:List Int} {n i:Nat} (h:a.take n=b.take n) (hi:i < n):a.getD i 0=b.getD i 0:=by
 have e:∀x:List Int,x.getD i 0=(x.take n).getD i 0:=fun x=>by rw [G_,G_,List.getElem?_take_of_lt hi]
 rw [e a,e b,h]
end
section
open Go.RowKit
variable {N k:Nat} {at_ most:Int} {D:DM} {M:List Sec} {l:List PPut}
theorem Kh (hb:Vs N at_ most=true):1≤most∧most≤1024∧0≤at_∧at_+Yl most≤N∧0 < Yl most∧Yl most=1+Xg most+most∧at_ < N:=by
 simp only [Vs,decide_eq_true_eq] at hb
 have hr:Yl most=1+Xg most+most:=by unfold Yl;rw [if_neg O_]
 have hnn:0≤Xg most:=by unfold Xg;omega
 omega
theorem JInv.of_read {k' : Nat} {E:DM} (h:JInv N k at_ most D M) (hb:Vs N at_ most=true) (hE:OkD N k' E) (ho:E.op = []) (hh:Vx E at_) (hr:∀q:Int,0≤q→q < N→(q < at_∨at_+Yl most≤q)→E.read q=D.read q):JInv N k' at_ most E M:=
 ⟨hE,ho,h.len,hh,fun q hq hqo=>by rw [hr q O_ O_ hqo];exact h.out q hq hqo⟩
theorem JInv.crash (h:JInv N k at_ most D M) (hb:Vs N at_ most=true) (keep:List Int):JInv N 0 at_ most (D.crash keep) M:=by
 obtain ⟨m0,m1,h0,hN,hr,hrn,hat⟩:=Kh hb
 have hc:∀q:Int,0≤q→q < N→(D.crash keep).read q=D.read q:=fun q q0 q1=>Zd h.ok keep q0 q1 (X1r h.op q)
 refine h.of_read hb (X34 h.ok keep) rfl ?_ (fun q q0 q1 _=>hc q q0 q1)
 unfold Vx
 rw [hc at_ h0 hat]
 exact h.head
theorem S1.crash (h:S1 N k at_ most D M l) (hb:Vs N at_ most=true) (hl:(l.length:Int)≤most) (keep:List Int):S1 N 0 at_ most (D.crash keep) M l:=by
 obtain ⟨m0,m1,h0,hN,hr,hrn,hat⟩:=Kh hb
 have hc:∀q:Int,0≤q→q < N→(D.crash keep).read q=D.read q:=fun q q0 q1=>Zd h.ok keep q0 q1 (X1r h.op q)
 obtain ⟨al,ai⟩:=X2c l h0 m0 m1 hN hl
 refine ⟨X34 h.ok keep,rfl,h.len,by rw [hc at_ h0 hat];exact h.head,fun p hp=>?_,fun q hq ho hn=>?_⟩
 ·have:=ai p hp
  rw [hc _ O_ O_];exact h.area p hp
 ·rw [hc _ O_ O_];exact h.out q hq ho hn
theorem X6v {s:Sec} (h:s.1.take 32=Xj.1.take 32):s.1.getD 0 0=0∧s.1.getD 1 0=0:=by
 rw [X8o h D_,X8o h D_]
 exact Yz
theorem S1.finish_crash (h:S1 N k at_ most D M l) (hb:Vs N at_ most=true) (he:jApE N at_ most l=0) (hk:k+10000≤100000000) (m:Nat) (keep:List Int) :
  S1 N 0 at_ most ((D.nxs ((Yg at_ l Xj).take m)).crash keep) M l∨JInv N 0 at_ most ((D.nxs ((Yg at_ l Xj).take m)).crash keep) (doM M l):=by
 obtain ⟨m0,m1,h0,hN,hr,hrn,hat⟩:=Kh hb
 obtain ⟨e1,e2⟩:=Zn he
 obtain ⟨al,ai⟩:=X2c l h0 m0 m1 hN e1
 have hin:InD N l:=fun p hp=>by have:=e2 p hp;omega
 have hna:∀p∈l,p.sec≠at_:=fun p hp=>by have:=e2 p hp;omega
 obtain ⟨c1,c2,c3⟩:=Xf5 h.ok h.op h0 hat hin O_ hna Xj m keep
 generalize (D.nxs ((Yg at_ l Xj).take m)).crash keep=C at *
 rcases c3 with c|⟨c,d⟩
 ·refine .inl ⟨c1,c2,h.len,by rw [c at_ h0 hat hna];exact h.head,fun p hp=>?_,fun q hq ho hn=>?_⟩
  ·have hp2:=ai p hp
   rw [c _ O_ O_ (fun x hx=>by have:=e2 x hx;omega)];exact h.area p hp
  ·rw [c _ O_ O_ hn];exact h.out q hq ho hn
 ·have hdone:Vx C at_→JInv N 0 at_ most C (doM M l):=fun hh=>by
   refine ⟨c1,c2,by rw [X7l];exact h.len,hh,fun q hq ho=>?_⟩
   rw [c q O_ O_ O_,after,X52 l M (by rw [h.len];exact hin) q (by rw [h.len];exact hq)]
   cases hlp:Vh q l with
   |some s=>rfl
   |none=>exact h.out q hq ho (fun p hp e=>X5z ⟨p,hp,e⟩ hlp)
  rcases d with d|d|⟨s,d,d2⟩
  ·refine .inl ⟨c1,c2,h.len,by rw [d];exact h.head,fun p hp=>?_,fun q hq ho hn=>?_⟩
   ·have hp2:=ai p hp
    rw [c _ O_ O_ O_,X07 (fun x hx=>by have:=e2 x hx;omega)];exact h.area p hp
   ·rw [c _ O_ O_ O_,X07 hn];exact h.out q hq ho hn
  ·exact .inr (hdone (.inl d))
  ·obtain ⟨z0,z1⟩:=X6v d2
   exact .inr (hdone (.inr (by rw [d];exact ⟨rfl,z0,z1⟩)))
theorem S1.finish_all (h:S1 N k at_ most D M l) (hb:Vs N at_ most=true) (he:jApE N at_ most l=0) (hk:k+10000≤100000000):JInv N (k+2000) at_ most (D.nxs (Yg at_ l Xj)) (doM M l):=by
 obtain ⟨m0,m1,h0,hN,hr,hrn,hat⟩:=Kh hb
 obtain ⟨e1,e2⟩:=Zn he
 have hin:InD N l:=fun p hp=>by have:=e2 p hp;omega
 obtain ⟨c1,c2,c3⟩:=Xat h.ok h0 hat hin O_ Xj
 refine ⟨c1.mono O_,c2,by rw [X7l];exact h.len, .inr ?_,fun q hq ho=>?_⟩
 ·rw [c3 at_ h0 hat,if_pos rfl];exact ⟨rfl,Yz.1,Yz.2⟩
 ·rw [c3 q O_ O_,if_neg O_,after,X52 l M (by rw [h.len];exact hin) q (by rw [h.len];exact hq)]
  cases hlp:Vh q l with
  |some s=>rfl
  |none=>exact h.out q hq ho (fun p hp e=>X5z ⟨p,hp,e⟩ hlp)
theorem JInv.half (h:JInv N k at_ most D M) (hb:Vs N at_ most=true) (he:jApE N at_ most l=0) (hk:k+10000≤100000000):S1 N (k+3000) at_ most (D.nxs (Yg at_ (K0 at_ most l) (Y6 l))) M l:=by
 obtain ⟨m0,m1,h0,hN,hr,hrn,hat⟩:=Kh hb
 obtain ⟨e1,e2⟩:=Zn he
 obtain ⟨al,ai⟩:=X2c l h0 m0 m1 hN e1
 have hnb:Xg l.length≤64∧0≤Xg l.length:=by unfold Xg;omega
 have hin:InD N (K0 at_ most l):=fun p hp=>by have:=ai p hp;omega
 obtain ⟨c1,c2,c3⟩:=Xat h.ok h0 hat hin O_ (Y6 l)
 refine ⟨c1.mono O_,c2,h.len,⟨Y6 l,by rw [c3 at_ h0 hat,if_pos rfl],rfl⟩,fun p hp=>?_,fun q hq ho hn=>?_⟩
 ·have:=ai p hp
  rw [c3 _ O_ O_,if_neg O_,after,X9r (Xic at_ most l e1) hp]
 ·rw [c3 _ O_ O_,if_neg O_,X07 (fun p hp=>by have:=ai p hp;omega)];exact h.out q hq ho
theorem JInv.half_crash (h:JInv N k at_ most D M) (hb:Vs N at_ most=true) (he:jApE N at_ most l=0) (hk:k+10000≤100000000) (m:Nat) (keep:List Int) :
  JInv N 0 at_ most ((D.nxs ((Yg at_ (K0 at_ most l) (Y6 l)).take m)).crash keep) M∨S1 N 0 at_ most ((D.nxs ((Yg at_ (K0 at_ most l) (Y6 l)).take m)).crash keep) M l:=by
 obtain ⟨m0,m1,h0,hN,hr,hrn,hat⟩:=Kh hb
 obtain ⟨e1,e2⟩:=Zn he
 obtain ⟨al,ai⟩:=X2c l h0 m0 m1 hN e1
 have hnb:Xg l.length≤64∧0≤Xg l.length:=by unfold Xg;omega
 have hin:InD N (K0 at_ most l):=fun p hp=>by have:=ai p hp;omega
 have hna:∀p∈K0 at_ most l,p.sec≠at_:=fun p hp=>by have:=ai p hp;omega
 obtain ⟨c1,c2,c3⟩:=Xf5 h.ok h.op h0 hat hin O_ hna (Y6 l) m keep
 generalize (D.nxs ((Yg at_ (K0 at_ most l) (Y6 l)).take m)).crash keep=C at *
 rcases c3 with c|⟨c,d⟩
 ·refine .inl (h.of_read hb c1 c2 ?_ (fun q q0 q1 qo=>c q q0 q1 (fun p hp=>by have:=ai p hp;omega)))
  unfold Vx
  rw [c at_ h0 hat hna];exact h.head
 ·have hout:∀q:Int,0≤q→q < N→(q < at_∨at_+Yl most≤q)→C.read q=D.read q:=fun q q0 q1 qo=>by
   rw [c q q0 q1 O_,X07 (fun p hp=>by have:=ai p hp;omega)]
  rcases d with d|d|⟨s,d,d2⟩
  ·refine .inl (h.of_read hb c1 c2 ?_ hout)
   unfold Vx
   rw [d];exact h.head
  ·exact .inl (h.of_read hb c1 c2 (.inl d) hout)
  ·refine .inr ⟨c1,c2,h.len,⟨s,d,Y8m d2⟩,fun p hp=>?_,fun q hq ho hn=>?_⟩
   ·have:=ai p hp
    rw [c _ O_ O_ O_,after,X9r (Xic at_ most l e1) hp]
   ·rw [hout q O_ O_ ho];exact h.out q hq ho
theorem JInv.apply_crash (h:JInv N k at_ most D M) (hb:Vs N at_ most=true) (he:jApE N at_ most l=0) (hk:k+20000≤100000000) (m:Nat) (keep:List Int) :
  let C:=(D.nxs ((K8 at_ most l).take m)).crash keep
  JInv N 0 at_ most C M∨S1 N 0 at_ most C M l∨JInv N 0 at_ most C (doM M l):=by
 intro C
 by_cases hm:m≤(Yg at_ (K0 at_ most l) (Y6 l)).length
 ·have e:(K8 at_ most l).take m=(Yg at_ (K0 at_ most l) (Y6 l)).take m:=List.take_append_of_le_length hm
  show JInv N 0 at_ most ((D.nxs ((K8 at_ most l).take m)).crash keep) M∨_
  have hC:C=(D.nxs ((Yg at_ (K0 at_ most l) (Y6 l)).take m)).crash keep:=by
   show (D.nxs ((K8 at_ most l).take m)).crash keep=_
   rw [e]
  rcases h.half_crash hb he O_ m keep with x|x
  ·exact .inl (by rw [e];exact x)
  ·exact .inr (.inl (by rw [hC];exact x))
 ·have e:(K8 at_ most l).take m=Yg at_ (K0 at_ most l) (Y6 l) ++ (Yg at_ l Xj).take (m - (Yg at_ (K0 at_ most l) (Y6 l)).length):=by
   rw [K8,List.take_append,H_ O_]
  have hC:C=((D.nxs (Yg at_ (K0 at_ most l) (Y6 l))).nxs ((Yg at_ l Xj).take (m - (Yg at_ (K0 at_ most l) (Y6 l)).length))).crash keep:=by
   show (D.nxs ((K8 at_ most l).take m)).crash keep=_
   rw [e,X0z]
  rw [hC]
  exact .inr ((h.half hb he O_).finish_crash hb he O_ _ keep)
theorem JInv.apply_all (h:JInv N k at_ most D M) (hb:Vs N at_ most=true) (he:jApE N at_ most l=0) (hk:k+20000≤100000000):JInv N (k+5000) at_ most (D.nxs (K8 at_ most l)) (doM M l):=by
 rw [K8,X0z]
 exact (h.half hb he O_).finish_all hb he O_
end
section
open Go.RowKit
theorem Xd0 (z:Int) (h0:0≤z) (e:Nat) (he:e < 8):Z1 z e=((z.toNat / 2 ^ (8 * e) % 256:Nat):Int):=by
 obtain ⟨n,rfl⟩:∃n:Nat,z=n:=⟨z.toNat,O_⟩
 unfold Z1
 rw [IntKind.wrap_u8,Nat.min_eq_left O_,Int.fdiv_eq_ediv_of_nonneg _ (by exact Int.le_of_lt (Int.pow_pos D_)),Int.toNat_natCast]
 have:((2:Int) ^ (8 * e))=((2 ^ (8 * e):Nat):Int):=S_
 rw [this]
 omega
theorem X6x (z:Int) (e:Nat):0≤Z1 z e∧Z1 z e < 256:=by
 unfold Z1
 rw [IntKind.wrap_u8];omega
theorem Xed (z:Int) (h0:0≤z) (e:Nat) (he:e < 8):accB z (e+1)=accB z e+Z1 z e * ((2 ^ (8 * e):Nat):Int):=by
 rw [Xd0 z h0 e he]
 unfold accB
 have h1:2 ^ (8 * (e+1))=2 ^ (8 * e) * 256:=by rw [Nat.mul_add,Nat.pow_add]
 rw [h1,Nat.mod_mul]
 generalize 2 ^ (8 * e)=P
 rw [Int.natCast_add,Int.natCast_mul,Int.mul_comm]
theorem Y0v (z:Int) (h0:0≤z) (h1:z < 4611686018427387904):accB z 8=z:=by
 unfold accB
 rw [Nat.mod_eq_of_lt]
 ·omega
 ·show z.toNat < 2 ^ 64
  omega
theorem Xwn (a b e:Nat) (he:e < 8) (ha:a < 2 ^ (8 * e)) (hs:a+b * 2 ^ (8 * e) < 9223372036854775808):IntKind.i64.wrap (((BitVec.ofInt 64 (a:Int) ||| BitVec.ofInt 64 ((b * 2 ^ (8 * e):Nat):Int)).toNat:Nat):Int)=((a+b * 2 ^ (8 * e):Nat):Int):=by
 have e1:(BitVec.ofInt 64 (a:Int) ||| BitVec.ofInt 64 ((b * 2 ^ (8 * e):Nat):Int)).toNat=a ||| b * 2 ^ (8 * e):=by
  rw [BitVec.toNat_or,BitVec.ofInt_natCast,BitVec.ofInt_natCast,BitVec.toNat_ofNat,BitVec.toNat_ofNat,Nat.mod_eq_of_lt O_,Nat.mod_eq_of_lt O_]
 have e2:a ||| b * 2 ^ (8 * e)=a+b * 2 ^ (8 * e):=by
  have:=Nat.shiftLeft_add_eq_or_of_lt ha b
  rw [Nat.shiftLeft_eq] at this
  rw [Nat.or_comm,←this,Nat.add_comm]
 rw [e1,e2]
 exact Zp O_ O_
theorem Xvu (z:Int) (h0:0≤z) (e:Nat):accB z e≤z:=by
 unfold accB
 have:=Nat.mod_le z.toNat (2 ^ (8 * e))
 omega
theorem Xnb (z:Int) (h0:0≤z) (h1:z < 4611686018427387904) (e:Nat) (he:e < 8):IntKind.i64.wrap (((BitVec.ofInt 64 (accB z e) ||| BitVec.ofInt 64 (Z1 z e * ((2 ^ (8 * e):Nat):Int))).toNat:Nat):Int)=accB z (e+1):=by
 have hle:=Xvu z h0 (e+1)
 rw [Xed z h0 e he,Xd0 z h0 e he] at hle ⊢
 unfold accB at hle ⊢
 have h2:=Nat.mod_lt z.toNat (Nat.pow_pos (n:=8 * e) (show 0 < 2 by decide))
 rw [←Int.natCast_mul,←Int.natCast_add] at hle
 have h3:=Xwn (z.toNat % 2 ^ (8 * e)) (z.toNat / 2 ^ (8 * e) % 256) e he h2 O_
 rw [←Int.natCast_mul,h3,Int.natCast_add]
theorem Xeb (z:Int) (h0:0≤z) (h1:z < 4611686018427387904) (e:Nat) (he:e < 8):IntKind.i64.wrap (Z1 z e * 2 ^ min (8 * (e:Int)).toNat (IntKind.bits .i64))=Z1 z e * ((2 ^ (8 * e):Nat):Int):=by
 have hle:=Xvu z h0 (e+1)
 have hn:0≤accB z e:=by unfold accB;omega
 rw [Xed z h0 e he] at hle
 have hb:=Xd0 z h0 e he
 have e1:min (8 * (e:Int)).toNat (IntKind.bits .i64)=8 * e:=by
  show min (8 * (e:Int)).toNat 64=8 * e
  omega
 have e2:((2:Int) ^ (8 * e))=((2 ^ (8 * e):Nat):Int):=S_
 rw [e1,e2]
 rw [hb] at hle ⊢
 rw [←Int.natCast_mul] at hle ⊢
 exact Zp O_ O_
def le8 (z:Int):List Int:=(List.range 8).map (Z1 z)
theorem Xcp (z:Int):(le8 z).length=8:=by simp [le8]
theorem Xrv (z:Int) {k:Nat} (h:k < 8):(le8 z).getD k 0=Z1 z k:=by
 unfold le8
 rw [G_,M_,List.getElem?_range h];rfl
theorem Y04 (z:Int):∀x∈le8 z,0≤x∧x < 256:=by
 intro x hx
 obtain ⟨k,-,rfl⟩:=List.mem_map.1 hx
 exact X6x z k
def Vc (x y:Int):Sec:=⟨le8 x ++ (le8 y ++ List.replicate 48 0),by simp [Xcp],fun z hz=>by
 rcases List.mem_append.1 hz with h|h
 ·exact Y04 x z h
 rcases List.mem_append.1 h with h|h
 ·exact Y04 y z h
 ·rw [(List.mem_replicate.1 h).2];omega⟩
theorem Xzm (x y:Int) {k:Nat} (h:k < 8):(Vc x y).1.getD k 0=Z1 x k:=by
 show (le8 x ++ (le8 y ++ List.replicate 48 0)).getD k 0=_
 rw [G_,List.getElem?_append_left (by rw [Xcp];exact h),←G_,Xrv x h]
theorem Xxi (x y:Int) {k:Nat} (h:k < 8):(Vc x y).1.getD (8+k) 0=Z1 y k:=by
 show (le8 x ++ (le8 y ++ List.replicate 48 0)).getD (8+k) 0=_
 rw [G_,List.getElem?_append_right (by rw [Xcp];omega),Xcp,show 8+k - 8=k by omega,List.getElem?_append_left (by rw [Xcp];exact h),←G_,Xrv y h]
def Body:={l:List Int // l.length≤240∧∀x∈l,0≤x∧x < 256}
instance:Inhabited Body:=⟨⟨[],S_⟩⟩
def X6y (b:Body):List Int:=(b.1.length:Int) :: (b.1 ++ List.replicate (255 - b.1.length) 0)
theorem Xc9 (b:Body):(X6y b).length=256:=by
 have:=b.2.1
 simp [X6y];omega
theorem Xym (b:Body):∀x∈X6y b,0≤x∧x < 256:=by
 intro x hx
 have:=b.2.1
 rcases List.mem_cons.1 hx with rfl|hx
 ·omega
 rcases List.mem_append.1 hx with h|h
 ·exact b.2.2 x h
 ·rw [(List.mem_replicate.1 h).2];omega
def Ve (b:Body) (k:Nat):Sec:=⟨((X6y b).drop (64 * (k % 4))).take 64,by rw [T_,L_,Xc9];omega,fun x hx=>Xym b x (List.mem_of_mem_drop (List.mem_of_mem_take hx))⟩
theorem Xb2 (b:Body) {k:Nat} (h:k < 4):(Ve b k).1=((X6y b).drop (64 * k)).take 64:=by
 show ((X6y b).drop (64 * (k % 4))).take 64=_
 rw [Nat.mod_eq_of_lt h]
theorem Xjl (b:Body):(Ve b 0).1 ++ ((Ve b 1).1 ++ ((Ve b 2).1 ++ (Ve b 3).1))=X6y b:=by
 rw [Xb2 b D_,Xb2 b D_,Xb2 b D_,Xb2 b D_]
 have hl:=Xc9 b
 generalize X6y b=l at *
 have e:∀n,(l.drop n)=(l.drop n).take 64 ++ l.drop (n+64):=fun n=>by rw [←List.drop_drop,List.take_append_drop]
 have e0:=e 0
 have e1:=e 64
 have e2:=e 128
 have e3:=e 192
 rw [List.drop_zero] at e0
 have e4:l.drop (192+64) = []:=List.drop_of_length_le O_
 rw [e4,List.append_nil] at e3
 show (l.drop 0).take 64 ++ ((l.drop 64).take 64 ++ ((l.drop 128).take 64 ++ (l.drop 192).take 64))=l
 rw [←e3,show (192:Nat)=128+64 from rfl,←e2,show (128:Nat)=64+64 from rfl,←e1,List.drop_zero]
 exact List.take_append_drop 64 l
theorem Xrs (b:Body):((X6y b).drop 1).take b.1.length=b.1:=by
 show (b.1 ++ List.replicate (255 - b.1.length) 0).take b.1.length=_
 rw [List.take_append_of_le_length (Nat.le_refl _),List.take_length]
def slS (at_ n k:Nat):Nat:=at_+15+n % 64 * 4+k
structure SndM (N at_:Nat) (M:List Sec) (a:Nat) (Q:List Body):Prop where
 len:M.length=N
 fits:at_+271≤N
 head:M.getD (at_+14) default=Vc a (a+Q.length:Nat)
 few:Q.length≤64
 slot:∀i,i < Q.length→∀k,k < 4→M.getD (slS at_ (a+i) k) default=Ve (Q.getD i default) k
def Ya (at_ n:Nat) (b:Body):List PPut:=(List.range 4).map fun (k:Nat)=>⟨(slS at_ n k:Nat),Ve b k⟩
def Xu (at_:Nat) (x y:Int):PPut:=⟨(at_+14:Nat),Vc x y⟩
theorem Xe6 (q:Int) (l:List PPut) (p:PPut):Vh q (l ++ [p])=if p.sec=q then some p.dat else Vh q l:=by
 induction l with
 |nil=>simp [Vh]
 |cons x l ih=>
  rw [List.cons_append,Vh,ih,Vh]
  by_cases h:p.sec=q
  ·rw [if_pos h,if_pos h]
  ·rw [if_neg h,if_neg h]
theorem X9u {at_ n:Nat} {b:Body} {k:Nat} (hk:k < 4):Vh ((slS at_ n k:Nat):Int) (Ya at_ n b)=some (Ve b k):=by
 have hm:(⟨(slS at_ n k:Nat),Ve b k⟩:PPut)∈Ya at_ n b:=List.mem_map.2 ⟨k,List.mem_range.2 hk,rfl⟩
 refine X9r (p:=⟨(slS at_ n k:Nat),Ve b k⟩) (fun p hp p' hp' e=>?_) hm
 obtain ⟨i,hi,rfl⟩:=List.mem_map.1 hp
 obtain ⟨j,hj,rfl⟩:=List.mem_map.1 hp'
 have e' : ((slS at_ n i:Nat):Int)=((slS at_ n j:Nat):Int):=e
 unfold slS at e'
 have:i=j:=O_
 rw [this]
theorem Xa6 {at_ n:Nat} {b:Body} {q:Int} (h:∀k,k < 4→((slS at_ n k:Nat):Int)≠q):Vh q (Ya at_ n b)=none:=X5t fun p hp=>by
 obtain ⟨k,hk,rfl⟩:=List.mem_map.1 hp
 exact h k (List.mem_range.1 hk)
theorem Xep {N at_ n:Nat} {b:Body} {x y:Int} (h:at_+271≤N):InD N (Ya at_ n b ++ [Xu at_ x y]):=by
 intro p hp
 rcases List.mem_append.1 hp with hp|hp
 ·obtain ⟨k,hk,rfl⟩:=List.mem_map.1 hp
  have:=List.mem_range.1 hk
  have:=Nat.mod_lt n (show 0 < 64 by decide)
  show 0≤((slS at_ n k:Nat):Int)∧((slS at_ n k:Nat):Int) < N
  unfold slS
  omega
 ·simp only [List.mem_cons,List.not_mem_nil,or_false] at hp
  subst hp
  show 0≤((at_+14:Nat):Int)∧((at_+14:Nat):Int) < N
  omega
end
section
open Go.RowKit
variable {N at_:Nat} {M:List Sec} {a:Nat} {Q:List Body}
theorem SndM.put (h:SndM N at_ M a Q) (hq:Q.length < 64) (b:Body):SndM N at_ (doM M (Ya at_ (a+Q.length) b ++ [Xu at_ a (a+Q.length+1:Nat)])) a (Q ++ [b]):=by
 have hf:=h.fits
 have hi:InD M.length (Ya at_ (a+Q.length) b ++ [Xu at_ a (a+Q.length+1:Nat)]):=by rw [h.len];exact Xep hf
 have hg:∀q:Nat,q < N→(doM M (Ya at_ (a+Q.length) b ++ [Xu at_ a (a+Q.length+1:Nat)])).getD q default=match (if ((at_+14:Nat):Int)=q then some (Vc a (a+Q.length+1:Nat)) else Vh q (Ya at_ (a+Q.length) b)) with|some s=>s|none=>M.getD q default:=fun q hq=>by
  rw [X52 _ M hi q (by rw [h.len];exact hq),Xe6];rfl
 refine ⟨by rw [X7l];exact h.len,hf,?_,by simp;omega,fun i hi k hk=>?_⟩
 ·rw [hg _ O_,if_pos rfl]
  simp
  rfl
 ·have hm:=Nat.mod_lt (a+i) (show 0 < 64 by decide)
  have hm2:=Nat.mod_lt (a+Q.length) (show 0 < 64 by decide)
  rw [hg _ (by unfold slS;omega),if_neg (by unfold slS;omega)]
  simp at hi
  by_cases e:i=Q.length
  ·subst e
   rw [X9u hk]
   simp [G_]
  ·rw [Xa6 (fun k' hk' => by
    unfold slS
    intro e2
    have e3:(a+Q.length) % 64=(a+i) % 64:=O_
    omega)]
   simp only
   rw [h.slot i O_ k hk,G_,G_,List.getElem?_append_left O_]
theorem SndM.ack (h:SndM N at_ M a Q) {j:Nat} (hj:j≤Q.length):SndM N at_ (doM M [Xu at_ (a+j:Nat) (a+Q.length:Nat)]) (a+j) (Q.drop j):=by
 have hf:=h.fits
 have hi:InD M.length [Xu at_ (a+j:Nat) (a+Q.length:Nat)]:=by
  intro p hp
  simp only [List.mem_cons,List.not_mem_nil,or_false] at hp
  subst hp
  show 0≤((at_+14:Nat):Int)∧((at_+14:Nat):Int) < M.length
  rw [h.len]
  omega
 have hg:∀q:Nat,q < N→(doM M [Xu at_ (a+j:Nat) (a+Q.length:Nat)]).getD q default=if q=at_+14 then Vc (a+j:Nat) (a+Q.length:Nat) else M.getD q default:=fun q hq=>by
  rw [X52 _ M hi q (by rw [h.len];exact hq)]
  show (match (if ((at_+14:Nat):Int)=q then some (Vc (a+j:Nat) (a+Q.length:Nat)) else none) with|some s=>s|none=>M.getD q default)=_
  by_cases e:q=at_+14
  ·rw [if_pos O_,if_pos e]
  ·rw [if_neg O_,if_neg e]
 refine ⟨by rw [X7l];exact h.len,hf,?_,by have:=h.few;simp;omega,fun i hi k hk=>?_⟩
 ·rw [hg _ O_,if_pos rfl,L_,show a+j+(Q.length - j)=a+Q.length by omega]
 ·rw [L_] at hi
  have hm:=Nat.mod_lt (a+j+i) (show 0 < 64 by decide)
  rw [hg _ (by unfold slS;omega),if_neg (by unfold slS;omega)]
  have:=h.slot (j+i) O_ k hk
  rw [←Nat.add_assoc] at this
  rw [this,G_,G_,List.getElem?_drop]
end
end Go.Proofs.YtmciloafahkolaaGreatDoor
