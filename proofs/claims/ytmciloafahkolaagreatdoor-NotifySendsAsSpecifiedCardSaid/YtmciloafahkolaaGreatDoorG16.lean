/- Out of: Nb, Lc, Ld, Lg, Nf, Ng, Nu, Nv. -/
import Derived.Test.YtmciloafahkolaaGreatDoorG10
import Derived.Test.YtmciloafahkolaaGreatDoorG11
namespace Go.Proofs.YtmciloafahkolaaGreatDoor
set_option maxRecDepth 100000
set_option maxHeartbeats 40000000
set_option linter.unusedSimpArgs false
set_option linter.unusedVariables false
set_option linter.unnecessarySimpa false
section
open Go.RowKit
structure RcvM (N at_:Nat) (M:List Sec) (L:List Body):Prop where
 len:M.length=N
 fits:at_+271≤N
 head:M.getD (at_+14) default=Vc (L.length:Nat) 0
 slot:∀n,n < L.length→L.length≤n+64→∀k,k < 4→M.getD (slS at_ n k) default=Ve (L.getD n default) k
end
section
open Go.RowKit
variable {N at_:Nat} {M:List Sec} {L:List Body}
theorem RcvM.take (h:RcvM N at_ M L) (b:Body):RcvM N at_ (doM M (Ya at_ L.length b ++ [Xu at_ (L.length+1:Nat) 0])) (L ++ [b]):=by
 have hf:=h.fits
 have hi:InD M.length (Ya at_ L.length b ++ [Xu at_ (L.length+1:Nat) 0]):=by rw [h.len];exact Xep hf
 have hg:∀q:Nat,q < N→(doM M (Ya at_ L.length b ++ [Xu at_ (L.length+1:Nat) 0])).getD q default=match (if ((at_+14:Nat):Int)=q then some (Vc (L.length+1:Nat) 0) else Vh q (Ya at_ L.length b)) with|some s=>s|none=>M.getD q default:=fun q hq=>by
  rw [X52 _ M hi q (by rw [h.len];exact hq),Xe6];rfl
 refine ⟨by rw [X7l];exact h.len,hf,?_,fun i hi hi64 k hk=>?_⟩
 ·rw [hg _ O_,if_pos rfl]
  simp
 ·have hm:=Nat.mod_lt i (show 0 < 64 by decide)
  have hm2:=Nat.mod_lt L.length (show 0 < 64 by decide)
  rw [hg _ (by unfold slS;omega),if_neg (by unfold slS;omega)]
  simp at hi hi64
  by_cases e:i=L.length
  ·subst e
   rw [X9u hk]
   simp [G_]
  ·rw [Xa6 (fun k' hk' => by
    unfold slS
    intro e2
    have e3:L.length % 64=i % 64:=O_
    omega)]
   simp only
   rw [h.slot i O_ O_ k hk,G_,G_,List.getElem?_append_left O_]
theorem Xmo:Vc 0 0=Ye:=Subtype.ext D_
theorem SndM.new (h:at_+271≤N):SndM N at_ (List.replicate N Ye) 0 []:=by
 refine ⟨List.length_replicate ..,h,?_,S_,fun i hi=>by simp at hi⟩
 rw [G_,List.getElem?_replicate,if_pos O_]
 exact Xmo.symm
theorem RcvM.new (h:at_+271≤N):RcvM N at_ (List.replicate N Ye) []:=by
 refine ⟨List.length_replicate ..,h,?_,fun i hi=>by simp at hi⟩
 rw [G_,List.getElem?_replicate,if_pos O_]
 exact Xmo.symm
theorem Xef:Yl 12=14:=D_
theorem X2l (hf:at_+271≤N) (n:Nat) (b:Body) (x y:Int):jApE N at_ 12 (Ya at_ n b ++ [Xu at_ x y])=0:=by
 have hm:=Nat.mod_lt n (show 0 < 64 by decide)
 unfold jApE
 rw [if_neg (by simp [Ya]),if_neg,if_pos]
 ·have e:(Ya at_ n b ++ [Xu at_ x y]).map PPut.sec = [((slS at_ n 0:Nat):Int),((slS at_ n 1:Nat):Int),((slS at_ n 2:Nat):Int),((slS at_ n 3:Nat):Int),((at_+14:Nat):Int)]:=rfl
  rw [e]
  unfold slS
  simp only [List.nodup_cons,List.mem_cons,List.not_mem_nil,or_false,not_or,not_false_eq_true,List.nodup_nil,and_true]
  omega
 ·intro e
  obtain ⟨p,hp,h2⟩:=List.any_eq_true.1 e
  simp only [badP,decide_eq_true_eq,Xef] at h2
  rcases List.mem_append.1 hp with hp|hp
  ·obtain ⟨k,hk,rfl⟩:=List.mem_map.1 hp
   have:=List.mem_range.1 hk
   unfold slS at h2
   simp only at h2
   omega
  ·simp only [List.mem_cons,List.not_mem_nil,or_false] at hp
   subst hp
   unfold Xu at h2
   simp only at h2
   omega
theorem Xdh (hf:at_+271≤N) (x y:Int):jApE N at_ 12 [Xu at_ x y]=0:=by
 unfold jApE
 rw [if_neg S_,if_neg,if_pos S_]
 intro e
 obtain ⟨p,hp,h2⟩:=List.any_eq_true.1 e
 simp only [badP,decide_eq_true_eq,Xef] at h2
 simp only [List.mem_cons,List.not_mem_nil,or_false] at hp
 subst hp
 unfold Xu at h2
 simp only at h2
 omega
end
section
open Go.RowKit
theorem Y1u {D:DM} {a:List DOp} (b:List DOp) (h:(D.run a).1≠0):D.run (a ++ b)=D.run a:=by rw [X6b,if_neg h]
theorem Y6t {D:DM} {a:List DOp} (b:List DOp) (h:(D.run a).1=0):D.run (a ++ b)=(D.run a).2.run b:=by rw [X6b,if_pos h]
theorem Xv5 (l:List PPut) (i:Nat) (h:i < l.length):wops (l.take (i+1))=wops (l.take i) ++ [.w (l.getD i default).sec (l.getD i default).dat]:=by
 rw [Vj default h,wops,List.map_append];rfl
theorem Xzo (l:List PPut) (i:Nat):wops l=wops (l.take i) ++ wops (l.drop i):=by
 rw [wops,wops,wops,←List.map_append,List.take_append_drop]
theorem GoD.fit {N k:Nat} {D:DM} (h:GoD N k D) (hk:k≤1000000000):(0≤D.steps∧D.steps≤1000000000 ∧ -1≤D.after)∧D.after≤9223372036854775807∧∀e∈D.op,e.2.2.length≤1000000000:=by
 have h1:=h.steps
 have h2:=h.after
 exact ⟨O_,O_,fun e he=>by have:=h.room e he;omega⟩
theorem Xxg (at_ most:Int) {n k:Nat} {D:DM} (h:GoD n k D) (l:List PPut) (hi:InD n l) (hk:k+l.length≤100000000):Xe Tryz.prog 102 [.ptr 1000006 0, .ptr 1000005 0] ((1000005,[.ptr 1000004 0]) :: (1000006,[Yo l]) :: jG 1000001 1000002 1000003 1000004 at_ most D) (dMs 1000003 D) (pint (D.run (wops l)).1) ((1000005,[.ptr 1000004 0]) :: (1000006,[Yo l]) :: jG 1000001 1000002 1000003 1000004 at_ most (D.run (wops l)).2) (dMs 1000003 (D.run (wops l)).2):=by
 refine Xn X6 Tryz.func102 rfl rfl (by simp [PV.ownB]) N_ (by simp [X0,jG,dG,dMs]) (by simp [X0,jG,dG,dMs]) (by exact hok0) ?_
 have hlow:∀i,∀c∈dC (D.run (wops (l.take i))).2,Low c:=fun i=>Xm _
 have hlowm:∀i,∀e∈(D.run (wops (l.take i))).2.op.map dE,Low e.2.1∧Low e.2.2:=fun i=>Xi _
 have h00:D=(D.run (wops (l.take 0))).2:=rfl
 have hll:=Kw l
 refine wk ?_
 refine PW.loop (fun i:Nat=>((((((((((bot.setb 1000005 [.ptr 1000004 0]).setb 1000006 [Yo l]).setb 1000004 (jB 1000001 at_ most)).setb 1000001 (dB 1000002 1000003 (D.run (wops (l.take i))).2)).setb 1000002 (dC (D.run (wops (l.take i))).2)).setm 1000003 (dM (D.run (wops (l.take i))).2)).put 0 (.ptr 1000006 0)).put 1 (.ptr 1000005 0)).put 6 (Yo l)).put 7 (pint l.length)).put 8 (pint i)) (fun i=>i≤l.length∧(D.run (wops (l.take i))).1=0) (fun i=>l.length - i) 0 ⟨O_,rfl⟩ ?_ ?_
 ·have h1:=hlow 0
  have h2:=hlowm 0
  exact sb
 ·intro i ⟨hil,hz⟩
  have hti:(l.take i).length=i:=by rw [T_];omega
  obtain ⟨o1,-⟩:=GoD.run (wops (l.take i)) h (Xbm (fun p hp=>hi p (List.mem_of_mem_take hp))) (by rw [Zw];omega)
  rw [Zw,hti] at o1
  by_cases hlt:i < l.length
  ·have hnx:=Xv5 l i hlt
   have hpm:l.getD i default∈l:=by rw [G_,E_ hlt];exact List.getElem_mem hlt
   obtain ⟨f1,f2,f3⟩:=o1.fit O_
   have hw:=Xb5 (D.run (wops (l.take i))).2 (l.getD i default).sec (l.getD i default).dat f1 f2 f3 1000001 1000002 1000003 D_
   have hD2:D.run (wops (l.take (i+1)))=(D.run (wops (l.take i))).2.write (l.getD i default).sec (l.getD i default).dat:=by rw [hnx,Y6t _ hz,Xky];rfl
   rw [←hD2] at hw
   have h1:=hlow (i+1)
   have h2:=hlowm (i+1)
   by_cases hz2:(D.run (wops (l.take (i+1)))).1=0
   ·rw [hz2] at hw
    clear hlow hlowm hD2 o1 f1 f2 f3 hnx
    generalize hE2:(D.run (wops (l.take (i+1)))).2=D2 at *
    generalize (D.run (wops (l.take i))).2=D1 at *
    refine wk ?_
    generalize l.getD i default=p at *
    refine X5.ldBA (row:=secL p.dat) rfl rfl rfl rfl rfl rfl rfl (by rw [Yi];decide) (by show List.map PV.bare (List.take 64 (secL p.dat))=secL p.dat;rw [H_ (by rw [Xl];omega),Xt]) ?_
    refine wk ?_
    refine Y4 (i+1) ⟨O_,hz2⟩ (by show l.length - (i+1) < l.length - i;omega) ?_
    dsimp only
    rw [hE2]
    exact sb
   ·have hfin:D.run (wops l)=D.run (wops (l.take (i+1))):=by rw [Xzo l (i+1),Y1u _ hz2]
    rw [hfin]
    clear hlow hlowm hD2 o1 f1 f2 f3 hnx hfin
    generalize D.run (wops (l.take (i+1)))=R at *
    generalize (D.run (wops (l.take i))).2=D1 at *
    obtain ⟨e,D2⟩:=R
    simp only at *
    refine wk ?_
    generalize l.getD i default=p at *
    refine X5.ldBA (row:=secL p.dat) rfl rfl rfl rfl rfl rfl rfl (by rw [Yi];decide) (by show List.map PV.bare (List.take 64 (secL p.dat))=secL p.dat;rw [H_ (by rw [Xl];omega),Xt]) ?_
    refine wk ?_
    exact RetH.mk rfl (Weak.refl _) aw0 am0
  ·have e:i=l.length:=O_
   subst e
   rw [List.take_length] at hz ⊢
   rw [hz]
   refine wk ?_
   exact RetH.mk rfl (Weak.refl _) aw0 am0
theorem Y3a {n k:Nat} {D:DM} (at_ most:Int) (h:GoD n k D) (l:List PPut) (hi:InD n l) (hk:k+l.length≤100000000) (d c m j b0 b1:Nat) (hd:([d,c,m,j,b0,b1]:List Nat).Nodup):Xe Tryz.prog 102 [.ptr b1 0, .ptr b0 0] ((b0,[.ptr j 0]) :: (b1,[Yo l]) :: jG d c m j at_ most D) (dMs m D) (pint (D.run (wops l)).1) ((b0,[.ptr j 0]) :: (b1,[Yo l]) :: jG d c m j at_ most (D.run (wops l)).2) (dMs m (D.run (wops l)).2):=by
 refine (Xxg at_ most h l hi hk).at (ids4 d c m j ++ [(1000005,b0),(1000006,b1)]) (by simpa [ids4] using hd) (by simp [X0,jG,dG,dMs,ids4]) (by simp [jG,dG]) (by simp [dMs]) ?_ ?_ ?_ ?_ ?_ ?_<;>exact ren0
theorem Xvs (most:Int) {N k:Nat} {D:DM} (h:GoD N k D) (at_ n:Int) (hk:k < 100000000) (n0:0≤n) (n1:n < 65536) (G:List Int) (hG:G.length=16) (hr:∀x∈G,0≤x∧x < 256):Xe Tryz.prog 105 [.ptr 1000006 0, .ptr 1000007 0, .ptr 1000005 0] ((1000005,[.ptr 1000004 0]) :: (1000006,[pint n]) :: (1000007,G.map Xh) :: jG 1000001 1000002 1000003 1000004 at_ most D) (dMs 1000003 D) (pint (D.write at_ (Xq n G hG hr)).1) ((1000005,[.ptr 1000004 0]) :: (1000006,[pint n]) :: (1000007,G.map Xh) :: jG 1000001 1000002 1000003 1000004 at_ most (D.write at_ (Xq n G hG hr)).2) (dMs 1000003 (D.write at_ (Xq n G hG hr)).2):=by
 have hlG:∀c∈G.map Xh,Low c:=Kx (fun _=>Low.val _) _
 have hl1:=Xm D
 have hl2:=Xi D
 have hl3:=Xm (D.write at_ (Xq n G hG hr)).2
 have hl4:=Xi (D.write at_ (Xq n G hG hr)).2
 have hoG:=Xet G
 refine Xn X6 Tryz.func105 rfl rfl (by simp [PV.ownB]) N_ (by simp [X0,jG,dG,dMs]) (by simp [X0,jG,dG,dMs]) (by exact hok0) ?_
 obtain ⟨f1,f2,f3⟩:=h.fit O_
 have hw:=Xb5 D at_ (Xq n G hG hr) f1 f2 f3 1000001 1000002 1000003 D_
 refine wg ?_
 refine PW.region X6 K_ ?_
 refine wg ?_
 refine PW.region X6 K_ ?_
 refine wg ?_
 refine PW.drawE X6 K_ K_ K_ ?_
 refine wk ?_
 refine X5.copy (n2:=16) (cs:=G.map Xh) (out:=secL (Xq n G hG hr)) rfl rfl rfl rfl rfl ?_ rfl rfl rfl ?_ ?_ ?_ ?_
 ·show (if 0+0 * 1+(16 - 0) * 1≤(G.map Xh).length then some (16 - 0,(((G.map Xh).drop (0+0 * 1)).take ((16 - 0) * 1)).map PV.bare) else none)=_
  rw [if_pos (by simp [hG])]
  show some (16,List.map PV.bare (List.take 16 (G.map Xh)))=_
  rw [H_ (by simp [hG]),List.map_map];rfl
 ·exact Nat.le_of_ble_eq_true rfl
 ·rw [List.length_map,hG];decide
 ·exact Xdd n G hG hr
 generalize Xq n G hG hr=g at *
 refine wk ?_
 exact RetH.mk rfl (Weak.refl _) aw0 am0
theorem Xme {N k:Nat} {D:DM} (h:GoD N k D) (at_ most n:Int) (hk:k < 100000000) (n0:0≤n) (n1:n < 65536) (G:List Int) (hG:G.length=16) (hr:∀x∈G,0≤x∧x < 256) (d c m j b0 b1 b2:Nat) (hd:([d,c,m,j,b0,b1,b2]:List Nat).Nodup):Xe Tryz.prog 105 [.ptr b1 0, .ptr b2 0, .ptr b0 0] ((b0,[.ptr j 0]) :: (b1,[pint n]) :: (b2,G.map Xh) :: jG d c m j at_ most D) (dMs m D) (pint (D.write at_ (Xq n G hG hr)).1) ((b0,[.ptr j 0]) :: (b1,[pint n]) :: (b2,G.map Xh) :: jG d c m j at_ most (D.write at_ (Xq n G hG hr)).2) (dMs m (D.write at_ (Xq n G hG hr)).2):=by
 have hl:∀c∈G.map Xh,Low c:=Kx (fun _=>Low.val _) _
 refine (Xvs most h at_ n hk n0 n1 G hG hr).at (ids4 d c m j ++ [(1000005,b0),(1000006,b1),(1000007,b2)]) (by simpa [ids4] using hd) (by simp [X0,jG,dG,dMs,ids4]) (by simp [jG,dG]) (by simp [dMs]) ?_ ?_ ?_ ?_ ?_ ?_
 all_goals exact ren0
theorem Xx5 (D:DM) (at_:Int) (l:List PPut) (g:Sec) {X1 X2 X3 X4:Int×DM} (h1:D.run (wops l)=X1) (h2:X1.2.sync=X2) (h3:X2.2.write at_ g=X3) (h4:X3.2.sync=X4):D.run (Yg at_ l g)=if X1.1=0 then (if X2.1=0 then (if X3.1=0 then X4 else X3) else X2) else X1:=by
 subst h4;subst h3;subst h2;subst h1
 rw [Yg,X6b]
 by_cases c1:(D.run (wops l)).1=0
 ·rw [if_pos c1,if_pos c1,DM.run]
  show (if (D.run (wops l)).2.sync.1=0 then DM.run (D.run (wops l)).2.sync.2 [.w at_ g, .sync] else (D.run (wops l)).2.sync)=_
  generalize (D.run (wops l)).2.sync=X2
  by_cases c2:X2.1=0
  ·rw [if_pos c2,if_pos c2,DM.run]
   show (if (X2.2.write at_ g).1=0 then DM.run (X2.2.write at_ g).2 [.sync] else X2.2.write at_ g)=_
   rw [Xky];rfl
  ·rw [if_neg c2,if_neg c2]
 ·rw [if_neg c1,if_neg c1]
theorem Y3r (D:DM) (at_:Int) {X3 X4:Int×DM} (h3:D.write at_ Xj=X3) (h4:X3.2.sync=X4):D.run (X5l at_)=if X3.1=0 then X4 else X3:=by
 subst h4;subst h3
 rw [X5l,DM.run]
 show (if (D.write at_ Xj).1=0 then DM.run (D.write at_ Xj).2 [.sync] else D.write at_ Xj)=_
 rw [Xky];rfl
def pick (a b c d e:DM):Nat→DM
 |0=>a
 |1=>b
 |2=>c
 |3=>d
 |_=>e
theorem GoD.sync {N k:Nat} {D:DM} (h:GoD N k D) (hN:0 < N) (hk:k < 100000000):GoD N (k+1) D.sync.2:=(h.op1 (o:=.sync) hN O_).go
theorem GoD.write {N k:Nat} {D:DM} (h:GoD N k D) {i:Int} (h0:0≤i) (h1:i < N) (hk:k < 100000000) (s:Sec):GoD N (k+1) (D.write i s).2:=(h.op1 (o:=.w i s) ⟨h0,h1⟩ O_).go
theorem Xg8 {N k:Nat} {D:DM} (h:GoD N k D) (hk:k < 100000000) (hN:N≤1000000000):X6q 104 [] D (pint D.sync.1) D.sync.2:=by
 obtain ⟨f1,f2,-⟩:=h.fit O_
 exact Xfz D f1 f2 (by rw [h.len];omega) (by rw [h.len];exact h.op)
theorem Y2c (most:Int) {N k:Nat} {D:DM} (h:GoD N k D) (at_ n:Int) (h0:0≤at_) (h1:at_ < N) (n0:0≤n) (n1:n < 65536) (G:List Int) (hG:G.length=16) (hr:∀x∈G,0≤x∧x < 256) (l:List PPut) (hi:InD N l) (hk:k+l.length+3≤100000000) (hNN:N≤1000000000):Xe Tryz.prog 90 [X4s 1000005 1000006 1000007 1000008 1000009 1000001]
  ((1000005,[.ptr 1000004 0]) :: (1000006,[Yo l]) :: (1000007,[.ptr 1000004 0]) :: (1000008,[pint n]) :: (1000009,G.map Xh) :: jG 1000001 1000002 1000003 1000004 at_ most D) (dMs 1000003 D) (pint (D.run (Yg at_ l (Xq n G hG hr))).1)
  ((1000005,[.ptr 1000004 0]) :: (1000006,[Yo l]) :: (1000007,[.ptr 1000004 0]) :: (1000008,[pint n]) :: (1000009,G.map Xh) :: jG 1000001 1000002 1000003 1000004 at_ most (D.run (Yg at_ l (Xq n G hG hr))).2) (dMs 1000003 (D.run (Yg at_ l (Xq n G hG hr))).2):=by
 have hN:0 < N:=O_
 obtain ⟨p1,-⟩:=GoD.run (wops l) h (Xbm hi) (by rw [Zw];omega)
 rw [Zw] at p1
 have s2:=p1.sync hN O_
 have w2:=s2.write h0 h1 O_ (Xq n G hG hr)
 have hput:=Y3a at_ most h l hi O_ 1000001 1000002 1000003 1000004 1000005 1000006 D_
 have hhead:=Xme s2 at_ most n O_ n0 n1 G hG hr 1000001 1000002 1000003 1000004 1000007 1000008 1000009 D_
 have hy1:=Xg8 p1 O_ hNN 1000001 1000002 1000003 D_
 have hy2:=Xg8 w2 O_ hNN 1000001 1000002 1000003 D_
 have hlG:∀c∈G.map Xh,Low c:=Kx (fun _=>Low.val _) _
 have hll:=Kw l
 have c1:=Xm D
 have c2:=Xi D
 have hR:=Xx5 D at_ l (Xq n G hG hr) rfl rfl rfl rfl
 generalize Xq n G hG hr=g at *
 generalize D.run (Yg at_ l g)=R at *
 generalize D.run (wops l)=X1 at *
 generalize X1.2.sync=X2 at *
 generalize X2.2.write at_ g=X3 at *
 generalize X3.2.sync=X4 at *
 clear p1 s2 w2
 have c3:=Xm R.2
 have c4:=Xi R.2
 have hoG:=Xet G
 refine Xn X6 Tryz.func90 rfl rfl (by simp [PV.ownB,X4s]) N_ (by simp [X0,jG,dG,dMs]) (by simp [X0,jG,dG,dMs]) (by exact hok0) ?_
 have f1:=fun i=>Xm (pick D X1.2 X2.2 X3.2 X4.2 i)
 have f2:=fun i=>Xi (pick D X1.2 X2.2 X3.2 X4.2 i)
 refine wk ?_
 refine PW.loop (fun i:Nat=>(((((((((((bot.setb 1000005 [.ptr 1000004 0]).setb 1000006 [Yo l]).setb 1000007 [.ptr 1000004 0]).setb 1000008 [pint n]).setb 1000009 (G.map Xh)).setb 1000004 (jB 1000001 at_ most)).setb 1000001 (dB 1000002 1000003 (pick D X1.2 X2.2 X3.2 X4.2 i))).setb 1000002 (dC (pick D X1.2 X2.2 X3.2 X4.2 i))).setm 1000003 (dM (pick D X1.2 X2.2 X3.2 X4.2 i))).put 6 (X4s 1000005 1000006 1000007 1000008 1000009 1000001)).put 7 (pint 4)).put 8 (pint i)) (fun i=>i≤4∧(1≤i→X1.1=0)∧(2≤i→X2.1=0)∧(3≤i→X3.1=0)∧(4≤i→X4.1=0)) (fun i=>4 - i) 0 O_ ?_ ?_
 ·have g1:=f1 0
  have g2:=f2 0
  exact sb4
 ·intro i ⟨hi4,q1,q2,q3,q4⟩
  have hq:i=0∨i=1∨i=2∨i=3∨i=4:=O_
  rcases hq with rfl|rfl|rfl|rfl|rfl
  ·have g1:=f1 1
   have g2:=f2 1
   rw [show pick D X1.2 X2.2 X3.2 X4.2 0=D from rfl]
   rw [show pick D X1.2 X2.2 X3.2 X4.2 1=X1.2 from rfl] at g1 g2
   clear f1 f2
   by_cases z1:X1.1=0
   ·rw [z1] at hput
    clear hR q1 q2 q3 q4
    refine wk ?_
    refine Y4 1 ⟨O_,fun _=>z1,fun _=>by omega,fun _=>by omega,fun _=>by omega⟩ O_ ?_
    rw [show pick D X1.2 X2.2 X3.2 X4.2 1=X1.2 from rfl]
    exact sb4
   ·have hR2:R=X1:=by rw [hR,if_neg z1]
    clear hR q1 q2 q3 q4
    subst hR2
    refine wk ?_
    exact RetH.mk rfl (Weak.refl _) aw0 am0
  ·have g1:=f1 2
   have g2:=f2 2
   rw [show pick D X1.2 X2.2 X3.2 X4.2 1=X1.2 from rfl]
   rw [show pick D X1.2 X2.2 X3.2 X4.2 2=X2.2 from rfl] at g1 g2
   clear f1 f2
   have z1:=q1 O_
   clear hy2
   by_cases z2:X2.1=0
   ·rw [z2] at hy1
    clear hR q1 q2 q3 q4
    refine wk ?_
    refine Y4 2 ⟨O_,fun _=>z1,fun _=>z2,fun _=>by omega,fun _=>by omega⟩ O_ ?_
    rw [show pick D X1.2 X2.2 X3.2 X4.2 2=X2.2 from rfl]
    exact sb4
   ·have hR2:R=X2:=by rw [hR,if_pos z1,if_neg z2]
    clear hR q1 q2 q3 q4
    subst hR2
    refine wk ?_
    exact RetH.mk rfl (Weak.refl _) aw0 am0
  ·have g1:=f1 3
   have g2:=f2 3
   rw [show pick D X1.2 X2.2 X3.2 X4.2 2=X2.2 from rfl]
   rw [show pick D X1.2 X2.2 X3.2 X4.2 3=X3.2 from rfl] at g1 g2
   clear f1 f2
   have z1:=q1 O_
   have z2:=q2 O_
   by_cases z3:X3.1=0
   ·rw [z3] at hhead
    clear hR q1 q2 q3 q4
    refine wk ?_
    refine Y4 3 ⟨O_,fun _=>z1,fun _=>z2,fun _=>z3,fun _=>by omega⟩ O_ ?_
    rw [show pick D X1.2 X2.2 X3.2 X4.2 3=X3.2 from rfl]
    exact sb4
   ·have hR2:R=X3:=by rw [hR,if_pos z1,if_pos z2,if_neg z3]
    clear hR q1 q2 q3 q4
    subst hR2
    refine wk ?_
    exact RetH.mk rfl (Weak.refl _) aw0 am0
  ·have g1:=f1 4
   have g2:=f2 4
   rw [show pick D X1.2 X2.2 X3.2 X4.2 3=X3.2 from rfl]
   rw [show pick D X1.2 X2.2 X3.2 X4.2 4=X4.2 from rfl] at g1 g2
   clear f1 f2
   have z1:=q1 O_
   have z2:=q2 O_
   have z3:=q3 O_
   clear hy1
   by_cases z4:X4.1=0
   ·rw [z4] at hy2
    clear hR q1 q2 q3 q4
    refine wk ?_
    refine Y4 4 ⟨O_,fun _=>z1,fun _=>z2,fun _=>z3,fun _=>z4⟩ O_ ?_
    rw [show pick D X1.2 X2.2 X3.2 X4.2 4=X4.2 from rfl]
    exact sb4
   ·have hR2:R=X4:=by rw [hR,if_pos z1,if_pos z2,if_pos z3]
    clear hR q1 q2 q3 q4
    subst hR2
    refine wk ?_
    exact RetH.mk rfl (Weak.refl _) aw0 am0
  ·have hR2:R=X4:=by rw [hR,if_pos (q1 O_),if_pos (q2 O_),if_pos (q3 O_)]
   have z4:=q4 O_
   clear hR q1 q2 q3 q4 f1 f2
   subst hR2
   rw [z4]
   rw [show pick D X1.2 X2.2 X3.2 R.2 4=R.2 from rfl]
   refine wk ?_
   exact RetH.mk rfl (Weak.refl _) aw0 am0
theorem Y0x (most:Int) {N k:Nat} {D:DM} (h:GoD N k D) (at_ n:Int) (h0:0≤at_) (h1:at_ < N) (n0:0≤n) (n1:n < 65536) (G:List Int) (hG:G.length=16) (hr:∀x∈G,0≤x∧x < 256) (l:List PPut) (hi:InD N l) (hk:k+l.length+3≤100000000) (hNN:N≤1000000000) (d c m j b0 b1 b2 b3 b4:Nat) (hd:([d,c,m,j,b0,b1,b2,b3,b4]:List Nat).Nodup):Xe Tryz.prog 90 [X4s b0 b1 b2 b3 b4 d]
  ((b0,[.ptr j 0]) :: (b1,[Yo l]) :: (b2,[.ptr j 0]) :: (b3,[pint n]) :: (b4,G.map Xh) :: jG d c m j at_ most D) (dMs m D) (pint (D.run (Yg at_ l (Xq n G hG hr))).1)
  ((b0,[.ptr j 0]) :: (b1,[Yo l]) :: (b2,[.ptr j 0]) :: (b3,[pint n]) :: (b4,G.map Xh) :: jG d c m j at_ most (D.run (Yg at_ l (Xq n G hG hr))).2) (dMs m (D.run (Yg at_ l (Xq n G hG hr))).2):=by
 have hl:∀c∈G.map Xh,Low c:=Kx (fun _=>Low.val _) _
 refine (Y2c most h at_ n h0 h1 n0 n1 G hG hr l hi hk hNN).at (idsA d c m j b0 b1 b2 b3 b4) (by simpa [ids4,idsA] using hd) (by simp [X0,jG,dG,dMs,ids4,idsA]) (by simp [jG,dG]) (by simp [dMs]) ?_ ?_ ?_ ?_ ?_ ?_
 ·exact .cons (Xcf (by first|(simp [X0];done)|(simp [X0,dG,dMs];done)|(simp [X0,dG,dMs,crG,crM];done)|(simp [X0,dG,dMs,jG];done)) (by first|(simp [X0];done)|(simp [X0,dG,dMs];done)|(simp [X0,dG,dMs,crG,crM];done)|(simp [X0,dG,dMs,jG];done)) (by first|(simp [X0];done)|(simp [X0,dG,dMs];done)|(simp [X0,dG,dMs,crG,crM];done)|(simp [X0,dG,dMs,jG];done)) (by first|(simp [X0];done)|(simp [X0,dG,dMs];done)|(simp [X0,dG,dMs,crG,crM];done)|(simp [X0,dG,dMs,jG];done)) (by first|(simp [X0];done)|(simp [X0,dG,dMs];done)|(simp [X0,dG,dMs,crG,crM];done)|(simp [X0,dG,dMs,jG];done)) (by first|(simp [X0];done)|(simp [X0,dG,dMs];done)|(simp [X0,dG,dMs,crG,crM];done)|(simp [X0,dG,dMs,jG];done))) .nil
 all_goals exact ren0
theorem Xoy (most:Int) {N k:Nat} {D:DM} (h:GoD N k D) (at_:Int) (h0:0≤at_) (h1:at_ < N) (l:List PPut) (hi:InD N l) (hk:k+l.length+3≤100000000) (hNN:N≤1000000000):Xe Tryz.prog 96 [.ptr 1000004 0,Yo l] (jG 1000001 1000002 1000003 1000004 at_ most D) (dMs 1000003 D) (pint (D.run (Yg at_ l Xj)).1) (jG 1000001 1000002 1000003 1000004 at_ most (D.run (Yg at_ l Xj)).2) (dMs 1000003 (D.run (Yg at_ l Xj)).2):=by
 refine Xn X6 Tryz.func96 rfl rfl (by simp [PV.ownB,Yo]) N_ (by simp [X0,jG,dG,dMs]) (by simp [X0,jG,dG,dMs]) (by exact hok0) ?_
 have hput:=Xnx at_ most D l 1000001 1000002 1000003 1000004 900005 900006 D_
 have hsync:=X8r at_ most D 1000001 1000002 1000003 1000004 D_
 have hhead:=X9a at_ most D 0 Vt rfl 1000001 1000002 1000003 1000004 900007 900008 900009 D_
 have hall:=Y0x most h at_ 0 h0 h1 D_ D_ Vt rfl X03 l hi hk hNN 1000001 1000002 1000003 1000004 900005 900006 900007 900008 900009 D_
 rw [show Xq 0 Vt rfl X03=Xj from rfl] at hall
 generalize D.run (Yg at_ l Xj)=R at *
 refine wk ?_
 exact RetH.mk rfl (Weak.refl _) aw0 am0
theorem Xhf (most:Int) {N k:Nat} {D:DM} (h:GoD N k D) (at_:Int) (h0:0≤at_) (h1:at_ < N) (l:List PPut) (hi:InD N l) (hk:k+l.length+3≤100000000) (hNN:N≤1000000000) (d c m j:Nat) (hd:([d,c,m,j]:List Nat).Nodup):Xe Tryz.prog 96 [.ptr j 0,Yo l] (jG d c m j at_ most D) (dMs m D) (pint (D.run (Yg at_ l Xj)).1) (jG d c m j at_ most (D.run (Yg at_ l Xj)).2) (dMs m (D.run (Yg at_ l Xj)).2):=by
 refine (Xoy most h at_ h0 h1 l hi hk hNN).at (ids4 d c m j) hd (by simp [X0,jG,dG,dMs,ids4]) (by simp [jG,dG]) (by simp [dMs]) ?_ ?_ ?_ ?_ ?_ ?_<;>exact ren0
theorem Xwq (most:Int) {N k:Nat} {D:DM} (h:GoD N k D) (at_:Int) (h0:0≤at_) (h1:at_ < N) (hk:k+3≤100000000) (hNN:N≤1000000000):Xe Tryz.prog 90 [X6t 1000005 1000006 1000007 1000001]
  ((1000005,[.ptr 1000004 0]) :: (1000006,[pint 0]) :: (1000007,Vt.map Xh) :: jG 1000001 1000002 1000003 1000004 at_ most D) (dMs 1000003 D) (pint (D.run (X5l at_)).1)
  ((1000005,[.ptr 1000004 0]) :: (1000006,[pint 0]) :: (1000007,Vt.map Xh) :: jG 1000001 1000002 1000003 1000004 at_ most (D.run (X5l at_)).2) (dMs 1000003 (D.run (X5l at_)).2):=by
 have hN:0 < N:=O_
 have w2:=h.write h0 h1 O_ Xj
 have hhead:=Xme h at_ most 0 O_ D_ D_ Vt rfl X03 1000001 1000002 1000003 1000004 1000005 1000006 1000007 D_
 rw [show Xq 0 Vt rfl X03=Xj from rfl] at hhead
 have hy2:=Xg8 w2 O_ hNN 1000001 1000002 1000003 D_
 generalize hGe:Vt=G at *
 clear hGe
 have hlG:∀c∈G.map Xh,Low c:=Kx (fun _=>Low.val _) _
 have hR:=Y3r D at_ rfl rfl
 generalize D.run (X5l at_)=R at *
 generalize D.write at_ Xj=X1 at *
 generalize X1.2.sync=X2 at *
 clear w2
 have c1:=Xm D
 have c2:=Xi D
 have c3:=Xm R.2
 have c4:=Xi R.2
 have hoG:=Xet G
 refine Xn X6 Tryz.func90 rfl rfl (by simp [PV.ownB,X6t]) N_ (by simp [X0,jG,dG,dMs]) (by simp [X0,jG,dG,dMs]) (by exact hok0) ?_
 have f1:=fun i=>Xm (pick D X1.2 X2.2 X2.2 X2.2 i)
 have f2:=fun i=>Xi (pick D X1.2 X2.2 X2.2 X2.2 i)
 refine wk ?_
 refine PW.loop (fun i:Nat=>(((((((((bot.setb 1000005 [.ptr 1000004 0]).setb 1000006 [pint 0]).setb 1000007 (G.map Xh)).setb 1000004 (jB 1000001 at_ most)).setb 1000001 (dB 1000002 1000003 (pick D X1.2 X2.2 X2.2 X2.2 i))).setb 1000002 (dC (pick D X1.2 X2.2 X2.2 X2.2 i))).setm 1000003 (dM (pick D X1.2 X2.2 X2.2 X2.2 i))).put 6 (X6t 1000005 1000006 1000007 1000001)).put 7 (pint 2)).put 8 (pint i)) (fun i=>i≤2∧(1≤i→X1.1=0)∧(2≤i→X2.1=0)) (fun i=>2 - i) 0 O_ ?_ ?_
 ·have g1:=f1 0
  have g2:=f2 0
  exact sb2
 ·intro i ⟨hi4,q1,q2⟩
  have hq:i=0∨i=1∨i=2:=O_
  rcases hq with rfl|rfl|rfl
  ·have g1:=f1 1
   have g2:=f2 1
   rw [show pick D X1.2 X2.2 X2.2 X2.2 0=D from rfl]
   rw [show pick D X1.2 X2.2 X2.2 X2.2 1=X1.2 from rfl] at g1 g2
   clear f1 f2
   by_cases z1:X1.1=0
   ·rw [z1] at hhead
    clear hR q1 q2
    refine wk ?_
    refine Y4 1 ⟨O_,fun _=>z1,fun _=>by omega⟩ O_ ?_
    rw [show pick D X1.2 X2.2 X2.2 X2.2 1=X1.2 from rfl]
    exact sb2
   ·have hR2:R=X1:=by rw [hR,if_neg z1]
    clear hR q1 q2
    subst hR2
    refine wk ?_
    exact RetH.mk rfl (Weak.refl _) aw0 am0
  ·have g1:=f1 2
   have g2:=f2 2
   rw [show pick D X1.2 X2.2 X2.2 X2.2 1=X1.2 from rfl]
   rw [show pick D X1.2 X2.2 X2.2 X2.2 2=X2.2 from rfl] at g1 g2
   clear f1 f2
   have z1:=q1 O_
   by_cases z2:X2.1=0
   ·rw [z2] at hy2
    clear hR q1 q2
    refine wk ?_
    refine Y4 2 ⟨O_,fun _=>z1,fun _=>z2⟩ O_ ?_
    rw [show pick D X1.2 X2.2 X2.2 X2.2 2=X2.2 from rfl]
    exact sb2
   ·have hR2:R=X2:=by rw [hR,if_pos z1]
    clear hR q1 q2
    subst hR2
    refine wk ?_
    exact RetH.mk rfl (Weak.refl _) aw0 am0
  ·have hR2:R=X2:=by rw [hR,if_pos (q1 O_)]
   have z4:=q2 O_
   clear hR q1 q2 f1 f2
   subst hR2
   rw [z4]
   rw [show pick D X1.2 R.2 R.2 R.2 2=R.2 from rfl]
   refine wk ?_
   exact RetH.mk rfl (Weak.refl _) aw0 am0
theorem Y3l (most:Int) {N k:Nat} {D:DM} (h:GoD N k D) (at_:Int) (h0:0≤at_) (h1:at_ < N) (hk:k+3≤100000000) (hNN:N≤1000000000) (d c m j b2 b3 b4:Nat) (hd:([d,c,m,j,b2,b3,b4]:List Nat).Nodup):Xe Tryz.prog 90 [X6t b2 b3 b4 d]
  ((b2,[.ptr j 0]) :: (b3,[pint 0]) :: (b4,Vt.map Xh) :: jG d c m j at_ most D) (dMs m D) (pint (D.run (X5l at_)).1)
  ((b2,[.ptr j 0]) :: (b3,[pint 0]) :: (b4,Vt.map Xh) :: jG d c m j at_ most (D.run (X5l at_)).2) (dMs m (D.run (X5l at_)).2):=by
 have hl:∀c∈Vt.map Xh,Low c:=Kx (fun _=>Low.val _) _
 refine (Xwq most h at_ h0 h1 hk hNN).at (ids4 d c m j ++ [(1000005,b2),(1000006,b3),(1000007,b4)]) (by simpa [ids4] using hd) (by simp [X0,jG,dG,dMs,ids4]) (by simp [jG,dG]) (by simp [dMs]) ?_ ?_ ?_ ?_ ?_ ?_
 ·exact .cons (X97 (by first|(simp [X0];done)|(simp [X0,dG,dMs];done)|(simp [X0,dG,dMs,crG,crM];done)|(simp [X0,dG,dMs,jG];done)) (by first|(simp [X0];done)|(simp [X0,dG,dMs];done)|(simp [X0,dG,dMs,crG,crM];done)|(simp [X0,dG,dMs,jG];done)) (by first|(simp [X0];done)|(simp [X0,dG,dMs];done)|(simp [X0,dG,dMs,crG,crM];done)|(simp [X0,dG,dMs,jG];done)) (by first|(simp [X0];done)|(simp [X0,dG,dMs];done)|(simp [X0,dG,dMs,crG,crM];done)|(simp [X0,dG,dMs,jG];done))) .nil
 all_goals exact ren0
theorem Xvq (l:List PPut) (k:Nat) (h:k < l.length):outA l (k+1) = .sl (k+1) 65 ((l.take k).flatMap putL ++ putL (l.getD k default)) (some 134):=by
 rw [outA,Vj default h,List.flatMap_append]
 show PV.sl _ _ (_ ++ (putL _ ++ [])) _=_
 rw [List.append_nil]
theorem Xxo (l:List PPut) (h:0 < l.length):outA l l.length = .sl l.length 65 (l.flatMap putL) (some 134):=by
 cases l with
 |nil=>exact absurd h S_
 |cons a A=>show outA (a :: A) (A.length+1)=_;rw [outA,H_ S_];rfl
theorem Xwe (at_ most:Int) {N k:Nat} {D:DM} (h:GoD N k D) (h0:0≤at_) (h1:at_ < 1000000000) (m0:1≤most) (m1:most≤1024) (hk:k≤100000000) (hNN:N≤1000000000) (l:List PPut) (hl:(l.length:Int)≤most) (hl0:0 < l.length) (ha:∀p∈K0 at_ most l,D.read p.sec=(p.dat,0)) (hs:∀p∈l,0≤p.sec∧p.sec < 4294967296):Xe Tryz.prog 99 [.ptr 1000004 0,pint l.length] (jG 1000001 1000002 1000003 1000004 at_ most D) (dMs 1000003 D) (.tup [Yo l,pint 0]) (jG 1000001 1000002 1000003 1000004 at_ most D) (dMs 1000003 D):=by
 have hll:=Kw l
 have c1:=Xm D
 have c2:=Xi D
 refine Xn X6 Tryz.func99 rfl rfl (by simp [PV.ownB,pint]) N_ (by simp [X0,jG,dG,dMs]) (by simp [X0,jG,dG,dMs]) (by exact hok0) ?_
 obtain ⟨f1,f2,f3⟩:=h.fit O_
 have hsz:D.cells.length≤1000000000:=by rw [h.len];omega
 have hnm:=X66 most O_ O_
 have hnb:0≤Xg most∧Xg most≤1000:=by unfold Xg;omega
 have lo:=Xng l
 refine wk ?_
 refine PW.loop (fun i:Nat=>((((((((((bot.setb 1000004 (jB 1000001 at_ most)).setb 1000001 (dB 1000002 1000003 D)).setb 1000002 (dC D)).setm 1000003 (dM D)).put 0 (.ptr 1000004 0)).put 1 (pint l.length)).put 4 .nilsl).put 5 (pint 0)).put 6 (outA l i)).put 13 (pint l.length)).put 14 (pint i)) (fun i=>i≤l.length) (fun i=>l.length - i) 0 O_ ?_ ?_
 ·have b1:=lo 0
  exact sb
 ·intro i hi
  by_cases hlt:i < l.length
  ·obtain ⟨row,hrow,hbytes⟩:=Xro ha hlt
   have hdat:=Xr2 ha hlt
   have hr1:=X9o D (at_+1+(i:Int) / 16) hsz f3 1000001 1000002 1000003 D_
   have hr2:=X9o D (at_+1+Xg most+i) hsz f3 1000001 1000002 1000003 D_
   rw [hrow] at hr1
   rw [hdat] at hr2
   simp only at hr1 hr2
   have hpm:l.getD i default∈l:=by rw [G_,E_ hlt];exact List.getElem_mem hlt
   obtain ⟨p0,p1⟩:=hs _ hpm
   have ho:=Xvq l i hlt
   have b0:=lo i
   have b1:=lo (i+1)
   rw [ho] at b1
   clear hrow hdat hpm hs ha f1 f2 f3 lo
   generalize hnM:Xg most=nM at *
   have hsl:=Zc row
   obtain ⟨p,hp⟩:∃p,p=l.getD i default:=⟨_,rfl⟩
   rw [←hp] at hr2 p0 p1 ho b1 hbytes
   clear hp
   refine wk ?_
   refine X5.bld1 (out:=putL ⟨0,p.dat⟩) rfl rfl rfl rfl rfl rfl rfl (Xr0 _) ?_
   refine wk ?_
   refine PW.loop (fun e:Nat=>(bot.setb 1000004 (jB 1000001 at_ most) |>.setb 1000001 (dB 1000002 1000003 D) |>.setb 1000002 (dC D) |>.setm 1000003 (dM D) |>.setb 5016 (secL row) |>.setb 11002 (putL ⟨accB p.sec e,p.dat⟩) |>.put 0 (.ptr 1000004 0) |>.put 1 (pint l.length) |>.put 4 .nilsl |>.put 5 (pint 0) |>.put 6 (outA l i) |>.put 7 (pint i) |>.put 8 (.ptr 5016 0) |>.put 11 (.ptr 11002 0) |>.put 13 (pint l.length) |>.put 14 (pint i) |>.put 62 (pint e))) (fun e=>e≤4) (fun e=>4 - e) 0 O_ ?_ ?_
   ·have q1:=Vp ⟨0,p.dat⟩
    rw [show accB p.sec 0=0 by unfold accB;omega]
    exact sb
   ·intro e he
    have q1:=Vp ⟨accB p.sec e,p.dat⟩
    by_cases hlt4:e < 4
    ·have hj0:0≤(i:Int) % 16 * 4+e:=O_
     have hj1:(i:Int) % 16 * 4+e < 64:=O_
     have hb:=hbytes e hlt4
     have hcell:(secL row)[((i:Int) % 16 * 4+e).toNat]? = some (Xh (Z1 p.sec e)):=by
      rw [show ((i:Int) % 16 * 4+e).toNat=i % 16 * 4+e by omega,X1b row _ O_,hb]
     have q2:=Vp ⟨accB p.sec (e+1),p.dat⟩
     have hsh:=Xim p.sec p0 e hlt4
     have hor:=Xrw p.sec p0 e hlt4
     have hbb:0≤Z1 p.sec e∧Z1 p.sec e < 256:=by unfold Z1;rw [IntKind.wrap_u8];omega
     generalize ha2:accB p.sec (e+1)=a2 at *
     generalize accB p.sec e=a1 at *
     generalize Z1 p.sec e=bb at *
     clear hbytes hb
     refine wk ?_
     refine X5.ldB rfl rfl rfl rfl rfl rfl rfl rfl hcell rfl ?_
     clear hcell
     obtain ⟨b0,b1'⟩:=hbb
     refine wk ?_
     rw [hsh]
     rw [show IntKind.i64.wrap ((BitVec.ofInt IntKind.i64.bits (PPut.mk a1 p.dat).sec ||| BitVec.ofInt IntKind.i64.bits (bb * ((2 ^ (8 * e):Nat):Int))).toNat:Nat)=a2 from hor]
     refine X5.stB (new := [pint a2]) (out:=putL ⟨a2,p.dat⟩) rfl rfl rfl rfl rfl rfl rfl rfl rfl ⟨rfl,by rw [Yi];exact Nat.le_of_ble_eq_true rfl⟩ rfl ?_
     refine wk ?_
     refine Y4 (e+1) O_ O_ ?_
     rw [ha2]
     exact sb
    ·have ee:e=4:=O_
     subst ee
     rw [Y8l _ p0 p1] at q1 ⊢
     clear hbytes
     cases i with
     |zero=>
      refine wk ?_
      refine Y4 (0+1) O_ O_ ?_
      try dsimp only
      rw [ho]
      exact sb
     |succ k=>
      refine wk ?_
      refine Y4 (k+1+1) O_ O_ ?_
      try dsimp only
      rw [ho]
      exact sb
  ·have e:i=l.length:=O_
   subst e
   have b1:=lo l.length
   rw [Xxo l hl0] at b1 ⊢
   refine wk ?_
   exact RetH.mk rfl (Weak.refl _) aw0 am0
theorem Y2k (at_ most:Int) {N k:Nat} {D:DM} (h:GoD N k D) (h0:0≤at_) (h1:at_ < 1000000000) (m0:1≤most) (m1:most≤1024) (hk:k≤100000000) (hNN:N≤1000000000) (l:List PPut) (hl:(l.length:Int)≤most) (hl0:0 < l.length) (ha:∀p∈K0 at_ most l,D.read p.sec=(p.dat,0)) (hs:∀p∈l,0≤p.sec∧p.sec < 4294967296) (d c m j:Nat) (hd:([d,c,m,j]:List Nat).Nodup):Xe Tryz.prog 99 [.ptr j 0,pint l.length] (jG d c m j at_ most D) (dMs m D) (.tup [Yo l,pint 0]) (jG d c m j at_ most D) (dMs m D):=by
 refine (Xwe at_ most h h0 h1 m0 m1 hk hNN l hl hl0 ha hs).at (ids4 d c m j) hd (by simp [X0,jG,dG,dMs,ids4]) (by simp [jG,dG]) (by simp [dMs]) ?_ ?_ ?_ ?_ ?_ ?_
 case refine_4=>exact .low _ (.tup _ (by intro c hc;simp at hc;rcases hc with rfl|rfl;exact Kw _;exact .val _))
 all_goals exact ren0
def X00 (d j:Nat) (at_:Int):PV:=.agg [.ptr d 0, .ptr j 0,pint at_]
theorem Ze {S:Nat→Prop} {d j:Nat} (hd:S d) (hj:S j) (at_:Int):LowI S (X00 d j at_):=.agg _ (X9 (.ptr _ _ hd) (X9 (.ptr _ _ hj) (X9 (.val _) Y2)))
theorem X7a {S:Nat→Prop} {d c m j:Nat} (hd:S d) (hc:S c) (hm:S m) (at_ most:Int) (D:DM):∀x∈jG d c m j at_ most D,∀p∈x.2,LowI S p:=
 Yt (X9 (.ptr _ _ hd) (X9 (.val _) (X9 (.val _) Y2))) (Yt (Zi hc hm D) (Yt (X1h (Xm D)) X2i))
theorem K4 {S:Nat→Prop} (m:Nat) (D:DM):∀x∈dMs m D,LowM S x.2:=X8u (Xi D) Vw
theorem X44 {f:FuncId} {fn:Func} {c:Code} {args:List PV} {D D' : DM} {r:PV} {at_:Int} (hf:Tryz.prog.funcs[f]? = some fn) (hb:fn.body=some c) (hcb:X28 Tryz.prog f=true) (hlow:∀p∈args,LowI (fun i=>i ∈ [1000004,1000001,1000002,1000003]) p) (hno:∀p∈args,p.ownB=false) (hn:args.length≤fn.ntmps) (hr:LowI (fun i=>i ∈ [1000004,1000001,1000002,1000003]) r)
  (h:PW Tryz.prog fn.ntmps c (RetH X9l fn.results.toList r (jG 1000001 1000002 1000003 1000004 at_ 12 D') (dMs 1000003 D')) (Za args (jG 1000001 1000002 1000003 1000004 at_ 12 D) (dMs 1000003 D))):Xe Tryz.prog f args (jG 1000001 1000002 1000003 1000004 at_ 12 D) (dMs 1000003 D) r (jG 1000001 1000002 1000003 1000004 at_ 12 D') (dMs 1000003 D'):=by
 have r3:∀D,X0 (jG 1000001 1000002 1000003 1000004 at_ 12 D) (dMs 1000003 D) = [1000004,1000001,1000002,1000003]:=fun _=>rfl
 refine Xn X6 hf hb hcb hno hn (by rw [r3];decide) (by rw [r3];decide) ⟨by rw [r3];exact hlow,?_,?_,by rw [r3];exact hr,?_,?_,by simp [jG,dG],by simp [dMs]⟩ h
 ·exact X7a (by rw [r3];decide) (by rw [r3];decide) (by rw [r3];decide) _ _ _
 ·exact K4 _ _
 ·exact X7a (by rw [r3];decide) (by rw [r3];decide) (by rw [r3];decide) _ _ _
 ·exact K4 _ _
theorem Xo3 {d c m j:Nat} (at_:Int) (D:DM):RenB (renN (ids4 d c m j)) (fun i=>i ∈ [1000004,1000001,1000002,1000003]) (jG 1000001 1000002 1000003 1000004 at_ 12 D) (jG d c m j at_ 12 D):=
 RenB.cons _ _ _ _ _ (.cons (.ptr _ _ S_) (.cons (.low _ (.val _)) (.cons (.low _ (.val _)) .nil))) (RenB.cons _ _ _ _ _ (.cons (.msl _ _ _ _ S_) (.cons (.mref _ S_) (.cons (.low _ (.val _)) (.cons (.low _ (.val _)) (.cons (.low _ (.val _)) .nil))))) (RenB.cons _ _ _ _ _ (RenL.low (Xm _)) RenB.nil))
theorem Xnq {d c m j:Nat} (at_:Int):Ren (renN (ids4 d c m j)) (fun i=>i ∈ [1000004,1000001,1000002,1000003]) (X00 1000001 1000004 at_) (X00 d j at_):=
 Xlq (.cons (.ptr _ _ S_) (.cons (.ptr _ _ S_) (.cons (.low _ (.val _)) .nil)))
theorem Xkb {f:FuncId} {args:List PV} {D D' : DM} {r:PV} {at_:Int} (h:Xe Tryz.prog f (X00 1000001 1000004 at_ :: args) (jG 1000001 1000002 1000003 1000004 at_ 12 D) (dMs 1000003 D) r (jG 1000001 1000002 1000003 1000004 at_ 12 D') (dMs 1000003 D')) (hl:∀p∈args,Low p) (hr:Low r) (d c m j:Nat) (hd:([d,c,m,j]:List Nat).Nodup) :
  Xe Tryz.prog f (X00 d j at_ :: args) (jG d c m j at_ 12 D) (dMs m D) r (jG d c m j at_ 12 D') (dMs m D'):=by
 have e:∀D,X0 (jG 1000001 1000002 1000003 1000004 at_ 12 D) (dMs 1000003 D) = [1000004,1000001,1000002,1000003]:=fun _=>rfl
 have hM:∀D,Kc (renN (ids4 d c m j)) (fun i=>i ∈ [1000004,1000001,1000002,1000003]) (dMs 1000003 D) (dMs m D):=fun D=>Kc.cons _ _ _ _ _ (RenM.low (Xi _)) Kc.nil
 exact h.at (ids4 d c m j) (by simpa [ids4] using hd) (by rw [e];simp [ids4]) (by simp [jG,dG]) (by simp [dMs]) (by rw [e];exact .cons (Xnq at_) (RenL.low hl)) (by rw [e];exact Xo3 at_ D) (by rw [e];exact hM _) (by rw [e];exact .low _ hr) (by rw [e];exact Xo3 at_ D') (by rw [e];exact hM _)
theorem Xl2:Xs Tryz.prog 38 [] (· = pint 271):=by
 have k:=X5r 12
 rw [show Yl 12=14 by decide] at k
 refine Xd X6 Tryz.func38 rfl K_ (by simp [Xo,Xx,Y0,Xy,Xw,Xb]) (by simp [pint,Kd,pstr,Y1,Xr,Yp,PV.ownB]) (by rw [Tryz.ntmps38];simp) ?_
 rw [Tryz.ntmps38,Tryz.results38]
 refine wk ?_
 exact retP rfl (.val _) rfl
theorem Xx6 (D:DM) (at_:Int) (ha:0≤at_∧at_≤1000000000):Xe Tryz.prog 60 [X00 1000001 1000004 at_] (jG 1000001 1000002 1000003 1000004 at_ 12 D) (dMs 1000003 D) (pint (at_+14)) (jG 1000001 1000002 1000003 1000004 at_ 12 D) (dMs 1000003 D):=by
 have k:=X5r 12
 rw [show Yl 12=14 by decide] at k
 refine X44 Tryz.func60 rfl rfl (X9 (Ze D_ D_ _) Y2) (by simp [X00,PV.ownB]) N_ (.val _) ?_
 refine wk ?_
 exact RetH.mk rfl (Weak.refl _) aw0 am0
theorem Xfj (D:DM) (at_:Int) (ha:0≤at_∧at_≤1000000000) (d c m j:Nat) (hd:([d,c,m,j]:List Nat).Nodup):Xe Tryz.prog 60 [X00 d j at_] (jG d c m j at_ 12 D) (dMs m D) (pint (at_+14)) (jG d c m j at_ 12 D) (dMs m D):=
 Xkb (Xx6 D at_ ha) S_ (.val _) d c m j hd
theorem Xyh (D:DM) (at_:Int) (n:Nat) (ha:0≤at_∧at_≤1000000000) (hn:n≤1000000000):Xe Tryz.prog 66 [X00 1000001 1000004 at_,pint n] (jG 1000001 1000002 1000003 1000004 at_ 12 D) (dMs 1000003 D) (pint (at_+15+(n:Int) % 64 * 4)) (jG 1000001 1000002 1000003 1000004 at_ 12 D) (dMs 1000003 D):=by
 rw [show at_+15+(n:Int) % 64 * 4=at_+14+1+(n:Int) % 64 * 4 by omega]
 have k:=Xfj D at_ ha 1000001 1000002 1000003 1000004 D_
 refine X44 Tryz.func66 rfl rfl (X9 (Ze D_ D_ _) (X9 (.val _) Y2)) (by simp [X00,pint,PV.ownB]) N_ (.val _) ?_
 refine wk ?_
 exact RetH.mk rfl (Weak.refl _) aw0 am0
theorem Xw0 (D:DM) (at_:Int) (n:Nat) (ha:0≤at_∧at_≤1000000000) (hn:n≤1000000000) (d c m j:Nat) (hd:([d,c,m,j]:List Nat).Nodup):Xe Tryz.prog 66 [X00 d j at_,pint n] (jG d c m j at_ 12 D) (dMs m D) (pint (at_+15+(n:Int) % 64 * 4)) (jG d c m j at_ 12 D) (dMs m D):=
 Xkb (Xyh D at_ n ha hn) (by simp [Xo]) (.val _) d c m j hd
def numC (x:Int) (k e:Nat):PV:=cond (Nat.blt e k) (Xh (Z1 x e)) (Xh 0)
def numP (x y:Int) (k:Nat):List PV := [numC x k 0,numC x k 1,numC x k 2,numC x k 3,numC x k 4,numC x k 5,numC x k 6,numC x k 7,numC y k 0,numC y k 1,numC y k 2,numC y k 3,numC y k 4,numC y k 5,numC y k 6,numC y k 7,Xh 0,Xh 0,Xh 0,Xh 0,Xh 0,Xh 0,Xh 0,Xh 0,Xh 0,Xh 0,Xh 0,Xh 0,Xh 0,Xh 0,Xh 0,Xh 0,Xh 0,Xh 0,Xh 0,Xh 0,Xh 0,Xh 0,Xh 0,Xh 0,Xh 0,Xh 0,Xh 0,Xh 0,Xh 0,Xh 0,Xh 0,Xh 0,Xh 0,Xh 0,Xh 0,Xh 0,Xh 0,Xh 0,Xh 0,Xh 0,Xh 0,Xh 0,Xh 0,Xh 0,Xh 0,Xh 0,Xh 0,Xh 0]
theorem Xn3 (x:Int) (k e:Nat):Low (numC x k e):=by unfold numC;cases Nat.blt e k<;>exact .val _
theorem Xxn (x y:Int) (k:Nat):∀c∈numP x y k,Low c:=by
 have h1:=Xn3 x k
 have h2:=Xn3 y k
 unfold numP
 repeat (first|exact li0|refine lc_cons (by first|exact h1 _|exact h2 _|exact .val _) ?_)
where
 li0:∀c∈([]:List PV),Low c:=S_
 lc_cons {p:PV} {ps:List PV} (h:Low p) (hs:∀q∈ps,Low q):∀q∈p :: ps,Low q:=by
  intro q hq
  rcases List.mem_cons.1 hq with rfl|hq
  ·exact h
  ·exact hs q hq
theorem Xxr (x y:Int):numP x y 8=secL (Vc x y):=rfl
theorem Xcu (x y:Int):Xs Tryz.prog 79 [pint x,pint y] (· = psec (Vc x y)):=by
 have e8:=Xxr x y
 have hlow:=Xxn x y
 refine Xd X6 Tryz.func79 rfl K_ (by simp [Xo,Xx,Y0,Xy,Xw,Xb]) (by simp [pint,Kd,pstr,Y1,Xr,Yp,PV.ownB]) (by rw [Tryz.ntmps79];simp) ?_
 rw [Tryz.ntmps79,Tryz.results79]
 refine wk ?_
 refine PW.loop (fun k:Nat=>(((((((bot.setb 0 (numP x y 0)).setb 1000 (numP x y k)).put 0 (pint x)).put 1 (pint y)).put 4 (.ptr 0 0)).put 5 (.ptr 1000 0)).put 7 (pint k))) (fun k=>k≤8) (fun k=>8 - k) 0 O_ ?_ ?_
 ·exact sb
 ·intro k hk
  by_cases hlt:k < 8
  ·have h8:k=0∨k=1∨k=2∨k=3∨k=4∨k=5∨k=6∨k=7:=O_
   rcases h8 with rfl|rfl|rfl|rfl|rfl|rfl|rfl|rfl
   ·refine wk ?_
    refine Y4 1 O_ O_ ?_
    exact sb
   ·refine wk ?_
    refine Y4 2 O_ O_ ?_
    exact sb
   ·refine wk ?_
    refine Y4 3 O_ O_ ?_
    exact sb
   ·refine wk ?_
    refine Y4 4 O_ O_ ?_
    exact sb
   ·refine wk ?_
    refine Y4 5 O_ O_ ?_
    exact sb
   ·refine wk ?_
    refine Y4 6 O_ O_ ?_
    exact sb
   ·refine wk ?_
    refine Y4 7 O_ O_ ?_
    exact sb
   ·refine wk ?_
    refine Y4 8 O_ O_ ?_
    exact sb
  ·obtain rfl:k=8:=O_
   refine wk ?_
   exact retP (r:=psec (Vc x y)) rfl (X85 _) rfl
theorem Y20 (a:Option Addr) (cap:Nat) (w:World):Calls Tryz.prog 75 #[.slice a 0 cap] w (fun e w' => ∃a' cap',e = .returned (.slice a' 0 cap')∧cap'≤maxLen∧Below w.heap.size w w'):=by
 cases a with
 |none=>
  have he:=fun (w:World)=>Lib.run_eql_slice_nil (P:=Tryz.prog) w 36 59 none 0 cap 0 0 K_
  go_enter Tryz.func75,Tryz.ntmps75
  simp only [Option.isNone_none] at he
  go_wp2
  go_ret
  exact ⟨_,_,rfl,by unfold maxLen;omega,Below.refl _ _⟩
 |some ad=>
  have he:=fun (w:World)=>Lib.run_eql_slice_nil (P:=Tryz.prog) w 36 59 (some ad) 0 cap 0 0 K_
  go_enter Tryz.func75,Tryz.ntmps75
  simp only [Option.isNone_some] at he
  go_wp2
  go_ret
  exact ⟨_,_,rfl,by unfold maxLen;omega,(Below.refl _ _).alloc (Nat.le_refl _) _⟩
theorem Xjp:Xs Tryz.prog 75 [Xp []] (· = Xp []):=
 Xda K_ fun Φ μ w v himm hr=>by
  obtain ⟨a,b,off,cap,us,rfl,-⟩:=hr.sl_inv
  refine (Y20 a cap w).mono ?_
  rintro e w' ⟨a',cap',rfl,hc,hb⟩
  exact ⟨_,_,Φ,rfl,rfl, .sl0 _ _ _ _ hc,fun b o u e=>Xz hb (himm b o u e),fun _ _ _=>rfl,hb,fun n k cs E' e=>by cases e⟩
theorem X5u (l:List PFrm):(l.flatMap Yj).all PV.one=true:=by
 rw [List.all_eq_true];intro c hc
 obtain ⟨y,-,hc⟩:=List.mem_flatMap.1 hc
 exact List.all_eq_true.1 (rfl:(Yj y).all PV.one=true) c hc
def ownF:List PFrm→PV
 | []=>Xp []
 |x :: l=>.sl (l.length+1) 3 ((x :: l).flatMap Yj) (some 59)
theorem Xz6:∀l,Low (ownF l)
 | []=>(Xf _).2 trivial
 |_ :: _=>.sl _ _ _ _ (Ks _)
theorem Xy9 (l:List PFrm) (hl:l.length≤1000000):Xs Tryz.prog 75 [Xp l] (· = ownF l):=by
 cases l with
 |nil=>exact Xjp
 |cons x l=>
  have hlr:Low (Xp (x :: l)):=(Xf _).2 trivial
  simp only [C_] at hl
  have hone:=X5u (x :: l)
  refine Xd X6 Tryz.func75 rfl K_ (by simp [hlr]) (by simp [Xp,PV.ownB]) N_ ?_
  refine PW.seq ?_
  refine PW.region X6 K_ ?_
  refine wg ?_
  refine PW.region X6 K_ ?_
  refine wg ?_
  refine PW.region X6 K_ ?_
  (refine ops0 ?_)
  (refine ops0 ?_)
  refine X5.app rfl rfl rfl rfl rfl rfl rfl rfl (by simp only [C_];omega) (by simp only [C_];omega) hone ?_
  refine wk ?_
  rw [Nat.zero_add,List.nil_append]
  exact retP rfl (Xz6 (x :: l)) rfl
def Xhw:PV:=.val (.pointer none)
theorem Xi7 (D:DM) (N:Nat) (hl:D.cells.length=N) (hNN:N≤100000000) (at_:Int) (ha : -9223372036854775808≤at_∧at_≤9223372036854775807) (hN:at_ < 0∨(N:Int) - 271 < at_):Xe Tryz.prog 39 [.ptr 1000001 0,pint at_] (dG 1000001 1000002 1000003 D) (dMs 1000003 D) (.tup [.agg [Xhw,Xhw,pint 0],pint 1]) (dG 1000001 1000002 1000003 D) (dMs 1000003 D):=by
 have c1:=Xm D
 have c2:=Xi D
 have hsz:=X5j D 1000001 1000002 1000003 D_
 rw [hl] at hsz
 have hrm:=Xl2
 have r1:X0 (dG 1000001 1000002 1000003 D) (dMs 1000003 D) = [1000001,1000002,1000003]:=rfl
 refine Xn X6 Tryz.func39 rfl rfl (by simp [pint,PV.ownB]) N_ (by rw [r1];decide) (by rw [r1];decide) ⟨by rw [r1];exact X9 (.ptr _ _ D_) (X9 (.val _) Y2),by rw [r1];exact Yt (Zi D_ D_ D) (Yt (X1h c1) X2i),K4 _ _, .tup _ (X9 (.agg _ (X9 (.val _) (X9 (.val _) (X9 (.val _) Y2)))) (X9 (.val _) Y2)),by rw [r1];exact Yt (Zi D_ D_ D) (Yt (X1h c1) X2i),K4 _ _,by simp [dG],by simp [dMs]⟩ ?_
 clear hl
 by_cases h1:at_ < 0
 ·refine wk ?_
  exact RetH.mk rfl (Weak.refl _) aw0 am0
 ·have h2:(N:Int) - 271 < at_:=O_
  refine wk ?_
  exact RetH.mk rfl (Weak.refl _) aw0 am0
theorem Xsz (D:DM) (N:Nat) (hl:D.cells.length=N) (hNN:N≤100000000) (at_:Int) (ha : -9223372036854775808≤at_∧at_≤9223372036854775807) (hN:at_ < 0∨(N:Int) - 271 < at_):Xe Tryz.prog 11 [.ptr 1000001 0,pint at_] (dG 1000001 1000002 1000003 D) (dMs 1000003 D) (.tup [Xhw,pint 1]) (dG 1000001 1000002 1000003 D) (dMs 1000003 D):=by
 have c1:=Xm D
 have c2:=Xi D
 have kO:=Xi7 D N hl hNN at_ ha hN
 have r1:X0 (dG 1000001 1000002 1000003 D) (dMs 1000003 D) = [1000001,1000002,1000003]:=rfl
 refine Xn X6 Tryz.func11 rfl rfl (by simp [pint,PV.ownB]) N_ (by rw [r1];decide) (by rw [r1];decide) ⟨by rw [r1];exact X9 (.ptr _ _ D_) (X9 (.val _) Y2),by rw [r1];exact Yt (Zi D_ D_ D) (Yt (X1h c1) X2i),K4 _ _, .tup _ (X9 (.val _) (X9 (.val _) Y2)),by rw [r1];exact Yt (Zi D_ D_ D) (Yt (X1h c1) X2i),K4 _ _,by simp [dG],by simp [dMs]⟩ ?_
 clear hl
 refine wk ?_
 exact RetH.mk rfl (Weak.refl _) aw0 am0
theorem Xnl (D:DM) (N:Nat) (hl:D.cells.length=N) (hNN:N≤100000000) (at_:Int) (ha : -9223372036854775808≤at_∧at_≤9223372036854775807) (hN:at_ < 0∨(N:Int) - 271 < at_) (d c m:Nat) (hd:([d,c,m]:List Nat).Nodup):Xe Tryz.prog 11 [.ptr d 0,pint at_] (dG d c m D) (dMs m D) (.tup [Xhw,pint 1]) (dG d c m D) (dMs m D):=by
 have r1:X0 (dG 1000001 1000002 1000003 D) (dMs 1000003 D) = [1000001,1000002,1000003]:=rfl
 have hB:RenB (renN [(1000001,d),(1000002,c),(1000003,m)]) (fun i=>i ∈ [1000001,1000002,1000003]) (dG 1000001 1000002 1000003 D) (dG d c m D):=
  RenB.cons _ _ _ _ _ (.cons (.msl _ _ _ _ S_) (.cons (.mref _ S_) (.cons (.low _ (.val _)) (.cons (.low _ (.val _)) (.cons (.low _ (.val _)) .nil))))) (RenB.cons _ _ _ _ _ (RenL.low (Xm _)) RenB.nil)
 refine (Xsz D N hl hNN at_ ha hN).at [(1000001,d),(1000002,c),(1000003,m)] (by simpa using hd) (by rw [r1];simp) (by simp [dG]) (by simp [dMs]) ?_ ?_ ?_ ?_ ?_ ?_
 ·rw [r1];exact .cons (.ptr _ _ S_) (.cons (.low _ (.val _)) .nil)
 ·rw [r1];exact hB
 ·exact Kc.cons _ _ _ _ _ (RenM.low (Xi _)) Kc.nil
 ·rw [r1];exact X7j (.cons (.low _ (.val _)) (.cons (.low _ (.val _)) .nil))
 ·rw [r1];exact hB
 ·exact Kc.cons _ _ _ _ _ (RenM.low (Xi _)) Kc.nil
end
end Go.Proofs.YtmciloafahkolaaGreatDoor
