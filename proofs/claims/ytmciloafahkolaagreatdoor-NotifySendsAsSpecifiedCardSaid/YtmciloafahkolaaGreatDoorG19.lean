/- Out of: Lh, Le, Li, Nh, Nj. -/
import Derived.Test.YtmciloafahkolaaGreatDoorG17
namespace Go.Proofs.YtmciloafahkolaaGreatDoor
set_option maxRecDepth 100000
set_option maxHeartbeats 40000000
set_option linter.unusedSimpArgs false
set_option linter.unusedVariables false
set_option linter.unnecessarySimpa false
section
open Go.RowKit
def Y6l (D:DM) (at_ most:Int) (l:List PPut):Prop:=(∃s:Sec,D.read at_=(s,0)∧s.1.take 18=(Y6 l).1.take 18)∧(∀p∈K0 at_ most l,D.read p.sec=(p.dat,0))∧0 < l.length∧(l.length:Int)≤most∧InD D.cells.length l
def RecP (D:DM) (at_ most:Int) (R:Int×DM):Prop:=(D.read at_=(Ye,221)∧R=D.run (X5l at_))∨((D.read at_).2=0∧(D.read at_).1.1.getD 0 0=0∧(D.read at_).1.1.getD 1 0=0∧R=(0,D))∨∃l:List PPut,Y6l D at_ most l∧R=D.run (Yg at_ l Xj)
theorem Xem {s:Sec} {l:List PPut} (h:s.1.take 18=(Y6 l).1.take 18) (hl:l.length≤1024):s.1.getD 0 0=accB l.length 1∧s.1.getD 1 0=Z1 l.length 1∧(s.1.drop 2).take 16=digG l:=by
 have e0:=X8o h (show 0 < 18 by decide)
 have e1:=X8o h (show 1 < 18 by decide)
 refine ⟨?_,?_,?_⟩
 ·rw [e0]
  show IntKind.u8.wrap (l.length:Int)=_
  rw [IntKind.wrap_u8]
  unfold accB
  omega
 ·rw [e1]
  show IntKind.u8.wrap ((l.length:Int) / 256)=_
  rw [Xb0 _ O_ 1 D_,IntKind.wrap_u8]
  omega
 ·have e:∀x:List Int,(x.drop 2).take 16=(x.take 18).drop 2:=fun x=>by rw [List.drop_take]
  rw [e,h,←e]
  show (digG l ++ List.replicate 46 0).take 16=_
  rw [List.take_append_of_le_length (by rw [Zu];exact Nat.le_refl _),H_ (by rw [Zu];exact Nat.le_refl _)]
theorem Xni (n:Nat) (h:n≤1024):accB n 2=n:=by
 unfold accB
 rw [Int.toNat_natCast,Nat.mod_eq_of_lt (Nat.lt_of_le_of_lt h D_)]
theorem Xks (most:Int) {N k:Nat} {D:DM} (h:GoD N k D) (at_:Int) (h0:0≤at_) (h1:at_ < N) (m0:1≤most) (m1:most≤1024) (hk:k+2000≤100000000) (hNN:N≤100000000) {R:Int×DM} (hh:RecP D at_ most R):Xe Tryz.prog 82 [.ptr 1000004 0] (jG 1000001 1000002 1000003 1000004 at_ most D) (dMs 1000003 D) (pint R.1) (jG 1000001 1000002 1000003 1000004 at_ most R.2) (dMs 1000003 R.2):=by
 have c1:=Xm D
 have c2:=Xi D
 have c3:=Xm R.2
 have c4:=Xi R.2
 refine Xn X6 Tryz.func82 rfl rfl (by simp [PV.ownB]) N_ (by simp [X0,jG,dG,dMs]) (by simp [X0,jG,dG,dMs]) (by exact hok0) ?_
 obtain ⟨f1,f2,f3⟩:=h.fit O_
 have hread:=X9o D at_ (by rw [h.len];omega) f3 1000001 1000002 1000003 D_
 rcases hh with ⟨hr,e1⟩|⟨he,hs0,hs1,e1⟩|⟨l,hf,e1⟩
 ·rw [hr] at hread
  have hsync:=X8r at_ most D 1000001 1000002 1000003 1000004 D_
  have hhead:=X9a at_ most D 0 Vt rfl 1000001 1000002 1000003 1000004 900007 900008 900009 D_
  have hall:=Y3l most h at_ h0 h1 O_ O_ 1000001 1000002 1000003 1000004 900007 900008 900009 D_
  rw [←e1] at hall
  clear e1
  refine wk ?_
  exact RetH.mk rfl (Weak.refl _) aw0 am0
 ·subst e1
  rw [he] at hread
  generalize (D.read at_).1=s at *
  have g0:(secL s)[0]? = some (Xh 0):=by rw [X1b s 0 D_,hs0]
  have g1:(secL s)[1]? = some (Xh 0):=by rw [X1b s 1 D_,hs1]
  refine wk ?_
  refine X5.ldB (c:=Xh 0) rfl rfl rfl rfl rfl rfl rfl rfl g0 rfl ?_
  refine wk ?_
  refine X5.ldB (c:=Xh 0) rfl rfl rfl rfl rfl rfl rfl rfl g1 rfl ?_
  refine wk ?_
  exact RetH.mk rfl (Weak.refl _) aw0 am0
 ·obtain ⟨⟨s,hr,ht⟩,ha,hl0,hlm,hin⟩:=hf
  rw [h.len] at hin
  obtain ⟨b0,b1,b2⟩:=Xem ht O_
  rw [hr] at hread
  simp only at hread
  have g0:(secL s)[0]? = some (Xh (accB l.length 1)):=by rw [X1b s 0 D_,b0]
  have g1:(secL s)[1]? = some (Xh (Z1 l.length 1)):=by rw [X1b s 1 D_,b1]
  have hsh:=Xim l.length O_ 1 D_
  have hor:=Xrw l.length O_ 1 D_
  rw [Xni l.length O_] at hor
  have hbb:0≤Z1 l.length 1∧Z1 l.length 1 < 256:=by unfold Z1;rw [IntKind.wrap_u8];omega
  have hab:0≤accB l.length 1∧accB l.length 1 < 256:=by unfold accB;omega
  have hrd:=Y2k at_ most h h0 O_ m0 m1 O_ O_ l hlm hl0 ha (fun p hp=>by have:=hin p hp;omega) 1000001 1000002 1000003 1000004 D_
  have hdig:=Xck l O_ O_
  rw [show ofS Yy 240 (Zr l)=digG l from rfl] at hdig
  have hfin:=Xhf most h at_ h0 h1 l hin O_ O_ 1000001 1000002 1000003 1000004 D_
  rw [←e1] at hfin
  have hll:=Kw l
  have hsl:=Zc s
  have hrow:(((secL s).drop 2).take 16).map PV.bare=(digG l).map Xh:=by
   rw [secL,←List.map_drop,←List.map_take,b2,List.map_map];rfl
  have dl:=Zu l
  generalize accB l.length 1=a at *
  generalize Z1 l.length 1=b at *
  generalize digG l=G at *
  clear e1 ht ha hr b0 b1 b2 hin f1 f2 f3
  obtain ⟨a0,a1⟩:=hab
  obtain ⟨b0,b1⟩:=hbb
  refine wk ?_
  refine X5.ldB (c:=Xh a) rfl rfl rfl rfl rfl rfl rfl rfl g0 rfl ?_
  refine wk ?_
  refine X5.ldB (c:=Xh b) rfl rfl rfl rfl rfl rfl rfl rfl g1 rfl ?_
  clear g0 g1
  have hraw:IntKind.i64.wrap ((BitVec.ofInt IntKind.i64.bits a ||| BitVec.ofInt IntKind.i64.bits (IntKind.i64.wrap (b * 2 ^ min (Int.toNat 8) IntKind.i64.bits))).toNat:Nat)=l.length:=by
   rw [show IntKind.i64.wrap (b * 2 ^ min (Int.toNat 8) IntKind.i64.bits)=b * ((2 ^ (8 * 1):Nat):Int) from hsh]
   exact hor
  clear hsh hor
  refine wk ?_
  rw [hraw]
  clear hraw a0 a1 b0 b1
  refine wk ?_
  refine X5.ldBA (row:=G.map Xh) rfl rfl rfl rfl rfl rfl rfl (by rw [Xl];exact Nat.le_of_ble_eq_true rfl) hrow ?_
  clear hrow
  have hq:=X5e (k:=.u8) G G rfl
  rw [dl,beq_self_eq_true] at hq
  refine X5.eqA rfl rfl rfl rfl rfl rfl rfl rfl hq (.inr rfl) ?_
  refine wk ?_
  exact RetH.mk rfl (Weak.refl _) aw0 am0
theorem Xew (most:Int) {N k:Nat} {D:DM} (h:GoD N k D) (at_:Int) (h0:0≤at_) (h1:at_ < N) (m0:1≤most) (m1:most≤1024) (hk:k+2000≤100000000) (hNN:N≤100000000) {R:Int×DM} (hh:RecP D at_ most R) (d c m j:Nat) (hd:([d,c,m,j]:List Nat).Nodup):Xe Tryz.prog 82 [.ptr j 0] (jG d c m j at_ most D) (dMs m D) (pint R.1) (jG d c m j at_ most R.2) (dMs m R.2):=by
 refine (Xks most h at_ h0 h1 m0 m1 hk hNN hh).at (ids4 d c m j) hd (by simp [X0,jG,dG,dMs,ids4]) (by simp [jG,dG]) (by simp [dMs]) ?_ ?_ ?_ ?_ ?_ ?_<;>exact ren0
theorem Xyd (at_ most:Int) {N k:Nat} {D:DM} (h:GoD N k D) (hb:Vs N at_ most=true) (hk:k+2000≤100000000) (hNN:N≤100000000) {R:Int×DM} (hh:RecP D at_ most R) (hz:R.1=0):Xe Tryz.prog 58 [.ptr 1000001 0,pint at_,pint most] (dG 1000001 1000002 1000003 D) (dMs 1000003 D) (.tup [.ptr 4004 0,pint 0]) (jG 1000001 1000002 1000003 4004 at_ most R.2) (dMs 1000003 R.2):=by
 have c1:=Xm D
 have c2:=Xi D
 refine Xn X6 Tryz.func58 rfl rfl (by simp [PV.ownB,pint]) N_ (by simp [X0,jG,dG,dMs]) (by simp [X0,jG,dG,dMs]) (by exact hok0) ?_
 have hrm:=X5r most
 have hsz:=X5j D 1000001 1000002 1000003 D_
 rw [h.len] at hsz
 obtain ⟨m0,m1,h0,hN,hr,-,hat⟩:=Kh hb
 have hrr:Yl most≤2000:=by unfold Yl Xg;rw [if_neg O_];omega
 have hrec:=Xew most h at_ h0 hat m0 m1 hk hNN hh 1000001 1000002 1000003 4004 D_
 rw [hz] at hrec
 clear hh
 generalize Yl most=Q at *
 generalize R.2=D2 at *
 refine wk ?_
 exact RetH.mk rfl (Weak.refl _) aw0 am0
theorem Y21 (at_ most:Int) {N k:Nat} {D:DM} (h:GoD N k D) (hb:Vs N at_ most=true) (hk:k+2000≤100000000) (hNN:N≤100000000) {R:Int×DM} (hh:RecP D at_ most R) (hz:R.1=0) (d c m j:Nat) (hd:([d,c,m,j]:List Nat).Nodup):Xe Tryz.prog 58 [.ptr d 0,pint at_,pint most] (dG d c m D) (dMs m D) (.tup [.ptr j 0,pint 0]) (jG d c m j at_ most R.2) (dMs m R.2):=by
 refine (Xyd at_ most h hb hk hNN hh hz).at [(1000001,d),(1000002,c),(1000003,m),(4004,j)] (by simpa using hd) (by simp [X0,jG,dG,dMs]) (by simp [jG,dG]) (by simp [dMs]) ?_ ?_ ?_ (X7j (.cons (.ptr _ _ (by first|(simp [X0];done)|(simp [X0,dG,dMs];done)|(simp [X0,dG,dMs,crG,crM];done)|(simp [X0,dG,dMs,jG];done))) (.cons (.low _ (.val _)) .nil))) ?_ ?_<;>exact ren0
def DM.applyR (D:DM) (N at_ most:Int) (l:List PPut):Int×DM:=if jApE N at_ most l=0 then (if 0 < l.length then D.run (K8 at_ most l) else (0,D)) else (jApE N at_ most l,D)
theorem Xuz (at_ most:Int) {N k:Nat} {D:DM} (h:GoD N k D) (h0:0≤at_) (m0:1≤most) (m1:most≤1024) (hN:at_+Yl most≤N) (hNN:N≤100000000) (l:List PPut) (hl:l.length≤100000000) (hk:k+10000≤100000000):Xe Tryz.prog 78 [.ptr 1000004 0,Yo l] (jG 1000001 1000002 1000003 1000004 at_ most D) (dMs 1000003 D) (pint (D.applyR N at_ most l).1) (jG 1000001 1000002 1000003 1000004 at_ most (D.applyR N at_ most l).2) (dMs 1000003 (D.applyR N at_ most l).2):=by
 have hll:=Kw l
 have c1:=Xm D
 have c2:=Xi D
 refine Xn X6 Tryz.func78 rfl rfl (by simp [PV.ownB,Yo]) N_ (by simp [X0,jG,dG,dMs]) (by simp [X0,jG,dG,dMs]) (by exact hok0) ?_
 have hap:∀e,jApE N at_ most l=e→e≠0→D.applyR N at_ most l=(e,D):=fun e h1 h2=>by rw [DM.applyR,h1,if_neg h2]
 have hrm:=X5r most
 have hsz:=X5j D 1000001 1000002 1000003 D_
 have hdl:=h.len
 rw [hdl] at hsz
 have hrr:0≤Yl most∧Yl most≤2000:=by unfold Yl Xg;rw [if_neg O_];omega
 by_cases hmost:most < l.length
 ·have ea:jApE N at_ most l=2:=by rw [jApE,if_pos hmost]
  rw [hap 2 ea D_]
  refine wk ?_
  exact RetH.mk rfl (Weak.refl _) aw0 am0
 ·refine wk ?_
  refine PW.loop (fun i:Nat=>(((((((((bot.setb 1000004 (jB 1000001 at_ most)).setb 1000001 (dB 1000002 1000003 D)).setb 1000002 (dC D)).setm 1000003 (dM D)).put 0 (.ptr 1000004 0)).put 1 (Yo l)).put 4 (pint 0)).put 18 (Yo l)).put 19 (pint l.length)).put 20 (pint i)) (fun i=>i≤l.length∧∀j,j < i→badP N at_ most (l.getD j default)=false) (fun i=>l.length - i) 0 ⟨O_,fun j hj=>by omega⟩ ?_ ?_
  ·exact sb
  ·intro i ⟨hi,hgood⟩
   by_cases hlt:i < l.length
   ·by_cases hb:badP N at_ most (l.getD i default)=true
    ·have ea:=Xmy hmost hlt hb
     rw [hap 1 ea D_]
     simp only [badP,decide_eq_true_eq] at hb
     generalize Yl most=R at *
     by_cases b1:(l.getD i default).sec < 0
     ·refine wk ?_
      exact RetH.mk rfl (Weak.refl _) aw0 am0
     ·by_cases b2:(N:Int)≤(l.getD i default).sec
      ·refine wk ?_
       exact RetH.mk rfl (Weak.refl _) aw0 am0
      ·have b3:at_≤(l.getD i default).sec:=O_
       have b4:(l.getD i default).sec < at_+R:=O_
       refine wk ?_
       exact RetH.mk rfl (Weak.refl _) aw0 am0
    ·have hb' : badP N at_ most (l.getD i default)=false:=by simpa using hb
     have hg2:∀j,j < i+1→badP N at_ most (l.getD j default)=false:=by
      intro j hj
      by_cases e:j=i
      ·subst e;exact hb'
      ·exact hgood j O_
     simp only [badP,decide_eq_false_iff_not,not_or] at hb'
     obtain ⟨b1,b2,b3⟩:=hb'
     clear hgood hap hb
     by_cases b4:at_≤(l.getD i default).sec
     ·have b5:¬(l.getD i default).sec < at_+Yl most:=fun e=>b3 ⟨b4,e⟩
      clear b3
      generalize Yl most=R at *
      refine wk ?_
      refine Y4 (i+1) ⟨O_,hg2⟩ O_ ?_
      exact sb
     ·clear b3
      generalize Yl most=R at *
      refine wk ?_
      refine Y4 (i+1) ⟨O_,hg2⟩ O_ ?_
      exact sb
   ·have e:i=l.length:=O_
    subst e
    have eg:=Xiq hmost hgood
    have hin:=Xuv hgood
    clear hgood
    refine wk ?_
    refine X5.mkM rfl rfl rfl rfl ?_
    refine wk ?_
    have hmd:∀i,i≤l.length→(metL l i).length=i:=fun i _=>by simp [metL]
    refine PW.loop (fun i:Nat=>(((((((((((bot.setb 1000004 (jB 1000001 at_ most)).setb 1000001 (dB 1000002 1000003 D)).setb 1000002 (dC D)).setm 1000003 (dM D)).setm 9000 (.map ((metL l i).map mE) i)).put 0 (.ptr 1000004 0)).put 1 (Yo l)).put 4 (pint 0)).put 7 (.mref 9000)).put 63 (Yo l)).put 64 (pint l.length)).put 65 (pint i)) (fun i=>i≤l.length∧((l.take i).map PPut.sec).Nodup) (fun i=>l.length - i) 0 ⟨O_,S_⟩ ?_ ?_
    ·have m1:=X94 (metL l 0)
     exact sb
    ·intro i ⟨hi,hnd⟩
     by_cases hlt:i < l.length
     ·have hms:=Xb9 l i hi
      by_cases hin2:(l.getD i default).sec∈(metL l i).map (·.2)
      ·have ea:jApE N at_ most l=6:=by
        rw [eg,if_neg]
        intro hn
        have h2:l.take (i+1)=l.take i ++ [l.getD i default]:=Vj default hlt
        have h3:((l.take (i+1)).map PPut.sec).Nodup:=by
         rw [List.map_take];exact hn.sublist (List.take_sublist _ _)
        rw [h2,List.map_append,List.nodup_append] at h3
        rw [hms] at hin2
        exact h3.2.2 _ hin2 _ S_ rfl
       rw [hap 6 ea D_]
       refine wk ?_
       refine X5.lkp rfl rfl rfl rfl rfl rfl rfl rfl rfl rfl rfl (Xg4 _ _ rfl rfl) ?_
       rw [decide_eq_true hin2]
       refine wk ?_
       exact RetH.mk rfl (Weak.refl _) aw0 am0
      ·have hms2:=Xc1 l i
       have m1:=X94 (metL l (i+1))
       have hnd2:((l.take (i+1)).map PPut.sec).Nodup:=by
        rw [Vj default hlt,List.map_append,List.nodup_append]
        refine ⟨hnd,S_,fun a ha b hb=>?_⟩
        simp at hb
        subst hb
        rintro rfl
        rw [hms] at hin2
        exact hin2 (by simpa using ha)
       have hput:=Xvm (l.getD i default).sec (metL l i) (ki:=⟨1,false, .int .i64,[.val (.int .i64 0)],[]⟩) rfl hin2 i
       rw [←hms2] at hput
       refine wk ?_
       refine X5.lkp rfl rfl rfl rfl rfl rfl rfl rfl rfl rfl rfl (Xg4 _ _ rfl rfl) ?_
       rw [decide_eq_false hin2]
       refine wk ?_
       refine X5.mput rfl rfl rfl rfl rfl rfl rfl rfl rfl rfl rfl rfl hput ?_
       refine wk ?_
       refine Y4 (i+1) ⟨O_,hnd2⟩ O_ ?_
       exact sb
     ·have e:i=l.length:=O_
      subst e
      rw [List.take_length] at hnd
      have ea:jApE N at_ most l=0:=by rw [eg,if_pos hnd]
      have mq:=X94 (metL l l.length)
      by_cases hl0:l.length=0
      ·have hdd:D.applyR N at_ most l=(0,D):=by rw [DM.applyR,if_pos ea,if_neg O_]
       rw [hdd]
       refine wk ?_
       exact RetH.mk rfl (Weak.refl _) aw0 am0
      ·have hdd:D.applyR N at_ most l=D.run (K8 at_ most l):=by rw [DM.applyR,if_pos ea,if_pos O_]
       have hle:(l.length:Int)≤most:=O_
       have hrn:Yl most=1+Xg most+most:=by unfold Yl;rw [if_neg O_]
       have hnb:Xg l.length≤64∧0≤Xg l.length∧0≤Xg most:=by unfold Xg;omega
       obtain ⟨al,ai⟩:=X2c l h0 m0 m1 hN hle
       have hai:InD N (K0 at_ most l):=fun p hp=>by have:=ai p hp;omega
       obtain ⟨f1,-⟩:=GoD.run (Yg at_ (K0 at_ most l) (Y6 l)) h (Zv h0 O_ hai (Y6 l)) (by rw [V8];omega)
       rw [V8] at f1
       have harea:=Xse at_ most D l h0 O_ m0 m1 O_ O_ 1000001 1000002 1000003 1000004 D_
       have hput:=Xnx at_ most D (K0 at_ most l) 1000001 1000002 1000003 1000004 900005 900006 D_
       have hsync:=X8r at_ most D 1000001 1000002 1000003 1000004 D_
       have hdig:=Xck l O_ O_
       have hhead:=X9a at_ most D l.length (digG l) (Zu l) 1000001 1000002 1000003 1000004 900007 900008 900009 D_
       have hall:=Y0x most h at_ l.length h0 O_ O_ O_ (digG l) (Zu l) (Xd4 l) (K0 at_ most l) hai O_ O_ 1000001 1000002 1000003 1000004 900005 900006 900007 900008 900009 D_
       have hfin:=Xhf most f1 at_ h0 O_ l hin O_ O_ 1000001 1000002 1000003 1000004 D_
       have dl:=Zu l
       rw [show Xq l.length (digG l) (Zu l) (Xd4 l)=Y6 l from rfl] at hall
       rw [show ofS Yy 240 (Zr l)=digG l from rfl] at hdig
       have hap2:D.run (K8 at_ most l)=if (D.run (Yg at_ (K0 at_ most l) (Y6 l))).1=0 then (D.run (Yg at_ (K0 at_ most l) (Y6 l))).2.run (Yg at_ l Xj) else D.run (Yg at_ (K0 at_ most l) (Y6 l)):=X6b _ _ _
       have c3:=Xm (D.run (Yg at_ (K0 at_ most l) (Y6 l))).2
       have c4:=Xi (D.run (Yg at_ (K0 at_ most l) (Y6 l))).2
       rw [hdd]
       generalize D.run (K8 at_ most l)=R at *
       generalize D.run (Yg at_ (K0 at_ most l) (Y6 l))=R1 at *
       generalize R1.2.run (Yg at_ l Xj)=R2 at *
       have c5:=Xm R.2
       have c6:=Xi R.2
       generalize digG l=G at *
       generalize K0 at_ most l=A at *
       clear hdd f1 hai ai al hin hsz hrm eg hap mq hll
       by_cases hz:R1.1=0
       ·have e2:R=R2:=by rw [hap2,if_pos hz]
        clear hap2
        subst e2
        rw [hz] at hall
        refine wk ?_
        exact RetH.mk rfl (Weak.refl _) aw0 am0
       ·have e2:R=R1:=by rw [hap2,if_neg hz]
        clear hap2 hfin
        subst e2
        refine wk ?_
        exact RetH.mk rfl (Weak.refl _) aw0 am0
theorem Xnp (at_ most:Int) {N k:Nat} {D:DM} (h:GoD N k D) (h0:0≤at_) (m0:1≤most) (m1:most≤1024) (hN:at_+Yl most≤N) (hNN:N≤100000000) (l:List PPut) (hl:l.length≤100000000) (hk:k+10000≤100000000) (d c m j:Nat) (hd:([d,c,m,j]:List Nat).Nodup):Xe Tryz.prog 78 [.ptr j 0,Yo l] (jG d c m j at_ most D) (dMs m D) (pint (D.applyR N at_ most l).1) (jG d c m j at_ most (D.applyR N at_ most l).2) (dMs m (D.applyR N at_ most l).2):=by
 refine (Xuz at_ most h h0 m0 m1 hN hNN l hl hk).at (ids4 d c m j) hd (by simp [X0,jG,dG,dMs,ids4]) (by simp [jG,dG]) (by simp [dMs]) ?_ ?_ ?_ ?_ ?_ ?_<;>exact ren0
end
section
open Go.RowKit
variable {N k:Nat} {at_ most:Int} {D:DM} {M:List Sec} {l:List PPut}
theorem JInv.base (h:JInv N k at_ most D M):JInv N k at_ most D.base M:=by
 have hr:∀q,D.base.read q=D.read q:=X25 h.ok.dead
 refine ⟨h.ok.base,h.op,h.len,?_,fun q hq ho=>by rw [hr];exact h.out q hq ho⟩
 unfold Vx
 rw [hr];exact h.head
theorem S1.base (h:S1 N k at_ most D M l):S1 N k at_ most D.base M l:=by
 have hr:∀q,D.base.read q=D.read q:=X25 h.ok.dead
 exact ⟨h.ok.base,h.op,h.len,by rw [hr];exact h.head,fun p hp=>by rw [hr];exact h.area p hp,fun q hq ho hn=>by rw [hr];exact h.out q hq ho hn⟩
def Aft (N:Nat) (at_ most:Int) (M:List Sec) (l:List PPut) (D:DM):Prop:=JInv N 0 at_ most D M∨(S1 N 0 at_ most D M l∧0 < l.length∧jApE N at_ most l=0)∨JInv N 0 at_ most D (doM M l)
theorem Aft.ok (h:Aft N at_ most M l D):OkD N 0 D:=by rcases h with h|⟨h,-⟩|h<;>exact h.ok
def recO (D:DM) (at_:Int) (l:List PPut):List DOp:=if (D.read at_).2=221 then X5l at_ else if (D.read at_).1.1.getD 0 0=0∧(D.read at_).1.1.getD 1 0=0 then [] else Yg at_ l Xj
def DM.recov (D:DM) (at_:Int) (l:List PPut):Int×DM:=D.run (recO D at_ l)
theorem Y0y (h:Vx D at_):recO D at_ l=X5l at_∨recO D at_ l = []:=by
 unfold recO
 by_cases c:(D.read at_).2=221
 ·rw [if_pos c];exact .inl rfl
 ·rw [if_neg c]
  rcases h with h|⟨-,h1,h2⟩
  ·exact absurd (by rw [h]) c
  ·rw [if_pos ⟨h1,h2⟩];exact .inr rfl
theorem Xvz (h:S1 N k at_ most D M l) (hl0:0 < l.length) (hlm:l.length≤1024):recO D at_ l=Yg at_ l Xj:=by
 obtain ⟨s,hr,ht⟩:=h.head
 obtain ⟨b0,b1,-⟩:=Xem ht hlm
 have hor:=Xit l.length O_ 1 D_
 rw [Xni _ hlm] at hor
 unfold recO
 rw [hr,if_neg (show ¬((0:Int)=221) by decide)]
 simp only
 rw [b0,b1,if_neg]
 rintro ⟨z0,z1⟩
 rw [z0,z1] at hor
 omega
theorem Xn7 (D:DM) (hl:l.length≤1024):(recO D at_ l).length≤1027:=by
 unfold recO
 split
 ·simp [X5l]
 ·split
  ·simp
  ·rw [V8];omega
theorem Xyi (h0:0≤at_) (h1:at_ < N):∀o∈X5l at_,o.inD N:=by
 intro o ho
 simp only [X5l,List.mem_cons,List.not_mem_nil,or_false] at ho
 rcases ho with rfl|rfl
 ·exact ⟨h0,h1⟩
 ·show 0 < N;omega
theorem Xv8 (hb:Vs N at_ most=true) (hin:InD N l):∀o∈recO D at_ l,o.inD N:=by
 obtain ⟨m0,m1,h0,hN,hr,hrn,hat⟩:=Kh hb
 unfold recO
 split
 ·exact Xyi h0 hat
 ·split
  ·intro o ho;simp at ho
  ·exact Zv h0 hat hin _
def DM.arm (D:DM) (n:Int):DM:={ D with after:=maxI n (-1) }
theorem OkD.arm (h:OkD N k D) {n:Int} (hn:n≤1000000):GoD N k (D.arm n):=⟨h.base,h.steps,by show -1≤maxI n (-1)∧maxI n (-1)≤1000000;unfold maxI;split<;>omega⟩
theorem JInv.applyR {k:Nat} (h:JInv N k at_ most D.base M) (hg:GoD N k D) (hb:Vs N at_ most=true) (he:jApE N at_ most l=0) (hk:k+20000≤100000000) :
  GoD N (k+5000) (D.applyR N at_ most l).2∧(((D.applyR N at_ most l).1=0∧(D.applyR N at_ most l).2.dead=D.dead∧JInv N (k+5000) at_ most (D.applyR N at_ most l).2.base (doM M l)) ∨
   ((D.applyR N at_ most l).1=220∧∀keep,Aft N at_ most M l ((D.applyR N at_ most l).2.crash keep))):=by
 obtain ⟨m0,m1,h0,hN,hr,hrn,hat⟩:=Kh hb
 obtain ⟨e1,e2⟩:=Zn he
 by_cases hl0:0 < l.length
 ·have e:D.applyR N at_ most l=D.run (K8 at_ most l):=by rw [DM.applyR,if_pos he,if_pos hl0]
  rw [e]
  obtain ⟨al,ai⟩:=X2c l h0 m0 m1 hN e1
  have hnb:Xg l.length≤64∧0≤Xg l.length:=by unfold Xg;omega
  have hai:InD N (K0 at_ most l):=fun p hp=>by have:=ai p hp;omega
  have hin:InD N l:=fun p hp=>by have:=e2 p hp;omega
  have hlen:(K8 at_ most l).length≤5000:=by rw [K8,A_,V8,V8];omega
  have hio:∀o∈K8 at_ most l,o.inD N:=fun o ho=>by
   rcases List.mem_append.1 ho with ho|ho
   ·exact Zv h0 hat hai _ o ho
   ·exact Zv h0 hat hin _ o ho
  obtain ⟨g,r⟩:=GoD.run (K8 at_ most l) hg hio O_
  refine ⟨g.mono O_,?_⟩
  rcases r with ⟨r1,r2,r3⟩|⟨r1,r2,m,hm,r3⟩
  ·exact .inl ⟨r1,r2,by rw [r3];exact h.apply_all hb he O_⟩
  ·refine .inr ⟨r1,fun keep=>?_⟩
   rw [←X5s,r3]
   rcases h.apply_crash hb he O_ m keep with x|x|x
   ·exact .inl x
   ·exact .inr (.inl ⟨x,hl0,he⟩)
   ·exact .inr (.inr x)
 ·have hl:l = []:=List.eq_nil_of_length_eq_zero O_
  subst hl
  have e:D.applyR N at_ most []=(0,D):=by rw [DM.applyR,if_pos he,if_neg S_]
  rw [e]
  exact ⟨hg.mono O_, .inl ⟨rfl,rfl,h.mono O_⟩⟩
end
section
open Go.RowKit
theorem Y0t (z:Int):accB z 0=0:=by unfold accB;omega
theorem Xkv (D:DM) (at_ x y:Int) (ha:0≤at_∧at_≤1000000000) (hsz:D.cells.length≤1000000000) (hop:∀e∈D.op,e.2.2.length≤1000000000) (hx:0≤x∧x < 4611686018427387904) (hy:0≤y∧y < 4611686018427387904) (hr:D.read (at_+14)=(Vc x y,0)) :
  Xe Tryz.prog 40 [X00 1000001 1000004 at_] (jG 1000001 1000002 1000003 1000004 at_ 12 D) (dMs 1000003 D) (.tup [pint x,pint y,pint 0]) (jG 1000001 1000002 1000003 1000004 at_ 12 D) (dMs 1000003 D):=by
 have c1:=Xm D
 have c2:=Xi D
 have kh:=Xfj D at_ ha 1000001 1000002 1000003 1000004 D_
 have kr:=X9o D (at_+14) hsz hop 1000001 1000002 1000003 D_
 rw [hr] at kr
 simp only at kr
 have hsl:=Zc (Vc x y)
 refine X44 Tryz.func40 rfl rfl (X9 (Ze D_ D_ _) Y2) (by simp [X00,PV.ownB]) N_ (Km.2 (by simp [Xo])).lowI ?_
 have gx:∀e,e < 8→(secL (Vc x y))[e]? = some (Xh (Z1 x e)):=fun e he=>by rw [X1b _ _ O_,Xzm x y he]
 have gy:∀e,e < 8→(secL (Vc x y))[8+e]? = some (Xh (Z1 y e)):=fun e he=>by rw [X1b _ _ O_,Xxi x y he]
 clear hr hop
 generalize Vc x y=s at *
 refine wk ?_
 refine PW.loop (fun k:Nat=>bot.setb 1000004 (jB 1000001 at_ 12) |>.setb 1000001 (dB 1000002 1000003 D) |>.setb 1000002 (dC D) |>.setm 1000003 (dM D) |>.setb 1008 (secL s) |>.put 2 (pint (accB x k)) |>.put 3 (pint (accB y k)) |>.put 5 (.ptr 1008 0) |>.put 18 (pint k)) (fun k=>k≤8) (fun k=>8 - k) 0 O_ ?_ ?_
 ·rw [Y0t,Y0t]
  exact sb
 ·intro k hk
  by_cases hlt:k < 8
  ·have hcx:=gx k hlt
   have hcy:=gy k hlt
   have hbx:=X6x x k
   have hby:=X6x y k
   have s1:=Xeb x hx.1 hx.2 k hlt
   have s2:=Xeb y hy.1 hy.2 k hlt
   have o1:=Xnb x hx.1 hx.2 k hlt
   have o2:=Xnb y hy.1 hy.2 k hlt
   clear gx gy
   generalize hax:accB x (k+1)=ax2 at *
   generalize hay:accB y (k+1)=ay2 at *
   generalize accB x k=ax at *
   generalize accB y k=ay at *
   generalize Z1 x k=bx at *
   generalize Z1 y k=by_ at *
   refine wk ?_
   refine X5.ldB rfl rfl rfl rfl rfl rfl rfl rfl hcx rfl ?_
   clear hcx
   obtain ⟨b0,b1⟩:=hbx
   refine wk ?_
   rw [s1]
   rw [show IntKind.i64.wrap ((BitVec.ofInt IntKind.i64.bits ax ||| BitVec.ofInt IntKind.i64.bits (bx * ((2 ^ (8 * k):Nat):Int))).toNat:Nat)=ax2 from o1]
   refine wk ?_
   refine X5.ldB rfl rfl rfl rfl rfl rfl rfl rfl hcy rfl ?_
   clear hcy
   obtain ⟨b2,b3⟩:=hby
   refine wk ?_
   rw [s2]
   rw [show IntKind.i64.wrap ((BitVec.ofInt IntKind.i64.bits ay ||| BitVec.ofInt IntKind.i64.bits (by_ * ((2 ^ (8 * k):Nat):Int))).toNat:Nat)=ay2 from o2]
   refine wk ?_
   refine Y4 (k+1) O_ O_ ?_
   rw [hax,hay]
   exact sb
  ·obtain rfl:k=8:=O_
   rw [Y0v x hx.1 hx.2,Y0v y hy.1 hy.2]
   refine wk ?_
   exact RetH.mk rfl (Weak.refl _) aw0 am0
theorem Xjq (D:DM) (at_ n:Nat) (s:ByteArray) (ha:at_≤1000000000) (hn:n≤1000000000) (hs:s.size≤240) (d c m j:Nat) (hd:([d,c,m,j]:List Nat).Nodup) :
  Xe Tryz.prog 45 [X00 d j at_,pint n,pstr s] (jG d c m j at_ 12 D) (dMs m D) (ppO (Ya at_ n (Zs s hs))) (jG d c m j at_ 12 D) (dMs m D):=
 Xkb (Xqd D at_ n s ha hn hs) (by simp [Xo,Y0]) (X4c _) d c m j hd
theorem Xeg (D:DM) (at_ x y:Int) (ha:0≤at_∧at_≤1000000000) (hsz:D.cells.length≤1000000000) (hop:∀e∈D.op,e.2.2.length≤1000000000) (hx:0≤x∧x < 4611686018427387904) (hy:0≤y∧y < 4611686018427387904) (hr:D.read (at_+14)=(Vc x y,0)) (d c m j:Nat) (hd:([d,c,m,j]:List Nat).Nodup) :
  Xe Tryz.prog 40 [X00 d j at_] (jG d c m j at_ 12 D) (dMs m D) (.tup [pint x,pint y,pint 0]) (jG d c m j at_ 12 D) (dMs m D):=
 Xkb (Xkv D at_ x y ha hsz hop hx hy hr) S_ (Km.2 (by simp [Xo])) d c m j hd
theorem Y7n (b:Body):(nR b).flatMap secL=(X6y b).map Xh:=by
 rw [←Xjl]
 simp [nR,secL,List.flatMap_cons]
theorem Xyr (D:DM) (at_ n:Nat) (b:Body) (ha:at_≤1000000000) (hn:n≤1000000000) (hsz:D.cells.length≤1000000000) (hop:∀e∈D.op,e.2.2.length≤1000000000) (hr:∀k:Nat,k < 4→D.read ((at_:Int)+15+(n:Int) % 64 * 4+k)=(Ve b k,0)) :
  Xe Tryz.prog 61 [X00 1000001 1000004 at_,pint n] (jG 1000001 1000002 1000003 1000004 at_ 12 D) (dMs 1000003 D) (.tup [pstr (strI b.1),pint 0]) (jG 1000001 1000002 1000003 1000004 at_ 12 D) (dMs 1000003 D):=by
 have c1:=Xm D
 have c2:=Xi D
 have ks:=Xw0 D at_ n O_ hn 1000001 1000002 1000003 1000004 D_
 refine X44 Tryz.func61 rfl rfl (X9 (Ze D_ D_ _) (X9 (.val _) Y2)) (by simp [X00,pint,PV.ownB]) N_ (Km.2 (by simp [Xo,Y0])).lowI ?_
 have hlow:∀(k:Nat) (o:Option TypeId),Low (.sl (64 * k) 1 (((nR b).take k).flatMap secL) o):=fun k o=>.sl _ _ _ _ (V9 Zc _)
 refine wk ?_
 refine PW.loop (fun k:Nat=>bot.setb 1000004 (jB 1000001 at_ 12) |>.setb 1000001 (dB 1000002 1000003 D) |>.setb 1000002 (dC D) |>.setm 1000003 (dM D) |>.setb 0 [.ptr 1000001 0, .ptr 1000004 0,pint at_] |>.put 1 (pint n) |>.put 2 (.ptr 0 0) |>.put 6 (.sl (64 * k) 1 (((nR b).take k).flatMap secL) (some 5)) |>.put 10 (pint k)) (fun k=>k≤4) (fun k=>4 - k) 0 O_ ?_ ?_
 ·exact sb
 ·intro k hk
  by_cases hlt:k < 4
  ·have hrd:=X9o D ((at_:Int)+15+(n:Int) % 64 * 4+k) hsz hop 1000001 1000002 1000003 D_
   rw [hr k hlt] at hrd
   simp only at hrd
   have hS:(((secL (Ve b k)).drop (0+0 * 1)).take ((64 - 0) * 1)).map PV.bare=secL (Ve b k):=by
    rw [List.drop_zero,H_ (by rw [Xl];omega),Xt]
   have hlS:=Xl (Ve b k)
   have hsl:=Zc (Ve b k)
   have e6:PV.sl (64 * (k+1)) 1 (((nR b).take (k+1)).flatMap secL) (some 5) = .sl (64 * k+(64 - 0)) 1 (((nR b).take k).flatMap secL ++ secL (Ve b k)) (some 5):=by
    have:(nR b)[k]? = some (Ve b k):=by
     have h4:k=0∨k=1∨k=2∨k=3:=O_
     rcases h4 with rfl|rfl|rfl|rfl<;>rfl
    rw [List.take_add_one,this]
    simp only [List.flatMap_append,Option.toList_some,List.flatMap_cons,List.flatMap_nil,List.append_nil]
    congr 1
   have q1:=hlow (k+1) (some 5)
   rw [e6] at q1
   clear hr
   refine wk ?_
   refine X5.appM X6 rfl (fun _ _=>rfl) rfl rfl rfl rfl rfl rfl rfl rfl (by show 0+0 * 1+(64 - 0) * 1≤(secL (Ve b k)).length;omega) hS rfl O_ O_ ?_
   refine wk ?_
   refine Y4 (k+1) O_ O_ ?_
   try dsimp only
   rw [e6]
   exact sb
  ·obtain rfl:k=4:=O_
   have e7:PV.sl (64 * 4) 1 (((nR b).take 4).flatMap secL) (some 5) = .sl 256 1 ((X6y b).map Xh) (some 5):=by
    rw [←Y7n];rfl
   rw [e7]
   have l9:Low (.sl 256 1 ((X6y b).map Xh) (some 5)):=.sl _ _ _ _ (Kx (fun _=>Low.val _) _)
   have hb:=b.2.1
   have e8:(X6y b).getD 0 default=(b.1.length:Int):=rfl
   have e9:=Xrs b
   have hnl:=Xc9 b
   clear hr e7
   refine wk ?_
   rw [show (1+(b.1.length:Int)).toNat - Int.toNat 1=b.1.length by omega,show Int.toNat 1=1 from rfl,e9]
   exact RetH.mk rfl (Weak.refl _) aw0 am0
theorem Y3t (D:DM) (at_ n:Nat) (b:Body) (ha:at_≤1000000000) (hn:n≤1000000000) (hsz:D.cells.length≤1000000000) (hop:∀e∈D.op,e.2.2.length≤1000000000) (hr:∀k:Nat,k < 4→D.read ((at_:Int)+15+(n:Int) % 64 * 4+k)=(Ve b k,0)) (d c m j:Nat) (hd:([d,c,m,j]:List Nat).Nodup) :
  Xe Tryz.prog 61 [X00 d j at_,pint n] (jG d c m j at_ 12 D) (dMs m D) (.tup [pstr (strI b.1),pint 0]) (jG d c m j at_ 12 D) (dMs m D):=
 Xkb (Xyr D at_ n b ha hn hsz hop hr) (by simp [Xo]) (Km.2 (by simp [Xo,Y0])) d c m j hd
end
end Go.Proofs.YtmciloafahkolaaGreatDoor
