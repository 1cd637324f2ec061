/- Out of: Wire3. -/
import Derived.Test.YtmeekbjhpidcgaaGreatDoorG5
import Derived.Test.YtmeekbjhpidcgaaGreatDoorG7
namespace Go.Proofs.YtmeekbjhpidcgaaGreatDoor
set_option linter.unusedSimpArgs false
set_option linter.unusedVariables false
set_option linter.unnecessarySimpa false
section
open Go.RowKit
set_option maxRecDepth 100000 in
set_option maxHeartbeats 1000000 in
theorem refGetInt (v:Value) (bs:List Int) (w:World) (hv:Bytes w v bs) (hby:Byte bs):Calls Tryz.prog 75 #[v] w (Ret3 w (getI bs)):=by
 obtain ⟨a,cap,b,off,rfl,hcap,hm,ha,hc⟩:=hv.open
 unfold maxLen at hm
 have HBY:=Hid.mk hby
 clear hby
 go_enter Tryz.func75,Tryz.ntmps75
 go_wp2
 go_loop [5] (fun i=>∃(k:Nat),k≤10∧k≤bs.length∧i = .int .i64 k∧Hid (∀(j:Nat) (c:Int),j < k→bs[j]? = some c→128≤c)) (fun i=>bs.length - (intOf i).toNat)
 case atStart=>exact ⟨0,by omega,by omega,rfl,fun j c h=>absurd h (by omega)⟩
 case round=>
  obtain ⟨k,hk10,hk,rfl,hall⟩:=hrel
  by_cases g1:k < bs.length
  ·obtain ⟨c,hcc⟩:=ints_get bs k g1
   have c1:=hc.out k c hcc
   obtain ⟨y1,y2⟩:=HBY.out k c hcc
   obtain rfl:=ha (by omega)
   by_cases g2:k < 10
   ·by_cases g3:128≤c
    ·have N:Hid (∀(j:Nat) (c:Int),j < k+1→bs[j]? = some c→128≤c):=by
      intro j d hj hd
      by_cases e:j=k
      ·subst e;rw [hcc] at hd;cases hd;exact g3
      ·exact hall.out j d (by omega) hd
     clear hcc ha
     go_wp2
     go_round
     case rel=>exact ⟨k+1,by omega,by omega,by go_num,N⟩
     case measure=>simp [intOf];omega
    ·have g3' : decide (128≤c)=false:=by simpa using g3
     have gk10:((k:Int) == 10)=false:=by simp;omega
     have gkl:((k:Int) == (bs.length:Int))=false:=by simp;omega
     by_cases bad:(k=9∧1 < c)∨(0 < k∧c=0)
     ·have B:=Hid.mk (getI_bad bs k c (by omega) hall.out hcc bad)
      clear hcc ha
      rcases bad with ⟨rfl,bad⟩|⟨bad,rfl⟩
      ·go_wp2
       go_ret3
       exact Ret3.mk B.out (Still.refl _)
      ·have b1:decide ((1:Int) < 0)=false:=rfl
       cases g9:((k:Int) == 9)
       all_goals
        go_wp2
        go_ret3
        exact Ret3.mk B.out (Still.refl _)
     ·have GD:=Hid.mk (getI_good bs k c (by omega) hall.out hcc bad (by omega))
      have FITS:Hid (∀i,i≤k+1→0≤val ((bs.take (k+1)).drop i)∧val ((bs.take (k+1)).drop i) < 18446744073709551616):=fun i hi=>val_fits bs k i c hcc (by omega) hi (by omega) y1
      have d1:Hid (((k:Int) == 9)=true→decide (1 < c)=false):=fun h=>by simp at h ⊢; omega
      have d2:Hid (decide (0 < k)=true→(c == 0)=false):=fun h=>by simp at h ⊢; omega
      have V0:Hid (val ((bs.take (k+1)).drop (k+1))=0):=by rw [Hid,List.drop_eq_nil_of_le (by simp;omega)];rfl
      clear hcc ha bad
      cases g9:((k:Int) == 9)
      all_goals cases gk:decide (0 < k)
      all_goals try have d1':=d1.out g9
      all_goals try have d2':=d2.out gk
      all_goals clear d1 d2
      all_goals
       go_wp2
       go_loop [6,7] (fun z i=>∃(m:Nat),m≤k+1∧i = .int .i64 ((m:Int) - 1)∧z = .int .u64 (val ((bs.take (k+1)).drop m))) (fun _ i=>(intOf i+1).toNat)
       case atStart=>exact ⟨k+1,by omega,by go_num,by rw [V0.out]⟩
       case round=>
        obtain ⟨m,hm1,rfl,rfl⟩:=hrel
        obtain ⟨f1,f2⟩:=FITS.out m hm1
        by_cases gm:0 < m
        ·obtain ⟨d,hd⟩:=ints_get bs (m-1) (by omega)
         have c2:=hc.out (m-1) d hd
         obtain ⟨y3,y4⟩:=HBY.out (m-1) d hd
         obtain ⟨f3,f4⟩:=FITS.out (m-1) (by omega)
         have VS:=Hid.mk (val_step bs k (m-1) d (by omega) hd)
         rw [show m - 1+1=m by omega] at VS
         have vb:val ((bs.take (k+1)).drop m) * 128+d % 128 < 18446744073709551616:=by rw [VS.out] at f4;omega
         clear hd f3 f4
         go_wp2
         go_round
         case rel=>exact ⟨m - 1,by omega,by go_num,by rw [VS.out];go_num⟩
         case measure=>simp [intOf];omega
        ·obtain rfl:m=0:=by omega
         have e0:(bs.take (k+1)).drop 0=bs.take (k+1):=rfl
         rw [e0] at f1 f2 ⊢
         clear e0
         have GD':=GD
         generalize val (bs.take (k+1))=z' at f1 f2 GD' ⊢
         by_cases gz:z' % 2=1
         ·have gz' : (z' % 2 == 1)=true:=by simpa using gz
          go_wp2
          all_goals go_ret3
          all_goals refine Ret3.mk ?_ (Still.refl _)
          all_goals rw [GD'.out]
          all_goals congr 1
          all_goals unfold unzig
          all_goals split<;>omega
         have gz' : (z' % 2 == 1)=false:=by simpa using gz
         go_wp2
         all_goals go_ret3
         all_goals refine Ret3.mk ?_ (Still.refl _)
         all_goals rw [GD'.out]
         all_goals congr 1
         all_goals unfold unzig
         all_goals split<;>omega
   ·have hk' : k=10:=by omega
    obtain rfl:=hk'
    have B:=Hid.mk (getI_ten bs hall.out hk)
    clear hcc ha
    go_wp2
    go_ret3
    exact Ret3.mk B.out (Still.refl _)
  ·by_cases g10:k=10
   ·obtain rfl:=g10
    have B:=Hid.mk (getI_ten bs hall.out hk)
    go_wp2
    go_ret3
    exact Ret3.mk B.out (Still.refl _)
   ·have gk10:((k:Int) == 10)=false:=by simp;omega
    have gkl:((k:Int) == (bs.length:Int))=true:=by simp;omega
    have B:=Hid.mk (getI_short bs k (by omega) hall.out (by omega))
    go_wp2
    go_ret3
    exact Ret3.mk B.out (Still.refl _)
end
end Go.Proofs.YtmeekbjhpidcgaaGreatDoor
