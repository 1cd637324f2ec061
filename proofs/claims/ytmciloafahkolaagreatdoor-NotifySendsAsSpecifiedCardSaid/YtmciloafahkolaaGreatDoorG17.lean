/- Out of: Ni. -/
import Derived.Test.YtmciloafahkolaaGreatDoorG16
namespace Go.Proofs.YtmciloafahkolaaGreatDoor
set_option maxRecDepth 100000
set_option maxHeartbeats 40000000
set_option linter.unusedSimpArgs false
set_option linter.unusedVariables false
set_option linter.unnecessarySimpa false
section
open Go.RowKit
def Zs (s:ByteArray) (h:s.size≤240):Body:=⟨X0k s,by rw [X18];exact h,Xdj s⟩
def ppO (l:List PPut):PV:=.sl l.length 65 (l.flatMap putL) (some 134)
theorem X4c (l:List PPut):Low (ppO l):=.sl _ _ _ _ (V9 Vp l)
def ppA (l:List PPut):Nat→PV
 |0=>.nilsl
 |k+1=>.sl (k+1) 65 ((l.take (k+1)).flatMap putL) (some 134)
theorem Y29 (l:List PPut):∀k,Low (ppA l k)
 |0=>.nilsl
 |k+1=>.sl _ _ _ _ (V9 Vp _)
theorem Xb6 {l:List PPut} {k:Nat} {p:PPut} (h:l[k]? = some p):ppA l (k+1) = .sl (k+1) 65 ((l.take k).flatMap putL ++ putL p) (some 134):=by
 rw [ppA,List.take_add_one,h]
 simp [List.flatMap_append]
def nR (b:Body):List Sec := [Ve b 0,Ve b 1,Ve b 2,Ve b 3]
theorem Xuk (s:ByteArray) (h:s.size≤240):Y5 (Xh (IntKind.u8.wrap s.size) :: List.replicate 255 (Xh 0)) (0+1 * 1) (((X0k s).map Xh).take (min s.size 255 * 1))=(nR (Zs s h)).flatMap secL:=by
 have e1:(nR (Zs s h)).flatMap secL=(X6y (Zs s h)).map Xh:=by
  rw [←Xjl]
  simp [nR,secL,List.flatMap_cons]
 have hb:(Zs s h).1=X0k s:=rfl
 have hl:=X18 s
 have e2:IntKind.u8.wrap (s.size:Int)=(s.size:Int):=by show (s.size:Int) % 256=_;omega
 rw [e1,X6y,hb,hl,e2,H_ (by rw [List.length_map,hl];omega)]
 unfold Y5
 rw [List.length_map,hl,List.map_cons,List.map_append,List.map_replicate]
 show [Xh s.size] ++ (X0k s).map Xh ++ _=_
 rw [show 0+1 * 1+s.size=s.size+1 by omega,List.drop_succ_cons,List.drop_replicate]
 rfl
theorem Xqd (D:DM) (at_ n:Nat) (s:ByteArray) (ha:at_≤1000000000) (hn:n≤1000000000) (hs:s.size≤240) :
  Xe Tryz.prog 45 [X00 1000001 1000004 at_,pint n,pstr s] (jG 1000001 1000002 1000003 1000004 at_ 12 D) (dMs 1000003 D) (ppO (Ya at_ n (Zs s hs))) (jG 1000001 1000002 1000003 1000004 at_ 12 D) (dMs 1000003 D):=by
 have c1:=Xm D
 have c2:=Xi D
 have ks:=Xw0 D at_ n O_ hn 1000001 1000002 1000003 1000004 D_
 refine X44 Tryz.func45 rfl rfl (X9 (Ze D_ D_ _) (X9 (.val _) (X9 (.val _) Y2))) (by simp [X00,pint,pstr,PV.ownB]) N_ ((X4c _).lowI) ?_
 have hcs:(s.data.toList.map fun x=>(.val (.int .u8 (x.toNat:Int)):PV))=(X0k s).map Xh:=by simp [X0k,Xh]
 have hfill:=Xuk s hs
 generalize Zs s hs=b at *
 refine wk ?_
 refine X5.slcMs rfl rfl rfl rfl rfl rfl rfl rfl rfl ?_
 (refine ops0 ?_)
 refine X5.copy (out:=(nR b).flatMap secL) rfl rfl rfl rfl rfl rfl rfl rfl rfl ?_ ?_ ?_ ?_
 ·show 0+1 * 1+min s.size 255 * 1≤256
  omega
 ·rw [List.length_map,Array.length_toList]
  show min s.size 255 * 1≤s.size
  omega
 ·rw [hcs]
  exact hfill
 refine wk ?_
 have ez:∀j:Nat,((slS at_ n j:Nat):Int)=(at_:Int)+15+(n:Int) % 64 * 4+(j:Int):=by intro j;unfold slS;omega
 have hL:Ya at_ n b = [⟨(at_:Int)+15+(n:Int) % 64 * 4+((0:Nat):Int),Ve b 0⟩,⟨(at_:Int)+15+(n:Int) % 64 * 4+((1:Nat):Int),Ve b 1⟩,⟨(at_:Int)+15+(n:Int) % 64 * 4+((2:Nat):Int),Ve b 2⟩,⟨(at_:Int)+15+(n:Int) % 64 * 4+((3:Nat):Int),Ve b 3⟩]:=by
  rw [←ez 0,←ez 1,←ez 2,←ez 3];rfl
 clear ez
 generalize Ya at_ n b=L at *
 have hlow:=Y29 (L)
 have hrow:∀c∈(nR b).flatMap secL,Low c:=V9 Zc _
 refine PW.loop (fun k:Nat=>bot.setb 1000004 (jB 1000001 at_ 12) |>.setb 1000001 (dB 1000002 1000003 D) |>.setb 1000002 (dC D) |>.setm 1000003 (dM D) |>.setb 0 [.ptr 1000001 0, .ptr 1000004 0,pint at_] |>.setb 1000 ((nR b).flatMap secL) |>.put 1 (pint n) |>.put 3 (.ptr 0 0) |>.put 7 (.msl 1000 0 256 1) |>.put 8 (ppA (L) k) |>.put 20 (pint k)) (fun k=>k≤4) (fun k=>4 - k) 0 O_ ?_ ?_
 ·exact sb
 ·intro k hk
  by_cases hlt:k < 4
  ·have h4:k=0∨k=1∨k=2∨k=3:=O_
   rcases h4 with rfl|rfl|rfl|rfl
   ·have hp:L[0]? = some ⟨(at_:Int)+15+(n:Int) % 64 * 4+((0:Nat):Int),Ve b 0⟩:=by rw [hL];rfl
    have hq:=Xb6 hp
    have q1:=hlow 1
    rw [hq] at q1
    clear hL hp
    refine wk ?_
    refine X5.slcMs rfl rfl rfl rfl rfl rfl rfl rfl rfl ?_
    refine wk ?_
    refine X5.ldBR (j:=0) (k:=64) (l:=nR b) (f:=secL) (row:=secL (Ve b 0)) rfl rfl rfl rfl rfl rfl rfl Xl (show 0 < 4 by decide) (Xt _) ?_
    refine X5.bld2 (out:=putL ⟨(at_:Int)+15+(n:Int) % 64 * 4+((0:Nat):Int),Ve b 0⟩) rfl rfl rfl rfl rfl rfl rfl rfl (X4l _ _) ?_
    refine wk ?_
    refine Y4 1 O_ O_ ?_
    try dsimp only
    rw [hq]
    exact sb
   ·have hp:L[1]? = some ⟨(at_:Int)+15+(n:Int) % 64 * 4+((1:Nat):Int),Ve b 1⟩:=by rw [hL];rfl
    have hq:=Xb6 hp
    have q1:=hlow 2
    rw [hq] at q1
    clear hL hp
    refine wk ?_
    refine X5.slcMs rfl rfl rfl rfl rfl rfl rfl rfl rfl ?_
    refine wk ?_
    refine X5.ldBR (j:=1) (k:=64) (l:=nR b) (f:=secL) (row:=secL (Ve b 1)) rfl rfl rfl rfl rfl rfl rfl Xl (show 1 < 4 by decide) (Xt _) ?_
    refine X5.bld2 (out:=putL ⟨(at_:Int)+15+(n:Int) % 64 * 4+((1:Nat):Int),Ve b 1⟩) rfl rfl rfl rfl rfl rfl rfl rfl (X4l _ _) ?_
    refine wk ?_
    refine Y4 2 O_ O_ ?_
    try dsimp only
    rw [hq]
    exact sb
   ·have hp:L[2]? = some ⟨(at_:Int)+15+(n:Int) % 64 * 4+((2:Nat):Int),Ve b 2⟩:=by rw [hL];rfl
    have hq:=Xb6 hp
    have q1:=hlow 3
    rw [hq] at q1
    clear hL hp
    refine wk ?_
    refine X5.slcMs rfl rfl rfl rfl rfl rfl rfl rfl rfl ?_
    refine wk ?_
    refine X5.ldBR (j:=2) (k:=64) (l:=nR b) (f:=secL) (row:=secL (Ve b 2)) rfl rfl rfl rfl rfl rfl rfl Xl (show 2 < 4 by decide) (Xt _) ?_
    refine X5.bld2 (out:=putL ⟨(at_:Int)+15+(n:Int) % 64 * 4+((2:Nat):Int),Ve b 2⟩) rfl rfl rfl rfl rfl rfl rfl rfl (X4l _ _) ?_
    refine wk ?_
    refine Y4 3 O_ O_ ?_
    try dsimp only
    rw [hq]
    exact sb
   ·have hp:L[3]? = some ⟨(at_:Int)+15+(n:Int) % 64 * 4+((3:Nat):Int),Ve b 3⟩:=by rw [hL];rfl
    have hq:=Xb6 hp
    have q1:=hlow 4
    rw [hq] at q1
    clear hL hp
    refine wk ?_
    refine X5.slcMs rfl rfl rfl rfl rfl rfl rfl rfl rfl ?_
    refine wk ?_
    refine X5.ldBR (j:=3) (k:=64) (l:=nR b) (f:=secL) (row:=secL (Ve b 3)) rfl rfl rfl rfl rfl rfl rfl Xl (show 3 < 4 by decide) (Xt _) ?_
    refine X5.bld2 (out:=putL ⟨(at_:Int)+15+(n:Int) % 64 * 4+((3:Nat):Int),Ve b 3⟩) rfl rfl rfl rfl rfl rfl rfl rfl (X4l _ _) ?_
    refine wk ?_
    refine Y4 4 O_ O_ ?_
    try dsimp only
    rw [hq]
    exact sb
  ·obtain rfl:k=4:=O_
   have e4:ppA (L) 4=ppO (L):=by rw [hL];rfl
   rw [e4]
   have l4:=X4c (L)
   clear hL
   unfold ppO
   refine wg ?_
   refine PW.region X6 K_ ?_
   refine wg ?_
   refine PW.region X6 K_ ?_
   refine X5.takeO rfl (fun _ _=>rfl) rfl rfl rfl ?_
   refine wk ?_
   exact RetH.mk rfl (Weak.refl _) aw0 am0
end
end Go.Proofs.YtmciloafahkolaaGreatDoor
