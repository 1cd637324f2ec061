/- Out of: Ny. -/
import Derived.Test.YtmciloafahkolaaGreatDoorG22
namespace Go.Proofs.YtmciloafahkolaaGreatDoor
set_option maxRecDepth 100000
set_option maxHeartbeats 40000000
set_option linter.unusedSimpArgs false
set_option linter.unusedVariables false
set_option linter.unnecessarySimpa false
section
open Go.RowKit
theorem Xdy (o:POut) (h:Zm o) (most:Int) (hm:most < 0):Xs Tryz.prog 48 [pout o,pint most] (· = .tup [.nilsl,pint 1]):=by
 have hlo:=X0d o
 have k1:=X4i o h
 clear h
 refine Xd X6 Tryz.func48 rfl K_ (by simp [Xo,Xx,Y0,Xy,Xw,Xb,X0b]) (by simp [pint,Kd,pstr,Y1,Xr,Yp,PV.ownB,pout]) (by rw [Tryz.ntmps48];simp) ?_
 rw [Tryz.ntmps48,Tryz.results48]
 refine wk ?_
 exact retP rfl (Km.2 (by simp [Low.nilsl,Low.val])) rfl
theorem Xkw (D:DM) (at_:Int) (o:POut) (h:Zm o) (most:Int) (hm:most < 0):Xe Tryz.prog 18 [.ptr 1000005 0,pint most] (sG 1000005 1000001 1000002 1000003 1000004 at_ o D) (dMs 1000003 D) (.tup [.nilsl,pint 1]) (sG 1000005 1000001 1000002 1000003 1000004 at_ o D) (dMs 1000003 D):=by
 have k:=Xdy o h most hm
 refine X0f Tryz.func18 rfl rfl (X9 (.ptr _ _ D_) (X9 (.val _) Y2)) (by simp [pint,PV.ownB]) N_ (.tup _ (X9 .nilsl (X9 (.val _) Y2))) ?_
 refine wk ?_
 exact RetH.mk rfl (Weak.refl _) aw0 am0
theorem Xph (D:DM) (at_:Int) (o:POut) (h:Zm o) (most:Int) (hm:most < 0) (s d c m j:Nat) (hd:([s,d,c,m,j]:List Nat).Nodup):Xe Tryz.prog 18 [.ptr s 0,pint most] (sG s d c m j at_ o D) (dMs m D) (.tup [.nilsl,pint 1]) (sG s d c m j at_ o D) (dMs m D):=
 Xba (Xkw D at_ o h most hm) s d c m j hd (.cons (.ptr _ _ S_) (.cons (.low _ (.val _)) .nil)) (.low _ (.tup _ (by simp [Low.nilsl,pint,Low.val])))
end
end Go.Proofs.YtmciloafahkolaaGreatDoor
