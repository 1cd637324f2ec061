/- Out of: Ob. -/
import Derived.Test.YtmciloafahkolaaGreatDoorG26
namespace Go.Proofs.YtmciloafahkolaaGreatDoor
set_option maxRecDepth 100000
set_option maxHeartbeats 40000000
set_option linter.unusedSimpArgs false
set_option linter.unusedVariables false
set_option linter.unnecessarySimpa false
section
open Go.RowKit
theorem Xgp (s:PSnd) (most:Int) (hm:most < 0):Xs Tryz.prog 17 [psnd s,pint most] (· = X92 s [] 1):=by
 have hl1:=Yv s
 have hl2:Low (Xr s.l):=(Xb _).2 trivial
 have hln:=X3j
 have hwe:=X64
 obtain ⟨l,a⟩:=s
 simp only at hl1 hl2
 refine Xs.weak ?_
 refine Xd X6 Tryz.func17 rfl K_ (by simp [Xo,Xx,Y0,Xy,Xw,Xb,Xao,Y0]) (by simp [pint,Kd,pstr,Y1,Xr,Yp,PV.ownB,psnd,pstr]) (by rw [Tryz.ntmps17];simp) ?_
 rw [Tryz.ntmps17,Tryz.results17]
 refine wk ?_
 exact retP (r:=.agg [Xr l,pint a, .nilsl,pint 1]) rfl (hln ⟨l,a⟩ 1) (hwe ⟨l,a⟩ 1)
end
end Go.Proofs.YtmciloafahkolaaGreatDoor
