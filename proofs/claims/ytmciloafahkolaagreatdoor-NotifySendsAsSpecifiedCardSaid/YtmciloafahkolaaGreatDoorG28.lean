/- Out of: Row42, Om0. -/
import Derived.Test.YtmciloafahkolaaGreatDoorG24
namespace Go.Proofs.YtmciloafahkolaaGreatDoor
set_option maxRecDepth 100000
set_option maxHeartbeats 40000000
set_option linter.unusedSimpArgs false
set_option linter.unusedVariables false
set_option linter.unnecessarySimpa false
section
open Go.ChangeShapes Go.WideShapes Go.ChangeAt Go.RowKit
theorem Y10:Z3 Tryz.prog 3 pint (fun z => -9223372036854775808≤z∧z≤9223372036854775807):=(Xkm Tryz.underlying3).map id (fun _ _=>rfl) (fun _ h=>Y8n h)
theorem Y0n:Z3 Tryz.prog 5 Xh (fun z=>0≤z∧z < 256):=(Xkm Tryz.underlying5).map id (fun _ _=>rfl) (fun _ h=>Y70 h)
end
section
open Go.RowKit
theorem X1l {P:Program} {f:FuncId} {args args' : List PV} {post:PV→Prop} (h:Xs P f args post) (hw:X7 args' args):Xs P f args' post:=by
 refine ⟨h.1,fun Φ μ w vs h1 hgl h2=>h.2 Φ μ w vs h1 hgl ⟨by rw [h2.1,hw.len],fun j p v hp hv=>?_⟩⟩
 obtain ⟨q,hq,hpq⟩:=hw.get j p hp
 exact hpq.1 Φ μ v (h2.2 j q v hq hv)
end
end Go.Proofs.YtmciloafahkolaaGreatDoor
