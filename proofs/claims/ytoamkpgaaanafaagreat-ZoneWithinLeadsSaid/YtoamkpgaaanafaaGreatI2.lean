/- Out of: AttrJ. -/
import Derived.Test.YtoamkpgaaanafaaGreatG1
import Derived.Test.YtoamkpgaaanafaaGreatG11
import Derived.Test.YtoamkpgaaanafaaGreatG3
import Derived.Test.YtoamkpgaaanafaaGreatG6
import Derived.Test.YtoamkpgaaanafaaGreatG8
namespace Go.Proofs.YtoamkpgaaanafaaGreat
set_option linter.unusedSimpArgs false
set_option linter.unusedVariables false
set_option linter.unnecessarySimpa false
section
open Go.RowKit
set_option maxRecDepth 100000 in
set_option maxHeartbeats 1000000 in
theorem refFind (v:Value) (s:PSchema) (nm:ByteArray) (w:World) (hv:SchemaV w v s) (hl:s.defs.length≤1000):Calls Tryz.prog 83 #[v, .string nm] w (RetI w (findI s.defs nm)):=by
 obtain ⟨dv,rfl,hd⟩:=hv
 have HB:=Lib.hid (SchAt.box w s dv 24 hd)
 have hw0:Below w.heap.size w (w.alloc (.cells #[.int .i64 s.dims, .int .i64 s.metric,dv] 24)):=below_alloc _ _
 obtain ⟨a,cap,b,off,rfl,hcap,hm,ha,hc⟩:=HB.out.2.2.2.open
 clear hd
 go_enter Tryz.func83,Tryz.ntmps83
 go_wp2
 generalize hw:w.alloc (.cells #[.int .i64 s.dims, .int .i64 s.metric, .slice a s.defs.length cap] 24)=w0 at *
 clear hw
 have c2:=HB.out.2.2.1
 go_loop [5] (fun i=>∃k:Nat,k≤s.defs.length∧i = .int .i64 k∧Hid (findI s.defs nm=idxGo ((s.defs.map fun d=>eqB d.name nm).drop k) k)) (fun i=>s.defs.length - (intOf i).toNat)
 case atStart=>exact ⟨0,by omega,rfl,rfl⟩
 case round=>
  obtain ⟨k,hk,rfl,hh⟩:=hrel
  by_cases hlt:k < s.defs.length
  ·obtain ⟨y,hy⟩:=ints_get s.defs k (by omega)
   obtain ⟨wv,⟨d0,d1,d2,d3,d4⟩,-⟩:=hc.out k y hy
   have H:Hid (_=_):=idxGo_drop (s.defs.map fun d=>eqB d.name nm) k (eqB y.name nm) (by simp [hy])
   obtain rfl:=ha (by omega)
   clear hy ha hc
   cases e:eqB y.name nm
   ·have e' : (y.name.toList == nm.toList)=false:=e
    have E:=Lib.hid e
    clear e
    go_wp2
    go_round
    case rel=>exact ⟨k+1,by omega,by go_num,by rw [Hid,hh.out,H.out,E.out];rfl⟩
    case measure=>simp [intOf];omega
   ·have e' : (y.name.toList == nm.toList)=true:=e
    have E:=Lib.hid e
    clear e
    go_wp2
    go_ret
    exact RetI.mk (by rw [hh.out,H.out,E.out];rfl) hw0
  ·clear hc ha
   go_wp2
   go_ret
   exact RetI.mk (by rw [hh.out,idxGo_end _ _ (by simp;omega)]) hw0
end
end Go.Proofs.YtoamkpgaaanafaaGreat
