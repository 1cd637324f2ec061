/- Out of: Jm, Lj. -/
import Derived.Test.YtmciloafahkolaaGreatDoorG7
import Derived.Test.YtmciloafahkolaaGreatDoorG8
namespace Go.Proofs.YtmciloafahkolaaGreatDoor
set_option maxRecDepth 100000
set_option maxHeartbeats 40000000
set_option linter.unusedSimpArgs false
set_option linter.unusedVariables false
set_option linter.unnecessarySimpa false
section
open Go.RowKit
def DM.two (D:DM) (at_:Int) (g:Sec):DM:=(D.write at_ g).2.sync.2
theorem OkD.two {N k:Nat} {D:DM} (h:OkD N k D) {at_:Int} (h0:0≤at_) (h1:at_ < N) (hk:k+3≤100000000) (g:Sec):OkD N (k+3) (D.two at_ g)∧(D.two at_ g).op = []∧∀q:Int,0≤q→q < N→(D.two at_ g).read q=if q=at_ then (g,0) else D.read q:=by
 have hN:0 < N:=O_
 obtain ⟨w1,w2,w3⟩:=h.write h0 h1 O_ g
 obtain ⟨t1,t2,t3,t4⟩:=w2.sync_ok hN
 exact ⟨t2.mono O_,t4,fun q q0 q1=>by rw [DM.two,w2.read_sync hN q0 q1,h.read_write h0 h1 O_ g q0 q1]⟩
def DM.opened (D:DM) (at_:Int):DM:=if (D.read at_).2=221 then D.two at_ Xj else D
theorem Xs5 {N k:Nat} {D:DM} (h:GoD N k D) (hN:1≤N∧N≤65536):(1≤D.cells.length∧D.cells.length≤65536)∧opOK D.cells.length D.op∧D.op.length≤1000000000:=by
 rw [h.len]
 exact ⟨hN,h.op,by have:=Xx0 h.op;omega⟩
end
end Go.Proofs.YtmciloafahkolaaGreatDoor
