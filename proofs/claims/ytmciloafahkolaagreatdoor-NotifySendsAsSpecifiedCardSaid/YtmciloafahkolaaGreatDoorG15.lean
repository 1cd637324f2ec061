/- Out of: Lb. -/
import Derived.Test.YtmciloafahkolaaGreatDoorG11
namespace Go.Proofs.YtmciloafahkolaaGreatDoor
set_option maxRecDepth 100000
set_option maxHeartbeats 40000000
set_option linter.unusedSimpArgs false
set_option linter.unusedVariables false
set_option linter.unnecessarySimpa false
section
open Go.RowKit
variable {N k:Nat} {at_ most:Int} {D:DM} {M:List Sec} {l:List PPut}
theorem JInv.head_crash (h:JInv N k at_ most D M) (hb:Vs N at_ most=true) (hk:k+10000≤100000000) (m:Nat) (keep:List Int):JInv N 0 at_ most ((D.nxs ((X5l at_).take m)).crash keep) M:=by
 obtain ⟨m0,m1,h0,hN,hr,hrn,hat⟩:=Kh hb
 have N2:=nx_w h.ok h0 hat O_ Xj
 have hE:=h.ok.nx (o:=.w at_ Xj) ⟨h0,hat⟩ O_
 match m with
 |0=>exact h.crash hb keep
 |1=>
  show JInv N 0 at_ most ((D.nx (.w at_ Xj)).crash keep) M
  refine h.of_read hb (X34 hE keep) rfl ?_ (fun q q0 q1 qo=>?_)
  ·have hc:=Xd9 hE keep h0 hat (g:=Xj) (by rw [(N2 at_).1,if_pos rfl,X1r h.op];rfl)
   rw [(N2 at_).2.1] at hc
   have hold:(if (D.cell at_).bad then (Ye,(221:Int)) else ((D.cell at_).s,0))=D.read at_:=by
    rw [h.ok.read h0 hat,X1r h.op,if_neg (show ¬(0 < ([]:List Sec).length) by simp)]
   rw [hold] at hc
   unfold Vx
   rcases hc with d|d|⟨s,d,d2⟩
   ·rw [d];exact h.head
   ·exact .inl d
   ·obtain ⟨z0,z1⟩:=X6v d2
    rw [d];exact .inr ⟨rfl,z0,z1⟩
  ·have hq:q≠at_:=O_
   rw [Zd hE keep q0 q1 (by rw [(N2 q).1,if_neg hq];exact X1r h.op q),(N2 q).2.2 q0 q1,if_neg hq]
 |m+2=>
  have hn:0 < N:=O_
  have hS:=X99 hE hn
  have hS1:=hE.nx (o:=.sync) hn O_
  show JInv N 0 at_ most (((D.nx (.w at_ Xj)).nx .sync).nxs (([]:List DOp).take m) |>.crash keep) M
  rw [List.take_nil]
  show JInv N 0 at_ most (((D.nx (.w at_ Xj)).nx .sync).crash keep) M
  have key:∀q:Int,0≤q→q < N→(((D.nx (.w at_ Xj)).nx .sync).crash keep).read q=if q=at_ then (Xj,0) else D.read q:=fun q q0 q1=>by
   rw [Zd hS1 keep q0 q1 (X1r hS.1 q),hS.2 q q0 q1,(N2 q).2.2 q0 q1]
  refine h.of_read hb (X34 hS1 keep) rfl (.inr ?_) (fun q q0 q1 qo=>by rw [key q q0 q1,if_neg O_])
  rw [key at_ h0 hat,if_pos rfl]
  exact ⟨rfl,Yz.1,Yz.2⟩
end
end Go.Proofs.YtmciloafahkolaaGreatDoor
