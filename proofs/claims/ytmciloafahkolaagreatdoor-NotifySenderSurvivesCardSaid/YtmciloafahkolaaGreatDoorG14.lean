/- Out of: Kd, Lb. -/
import Derived.Test.YtmciloafahkolaaGreatDoorG11
import Derived.Test.YtmciloafahkolaaGreatDoorG12
namespace Go.Proofs.YtmciloafahkolaaGreatDoor
set_option maxRecDepth 100000
set_option maxHeartbeats 40000000
set_option linter.unusedSimpArgs false
set_option linter.unusedVariables false
set_option linter.unnecessarySimpa false
section
open Go.RowKit
theorem JInv.opened {N k:Nat} {at_ most:Int} {D:DM} {M:List Sec} (h:JInv N k at_ most D M) (hb:Vs N at_ most=true) (hk:k+10000≤100000000):JInv N (k+3) at_ most (D.opened at_) M:=by
 simp only [Vs,decide_eq_true_eq] at hb
 obtain ⟨m0,m1,h0,hN⟩:=hb
 have hrr:0 < Yl most:=by unfold Yl Xg;rw [if_neg O_];omega
 unfold DM.opened
 split
 ·obtain ⟨a1,a2,a3⟩:=h.ok.two h0 O_ O_ Xj
  refine ⟨a1,a2,h.len, .inr ?_,fun q hq ho=>?_⟩
  ·rw [a3 at_ h0 O_,if_pos rfl];exact ⟨rfl,Yz.1,Yz.2⟩
  ·rw [a3 q O_ O_,if_neg O_];exact h.out q hq ho
 ·exact h.mono O_
end
section
open Go.RowKit
variable {N k:Nat} {at_ most:Int} {D:DM} {M:List Sec} {l:List PPut}
theorem JInv.head_all (h:JInv N k at_ most D M) (hb:Vs N at_ most=true) (hk:k+10000≤100000000):JInv N (k+2) at_ most (D.nxs (X5l at_)) M:=by
 obtain ⟨m0,m1,h0,hN,hr,hrn,hat⟩:=Kh hb
 have hn:0 < N:=O_
 have N2:=nx_w h.ok h0 hat O_ Xj
 have hE:=h.ok.nx (o:=.w at_ Xj) ⟨h0,hat⟩ O_
 have hS:=X99 hE hn
 have hS1:=hE.nx (o:=.sync) hn O_
 show JInv N (k+2) at_ most ((D.nx (.w at_ Xj)).nx .sync) M
 have key:∀q:Int,0≤q→q < N→((D.nx (.w at_ Xj)).nx .sync).read q=if q=at_ then (Xj,0) else D.read q:=fun q q0 q1=>by
  rw [hS.2 q q0 q1,(N2 q).2.2 q0 q1]
 refine h.of_read hb hS1 hS.1 (.inr ?_) (fun q q0 q1 qo=>by rw [key q q0 q1,if_neg O_])
 rw [key at_ h0 hat,if_pos rfl]
 exact ⟨rfl,Yz.1,Yz.2⟩
end
end Go.Proofs.YtmciloafahkolaaGreatDoor
