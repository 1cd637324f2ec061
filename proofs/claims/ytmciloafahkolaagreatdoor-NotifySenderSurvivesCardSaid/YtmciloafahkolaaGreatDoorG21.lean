/- Out of: Li. -/
import Derived.Test.YtmciloafahkolaaGreatDoorG14
import Derived.Test.YtmciloafahkolaaGreatDoorG19
namespace Go.Proofs.YtmciloafahkolaaGreatDoor
set_option maxRecDepth 100000
set_option maxHeartbeats 40000000
set_option linter.unusedSimpArgs false
set_option linter.unusedVariables false
set_option linter.unnecessarySimpa false
section
open Go.RowKit
variable {N k:Nat} {at_ most:Int} {D:DM} {M:List Sec} {l:List PPut}
theorem JInv.unbase {k' : Nat} (h:JInv N k at_ most D.base M) (hD:OkD N k' D):JInv N k' at_ most D M:=by
 have hr:∀q,D.base.read q=D.read q:=X25 hD.dead
 refine ⟨hD,h.op,h.len,?_,fun q hq ho=>by rw [←hr];exact h.out q hq ho⟩
 have:=h.head
 unfold Vx at this ⊢
 rw [hr] at this;exact this
theorem Y3g (h:Aft N at_ most M l D) (hb:Vs N at_ most=true) (hin:InD N l) (hlm:(l.length:Int)≤most) {E:DM} (hE:∀q,E.read q=D.read q) (hc:E.cells=D.cells):RecP E at_ most (E.recov at_ l):=by
 obtain ⟨m0,m1,h0,hN,hr,hrn,hat⟩:=Kh hb
 have hl:=h.ok.len
 have hJ:Vx D at_→RecP E at_ most (E.recov at_ l):=fun hh=>by
  by_cases c:(D.read at_).2=221
  ·rcases hh with hh|⟨hh,-⟩
   ·refine .inl ⟨by rw [hE];exact hh,?_⟩
    unfold DM.recov recO
    rw [hE,if_pos c]
   ·rw [hh] at c;exact absurd c D_
  ·rcases hh with hh|⟨hh,z0,z1⟩
   ·rw [hh] at c;exact absurd rfl c
   ·refine .inr (.inl ⟨by rw [hE];exact hh,by rw [hE];exact z0,by rw [hE];exact z1,?_⟩)
    unfold DM.recov recO
    rw [hE,if_neg c,if_pos ⟨z0,z1⟩];rfl
 rcases h with h|⟨h,hl0,he⟩|h
 ·exact hJ h.head
 ·refine .inr (.inr ⟨l,⟨?_,fun p hp=>?_,hl0,hlm,by rw [hc,hl];exact hin⟩,?_⟩)
  ·obtain ⟨s,a,b⟩:=h.head
   exact ⟨s,by rw [hE];exact a,b⟩
  ·rw [hE];exact h.area p hp
  ·unfold DM.recov
   have:recO E at_ l=recO D at_ l:=by unfold recO;rw [hE]
   rw [this,Xvz h hl0 O_]
 ·exact hJ h.head
theorem Aft.opened (h:Aft N at_ most M l D) (hb:Vs N at_ most=true) (hin:InD N l) (hlm:(l.length:Int)≤most):(D.recov at_ l).1=0∧(JInv N 2000 at_ most (D.recov at_ l).2 M∨JInv N 2000 at_ most (D.recov at_ l).2 (doM M l)):=by
 obtain ⟨m0,m1,h0,hN,hr,hrn,hat⟩:=Kh hb
 have hln:=Xn7 (at_:=at_) D (l:=l) O_
 have hio:∀o∈recO D at_ l,o.inD N:=Xv8 hb hin
 obtain ⟨o1,o2⟩:=OkD.run (recO D at_ l) h.ok hio O_
 obtain ⟨-,r⟩:=GoD.run (recO D at_ l) h.ok.go hio O_
 have hb2:(D.recov at_ l).2.base=D.base.nxs (recO D at_ l):=by
  rcases r with ⟨-,-,r⟩|⟨r,-⟩
  ·exact r
  ·rw [o1] at r;exact absurd r D_
 refine ⟨o1,?_⟩
 have o3:OkD N 2000 (D.recov at_ l).2:=o2.mono O_
 have hJ:∀M',JInv N 0 at_ most D M'→JInv N 2000 at_ most (D.recov at_ l).2 M':=fun M' hJ=>by
  rcases Y0y (l:=l) hJ.head with e|e
  ·have:=hJ.base.head_all hb O_
   rw [←e,←hb2] at this
   exact this.unbase o3
  ·have:=hJ.base
   rw [show D.base=D.base.nxs (recO D at_ l) by rw [e];rfl,←hb2] at this
   exact this.unbase o3
 rcases h with h|⟨h,hl0,he⟩|h
 ·exact .inl (hJ M h)
 ·have:=h.base.finish_all hb he O_
  rw [←Xvz h hl0 O_,←hb2] at this
  exact .inr (this.unbase o3)
 ·exact .inr (hJ _ h)
end
end Go.Proofs.YtmciloafahkolaaGreatDoor
