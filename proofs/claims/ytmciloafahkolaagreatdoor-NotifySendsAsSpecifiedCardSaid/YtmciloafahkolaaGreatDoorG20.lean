/- Out of: Li. -/
import Derived.Test.YtmciloafahkolaaGreatDoorG15
import Derived.Test.YtmciloafahkolaaGreatDoorG19
namespace Go.Proofs.YtmciloafahkolaaGreatDoor
set_option maxRecDepth 100000
set_option maxHeartbeats 40000000
set_option linter.unusedSimpArgs false
set_option linter.unusedVariables false
set_option linter.unnecessarySimpa false
section
open Go.RowKit
variable {N k:Nat} {at_ most:Int} {D:DM} {M:List Sec} {l:List PPut}
theorem Aft.again (h:Aft N at_ most M l D) (hb:Vs N at_ most=true) (hin:InD N l) (hlm:(l.length:Int)≤most) {n:Int} (hn:n≤1000000) (keep:List Int):Aft N at_ most M l (((D.arm n).recov at_ l).2.crash keep)∧GoD N 2000 ((D.arm n).recov at_ l).2:=by
 obtain ⟨m0,m1,h0,hN,hr,hrn,hat⟩:=Kh hb
 have hln:=Xn7 (at_:=at_) (D.arm n) (l:=l) O_
 obtain ⟨g,r⟩:=GoD.run (recO (D.arm n) at_ l) (h.ok.arm hn) (Xv8 hb hin) O_
 refine ⟨?_,g.mono O_⟩
 obtain ⟨m,hm⟩:∃m,((D.arm n).recov at_ l).2.base=D.base.nxs ((recO D at_ l).take m):=by
  rcases r with ⟨-,-,r⟩|⟨-,-,m,-,r⟩
  ·exact ⟨(recO D at_ l).length,by rw [List.take_length];exact r⟩
  ·exact ⟨m,r⟩
 rw [←X5s,hm]
 have hJ:∀M',JInv N 0 at_ most D M'→JInv N 0 at_ most ((D.base.nxs ((recO D at_ l).take m)).crash keep) M':=fun M' hJ=>by
  rcases Y0y (l:=l) hJ.head with e|e
  ·rw [e];exact hJ.base.head_crash hb O_ m keep
  ·rw [e,List.take_nil];exact hJ.base.crash hb keep
 rcases h with h|⟨h,hl0,he⟩|h
 ·exact .inl (hJ M h)
 ·rw [Xvz h hl0 O_]
  rcases h.base.finish_crash hb he O_ m keep with x|x
  ·exact .inr (.inl ⟨x,hl0,he⟩)
  ·exact .inr (.inr x)
 ·exact .inr (.inr (hJ _ h))
end
end Go.Proofs.YtmciloafahkolaaGreatDoor
