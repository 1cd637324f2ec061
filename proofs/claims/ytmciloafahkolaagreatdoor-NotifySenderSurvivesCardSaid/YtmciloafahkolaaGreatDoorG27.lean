/- Out of: Oj. -/
import Derived.Test.YtmciloafahkolaaGreatDoorG24
namespace Go.Proofs.YtmciloafahkolaaGreatDoor
set_option maxRecDepth 100000
set_option maxHeartbeats 40000000
set_option linter.unusedSimpArgs false
set_option linter.unusedVariables false
set_option linter.unnecessarySimpa false
section
open Go.RowKit
variable {N at_:Nat}
theorem RcvT.reopen {s:PRcv} {L:List Body} (h:RcvT s L):RcvT ⟨⟨s.i.next,[]⟩,s.l⟩ L:=⟨h.el,h.en,⟨⟨h.ib.ok.n,Nat.zero_le _,fun x hx=>by simp at hx,fun x hx=>by simp at hx,fun x y _ hy=>by simp at hy⟩,fun x hx=>by simp at hx⟩⟩
end
end Go.Proofs.YtmciloafahkolaaGreatDoor
