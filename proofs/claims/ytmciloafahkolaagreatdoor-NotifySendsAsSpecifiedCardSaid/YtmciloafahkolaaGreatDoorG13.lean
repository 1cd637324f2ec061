/- Out of: AttrS. -/
import Derived.Test.YtmciloafahkolaaGreatDoorG10
namespace Go.Proofs.YtmciloafahkolaaGreatDoor
set_option maxRecDepth 100000
set_option maxHeartbeats 40000000
set_option linter.unusedSimpArgs false
set_option linter.unusedVariables false
set_option linter.unnecessarySimpa false
section
open Go.RowKit
theorem Own.other {B E1 E2:Nat} {w w' : World} {u v:Value} {cs ds:List Value} (h:Own B E1 w u cs) (h2:Own B E2 w v ds) (hE:E1≠E2) (hg:w.grownBy w' v.ownBlock):Own B E1 w' u cs:=by
 refine World.ownsRow.kept h hg ?_
 rcases h.2 with ⟨rfl,_⟩|⟨g,cap,cur,rfl,_,hgg,_⟩
 ·exact .inl rfl
 ·right
  intro e
  rcases h2.2 with ⟨rfl,_⟩|⟨g2,cap2,cur2,rfl,_,hgg2,_⟩
  ·simp [Value.ownBlock] at e
  ·simp [Value.ownBlock] at e
   subst e
   rw [hgg] at hgg2
   simp at hgg2
   exact hE hgg2.2
end
end Go.Proofs.YtmciloafahkolaaGreatDoor
