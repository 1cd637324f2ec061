/- Out of: Db, La, PwCut. -/
import Derived.Test.YtmciloafahkolaaGreatDoorG5
namespace Go.Proofs.YtmciloafahkolaaGreatDoor
set_option maxRecDepth 100000
set_option maxHeartbeats 40000000
set_option linter.unusedSimpArgs false
set_option linter.unusedVariables false
set_option linter.unnecessarySimpa false
section
open Go.RowKit
theorem Y8d (D:DM) (n:Int):X6q 29 [pint n] D (.tup []) { D with after:=maxI n (-1) }:=by
 refine Vo Tryz.func29 rfl rfl (by exact lw) (by simp [pint,PV.ownB]) N_ (by exact lw) ?_
 refine wk ?_
 exact ⟨_,rfl,Weak.refl _,⟨⟨_,rfl,X7.refl _⟩,⟨_,rfl,X7.refl _⟩,trivial⟩,⟨⟨rfl,rfl⟩,trivial⟩⟩
theorem Xx0 {n:Nat} {op:List (Nat×Int×List Sec)} (h:opOK n op):op.length≤n:=by
 have h1:(op.map (·.2.1)).length≤((List.range n).map (fun i:Nat=>(i:Int))).length:=by
  refine List.Nodup.length_le_of_subset h.1 (fun x hx=>?_)
  obtain ⟨e,he,rfl⟩:=List.mem_map.1 hx
  obtain ⟨q0,q1,-⟩:=h.2 e he
  exact List.mem_map.2 ⟨e.2.1.toNat,List.mem_range.2 O_,O_⟩
 simpa using h1
end
section
open Go.RowKit
variable {P:Program} {M:Nat} {Q:Exit→PS→Prop} {σ:PS}
theorem PW.cutB {α:Type} {id:Nat} {c y:Code} (st:α→PS) (I:α→Prop) (h1:PW P M c (X5q id (MidP M st I Q)) σ) (h2:∀x,I x→PW P M y Q (st x)):PW P M c (X5q id (Xp9 P M y Q)) σ:=by
 refine PW.conseq h1 fun e σ' h=>?_
 cases e with
 |normal=>
  obtain ⟨x,hx,hs⟩:=h
  exact PW.sub (h2 x hx) hs
 |exit i=>
  simp only [X5q] at h ⊢
  split at h
  ·rename_i e
   rw [if_pos e]
   obtain ⟨x,hx,hs⟩:=h
   exact PW.sub (h2 x hx) hs
  ·rename_i e
   rw [if_neg e]
   exact h
 |_=>exact h
end
end Go.Proofs.YtmciloafahkolaaGreatDoor
