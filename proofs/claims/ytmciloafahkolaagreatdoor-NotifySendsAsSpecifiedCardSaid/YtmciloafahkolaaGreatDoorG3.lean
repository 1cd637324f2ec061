/- Out of: PwL. -/
import Derived.Test.YtmciloafahkolaaGreatDoorG2
namespace Go.Proofs.YtmciloafahkolaaGreatDoor
set_option maxRecDepth 100000
set_option maxHeartbeats 40000000
set_option linter.unusedSimpArgs false
set_option linter.unusedVariables false
set_option linter.unnecessarySimpa false
section
open Go.RowKit
variable {P:Program} {M:Nat} {Q:Exit→PS→Prop} {σ:PS} {T:Tab} {ops:Array Oper} {i:Nat} {o:Oper} {rest:List (Nat×Oper)} {K:PS→Prop}
variable {base:Nat} {ok:Nat→Nat→Bool}
variable {σF:PS} {κ:Nat→Nat}
theorem Sub.other {σ' : PS} {κ:Nat→Nat} (L:List Nat) (h:SubR κ (Kn σ') σ σ') (hL:∀i,Kn σ' i→i∈L) (hn:Xd3 (L.map κ)=true) (hb:L.all (fun i=>Nat.blt i 1000000 || Nat.beq (κ i) i)=true):Sub M σ σ':=by
 refine h.sub (fun i hi=>hi.spec) (fun i j hi hj e=>?_) (fun i hi hbig=>?_)
 ·have h1:=hL i hi
  have h2:=hL j hj
  have hn':=X3y hn
  obtain ⟨a,ha⟩:=List.getElem?_of_mem h1
  obtain ⟨b,hb'⟩:=List.getElem?_of_mem h2
  have e1:(L.map κ)[a]? = some (κ i):=by rw [M_,ha];rfl
  have e2:(L.map κ)[b]? = some (κ j):=by rw [M_,hb'];rfl
  have hab:a=b:=(List.getElem?_inj (List.getElem?_eq_some_iff.1 e1).1 hn').1 (by rw [e1,e2,e])
  subst hab
  rw [ha] at hb'
  exact Option.some.inj hb'
 ·have:=List.all_eq_true.1 hb i (hL i hi)
  simp only [Bool.or_eq_true] at this
  rcases this with h1|h1
  ·have h2:i < 1000000:=by simpa [Nat.blt_eq] using h1
   omega
  ·exact Nat.eq_of_beq_eq_true h1
end
end Go.Proofs.YtmciloafahkolaaGreatDoor
