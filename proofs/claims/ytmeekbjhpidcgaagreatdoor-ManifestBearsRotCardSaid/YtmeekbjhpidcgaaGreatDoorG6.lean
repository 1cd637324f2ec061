/- Out of: RegionB. -/
import Derived.Orders
import Derived.Test.YtmeekbjhpidcgaaGreatDoorG1
namespace Go.Proofs.YtmeekbjhpidcgaaGreatDoor
set_option linter.unusedSimpArgs false
set_option linter.unusedVariables false
set_option linter.unnecessarySimpa false
section
open Go.RowKit
structure Spec where
 p:Value→World→Prop
 st:∀v w w',p v w→Below w.heap.size w w'→p v w'
def Spec.any:Spec:=⟨fun _ _=>True,fun _ _ _ h _=>h⟩
def Spec.rd (cs:List Value):Spec:=⟨fun v w=>Rd w v cs,fun _ _ _ h hb=>h.below hb⟩
def LeB (w w' : World):Prop:=Below w.heap.size w w'
theorem LeB.trans (x y z:World) (h:LeB x y) (k:LeB y z):LeB x z:=Below.trans h (Below.mono k h.size)
def AllFrom (F:Nat→Oper→Prop):Nat→List Oper→Prop
 |_,[]=>True
 |i,o :: os=>F i o∧AllFrom F (i+1) os
theorem AllFrom.get {F:Nat→Oper→Prop} : ∀{l:List Oper} {k:Nat},AllFrom F k l→∀(i:Nat) (o:Oper),l[i]? = some o→F (k+i) o
 | [],_,_,i,o,h=>by simp at h
 |x :: xs,k,⟨h1,h2⟩,0,o,h=>by simp at h;subst h;exact h1
 |x :: xs,k,⟨h1,h2⟩,i+1,o,h=>by
  have:=AllFrom.get h2 i o (by simpa using h)
  rw [show k+(i+1)=k+1+i by omega];exact this
theorem AllFrom.of {F:Nat→Oper→Prop} : ∀(l:List Oper) (k:Nat),(∀(i:Nat) (o:Oper),l[i]? = some o→F (k+i) o)→AllFrom F k l
 | [],_,_=>trivial
 |x :: xs,k,h=>⟨h 0 x (by simp),AllFrom.of xs (k+1) (fun i o hi=>by rw [show k+1+i=k+(i+1) by omega];exact h (i+1) o (by simpa using hi))⟩
end
end Go.Proofs.YtmeekbjhpidcgaaGreatDoor
