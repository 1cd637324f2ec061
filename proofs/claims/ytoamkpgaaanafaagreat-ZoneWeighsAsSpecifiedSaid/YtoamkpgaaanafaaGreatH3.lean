/- Out of: PwV, RegionB, Yb, Ud, Row18c, Wb, Wj. -/
import Derived.Test.YtoamkpgaaanafaaGreatRows
import Derived.WalkKit
import Derived.WalkSpells
import Derived.WalkLawsBesides
import Derived.Deep.QuietTactic
import Derived.BigQuiet
import Derived.RegionTactic
import Derived.Lib.AppendZeros
import Derived.Lib.AppendStr
import Derived.Lib.Hide
import Derived.OrdersIn
import Derived.Laws.BytesString
import Derived.WideLaws
import Derived.RangeFuncRecord
import Derived.Orders
import Derived.KernelRfl
import GoSem.Step
import Derived.Laws.RangeAny
import Derived.Lib.OthersKept
import Derived.Outline
import Derived.Laws.EntriesVeiled
import Derived.StillTailTactics
import Derived.Deep.Cut
import Derived.RangeFuncCalls
import Derived.Lib.BitFns
import Derived.Test.YtoamkpgaaanafaaGreatShelf
import Derived.Test.YtoamkpgaaanafaaGreatIter
import Derived.Laws.Strings
import Derived.ProofKit
import Derived.OpenShut
import Derived.SizedLaws
import Derived.Deep.Slices
import Derived.Lib.LaidU8
import Derived.LaidMore
import Derived.LaidLaws
import Derived.Stop.Joined
import Derived.MakeChecks
import Derived.Test.YtoamkpgaaanafaaGreatG1
import Derived.Test.YtoamkpgaaanafaaGreatG10
import Derived.Test.YtoamkpgaaanafaaGreatG11
import Derived.Test.YtoamkpgaaanafaaGreatG14
import Derived.Test.YtoamkpgaaanafaaGreatG15
import Derived.Test.YtoamkpgaaanafaaGreatG19
import Derived.Test.YtoamkpgaaanafaaGreatG21
import Derived.Test.YtoamkpgaaanafaaGreatG29
import Derived.Test.YtoamkpgaaanafaaGreatG3
import Derived.Test.YtoamkpgaaanafaaGreatG32
import Derived.Test.YtoamkpgaaanafaaGreatG37
import Derived.Test.YtoamkpgaaanafaaGreatG6
import Derived.Test.YtoamkpgaaanafaaGreatG7
import Derived.Test.YtoamkpgaaanafaaGreatG8
namespace Go.Proofs.YtoamkpgaaanafaaGreat
set_option linter.unusedSimpArgs false
set_option linter.unusedVariables false
set_option linter.unnecessarySimpa false
section
open Go.RowKit
theorem take_getD {α:Type} {l:List α} {j:Nat} (x:α) (h:j < l.length):l.take (j+1)=l.take j ++ [l.getD j x]:=by
 rw [List.take_add_one,getD_get x h];rfl
theorem AllFrom.of {F:Nat→Oper→Prop} : ∀(l:List Oper) (k:Nat),(∀(i:Nat) (o:Oper),l[i]? = some o→F (k+i) o)→AllFrom F k l
 | [],_,_=>trivial
 |x :: xs,k,h=>⟨h 0 x (by simp),AllFrom.of xs (k+1) (fun i o hi=>by rw [show k+1+i=k+(i+1) by omega];exact h (i+1) o (by simpa using hi))⟩
theorem boxOK_of {b:PBox} (h:boxB b=true):BoxOK b.lo.length b:=by
 obtain ⟨h1,h2⟩:=boxB_vec h
 obtain ⟨-,a⟩:=vecB_get h1
 obtain ⟨-,c⟩:=vecB_get h2
 obtain ⟨l1,-,-⟩:=boxB_len h
 refine ⟨rfl,l1.symm,fun k hk=>⟨(a k).1,?_,(c k).2⟩⟩
 simp only [boxB,Bool.and_eq_true,decide_eq_true_eq,List.all_eq_true,List.mem_range] at h
 exact h.2.2.2 k hk
theorem SumV.ok {s:PSchema} {n:Int} {z:PSum} (h:SumV s n z) {k:Nat} (hk:k < s.defs.length):FieldOK (z.fields.getD k default):=(fieldB_ok (h.field k hk)).1
end
section
open Go.ChangeShapes Go.WideShapes Go.ChangeAt Go.RowKit
theorem argInts:ArgOpens Tryz.prog 27 pints (fun l=>(∀z∈l,Fit64 z)∧l.length * 8≤reachBytes):=arg_slice Tryz.underlying27 opensInts
theorem argSnap:ArgOpens Tryz.prog 56 psnap (fun a=>Fit64 a.day∧Fit64 a.commit):=
 (arg_struct Tryz.underlying56 (opens_struct Tryz.underlying56 (opensFs_1 rfl opensInt (by kernel_rfl) (opensFs_1 rfl opensInt (by kernel_rfl) opensFs_nil)) (by kernel_rfl))).map
  (fun p=>(⟨p.1,p.2.1⟩:PSnap)) (fun _ _=>rfl) (fun _ h=>⟨h.1,h.2.1⟩)
end
section
open Go.RowKit
theorem SumOK.take {s:PSchema} {pv:List (List Int)} {l:List PEntry} (h:SumOK s pv l) (k:Nat):SumOK s pv (l.take k):=⟨h.met,h.len,h.piv,fun e he=>h.ent e (List.mem_of_mem_take he)⟩
structure BoxIn (a b:PBox):Prop where
 ga:boxB a=true
 gb:boxB b=true
 lo:a.lo.length=b.lo.length
 hi:a.hi.length=b.lo.length
 los:∀k,k < b.lo.length→b.lo.getD k default≤a.lo.getD k default∧a.lo.getD k default≤b.hi.getD k default
 his:∀k,k < b.lo.length→b.lo.getD k default≤a.hi.getD k default∧a.hi.getD k default≤b.hi.getD k default
theorem BoxIn.trans {a b c:PBox} (h:BoxIn a b) (h2:BoxIn b c):BoxIn a c:=by
 have e1:=h.lo
 have e2:=h2.lo
 have e3:=h.hi
 refine ⟨h.ga,h2.gb,by omega,by omega,fun k hk=>?_,fun k hk=>?_⟩
 ·have a1:=h.los k (by omega)
  have a2:=h2.los k hk
  have a3:=h2.his k hk
  omega
 ·have a1:=h.his k (by omega)
  have a2:=h2.los k hk
  have a3:=h2.his k hk
  omega
theorem BoxIn.has {a b:PBox} {v:List Int} (h:BoxIn a b) (hv:boxHas a v=true):boxHas b v=true:=by
 simp only [boxHas,hasK,Bool.and_eq_true,decide_eq_true_eq,List.all_eq_true,List.mem_range] at hv ⊢
 obtain ⟨-,h2,h3⟩:=hv
 have e1:=h.lo
 refine ⟨h.gb,by omega,fun k hk=>?_⟩
 have a1:=h.los k (by omega)
 have a2:=h.his k (by omega)
 have a3:=h3 k hk
 omega
end
end Go.Proofs.YtoamkpgaaanafaaGreat
