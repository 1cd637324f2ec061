/- Out of: Row18, Wd, Row18c. -/
import Derived.Test.YtoamkpgaaanafaaGreatRows
import Derived.WalkKit
import Derived.WalkSpells
import Derived.WalkLawsBesides
import Derived.Deep.QuietTactic
import Derived.BigQuiet
import Derived.RegionTactic
import Derived.ProofKit
import Derived.OpenShut
import Derived.SizedLaws
import Derived.Lib.AppendZeros
import Derived.Lib.AppendStr
import Derived.Lib.Hide
import Derived.OrdersIn
import Derived.Laws.BytesString
import Derived.WideLaws
import Derived.RangeFuncRecord
import Derived.Orders
import Derived.Deep.Slices
import Derived.Lib.LaidU8
import Derived.LaidMore
import Derived.LaidLaws
import Derived.Stop.Joined
import Derived.MakeChecks
import GoSem.Step
import Derived.Laws.RangeAny
import Derived.Lib.OthersKept
import Derived.Outline
import Derived.Laws.EntriesVeiled
import Derived.KernelRfl
import Derived.StillTailTactics
import Derived.Deep.Cut
import Derived.RangeFuncCalls
import Derived.Lib.BitFns
import Derived.Test.YtoamkpgaaanafaaGreatShelf
import Derived.Test.YtoamkpgaaanafaaGreatIter
import Derived.Laws.Strings
import Derived.Test.YtoamkpgaaanafaaGreatG1
import Derived.Test.YtoamkpgaaanafaaGreatG3
import Derived.Test.YtoamkpgaaanafaaGreatG6
import Derived.Test.YtoamkpgaaanafaaGreatG7
import Derived.Test.YtoamkpgaaanafaaGreatG8
import Derived.Test.YtoamkpgaaanafaaGreatG10
import Derived.Test.YtoamkpgaaanafaaGreatG11
import Derived.Test.YtoamkpgaaanafaaGreatG14
import Derived.Test.YtoamkpgaaanafaaGreatG15
import Derived.Test.YtoamkpgaaanafaaGreatG17
import Derived.Test.YtoamkpgaaanafaaGreatG21
namespace Go.Proofs.YtoamkpgaaanafaaGreat
set_option linter.unusedSimpArgs false
set_option linter.unusedVariables false
set_option linter.unnecessarySimpa false
section
open Go.ChangeShapes Go.WideShapes Go.ChangeAt Go.RowKit
theorem opensShell:Opens Tryz.prog 119 pshL (fun s=>Fit64 s.lo∧Fit64 s.hi):=
 (opens_struct Tryz.underlying119 (opensFs_1 rfl opensInt (by kernel_rfl) (opensFs_1 rfl opensInt (by kernel_rfl) opensFs_nil)) (by kernel_rfl)).map
  (fun p=>(⟨p.1,p.2.1⟩:PShell)) (fun _ _=>rfl) (fun _ h=>⟨h.1,h.2.1⟩)
theorem opensShells:Opens Tryz.prog 30 (fun l => [pshells l]) (fun l=>(∀s∈l,Fit64 s.lo∧Fit64 s.hi)∧l.length * 16≤reachBytes):=
 (opens_slice Tryz.underlying30 (by kernel_rfl) (by decide) (by kernel_rfl) opensShell (fun _ _=>rfl)).map id (fun a _=>rfl) (fun _ h=>h)
theorem opensField:Opens Tryz.prog 100 pfldL (fun f=>(Fit64 f.has∧Fit64 f.lo∧Fit64 f.hi)∧f.words.length * 16≤reachBytes):=
 (opens_struct Tryz.underlying100 (opensFs_1 rfl opensInt (by kernel_rfl) (opensFs_1 rfl opensInt (by kernel_rfl) (opensFs_1 rfl opensInt (by kernel_rfl) (opensFs_1 rfl opensStrs (by kernel_rfl) opensFs_nil)))) (by kernel_rfl)).map
  (fun p=>(⟨p.1,p.2.1,p.2.2.1,p.2.2.2.1⟩:PField)) (fun _ _=>rfl) (fun _ h=>by obtain ⟨a,b,c,d,-⟩:=h;exact ⟨⟨a,b,c⟩,d.2⟩)
theorem opensFields:Opens Tryz.prog 31 (fun l => [pflds l]) (fun l=>(∀f∈l,(Fit64 f.has∧Fit64 f.lo∧Fit64 f.hi)∧f.words.length * 16≤reachBytes)∧l.length * 48≤reachBytes):=
 (opens_slice Tryz.underlying31 (by kernel_rfl) (by decide) (by kernel_rfl) opensField (fun _ _=>rfl)).map id (fun a _=>rfl) (fun _ h=>h)
theorem opensBox:Opens Tryz.prog 29 pboxL (fun b=>((∀z∈b.lo,Fit64 z)∧b.lo.length * 8≤reachBytes)∧(∀z∈b.hi,Fit64 z)∧b.hi.length * 8≤reachBytes):=
 (opens_struct Tryz.underlying29 (opensFs_1 rfl opensInts (by kernel_rfl) (opensFs_1 rfl opensInts (by kernel_rfl) opensFs_nil)) (by kernel_rfl)).map
  (fun p=>(⟨p.1,p.2.1⟩:PBox)) (fun _ _=>rfl) (fun _ h=>⟨h.1,h.2.1⟩)
theorem argSum:ArgOpens Tryz.prog 33 psum GoodZ:=
 (arg_struct Tryz.underlying33 (opens_struct Tryz.underlying33 (opensFs_1 rfl opensInt (by kernel_rfl) (opensFs_cons (k:=2) rfl (by kernel_rfl) opensBox (opensFs_1 rfl opensShells (by kernel_rfl) (opensFs_1 rfl opensInt (by kernel_rfl) (opensFs_1 rfl opensInt (by kernel_rfl) (opensFs_1 rfl opensInt (by kernel_rfl) (opensFs_1 rfl opensInt (by kernel_rfl) (opensFs_1 rfl opensInt (by kernel_rfl) (opensFs_1 rfl opensFields (by kernel_rfl) opensFs_nil))))))))) (by kernel_rfl))).map
  (fun p=>(⟨p.1,p.2.1,p.2.2.1,p.2.2.2.1,p.2.2.2.2.1,p.2.2.2.2.2.1,p.2.2.2.2.2.2.1,p.2.2.2.2.2.2.2.1,p.2.2.2.2.2.2.2.2.1⟩:PSum)) (fun _ _=>rfl) (fun _ h=>by
   obtain ⟨h1,h2,h3,h4,h5,h6,h7,h8,h9,_⟩:=h
   exact ⟨⟨h1,h4,h5,h6,h7,h8⟩,h2.1,h2.2,h3,h9⟩)
end
section
open Go.RowKit
theorem getA_found {l:List PAttr} {nm:ByteArray} (h:(getA l nm).2=true):(getA l nm).1∈l∧eqB (getA l nm).1.name nm=true:=by
 induction l with
 |nil=>simp [getA] at h
 |cons a r ih=>
  unfold getA at h ⊢
  split
  ·rename_i q;exact ⟨by simp,q⟩
  ·rename_i q
   rw [if_neg q] at h
   exact ⟨by simp [(ih h).1],(ih h).2⟩
end
section
open Go.ChangeShapes Go.WideShapes Go.ChangeAt Go.RowKit
theorem argEntry2:ArgOpens Tryz.prog 50 pentry GoodE:=arg_struct Tryz.underlying50 opensEntry
end
end Go.Proofs.YtoamkpgaaanafaaGreat
