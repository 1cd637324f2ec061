/- Out of: Ya. -/
import Derived.Test.YtoamkpgaaanafaaGreatRows
import Derived.WalkKit
import Derived.WalkSpells
import Derived.WalkLawsBesides
import Derived.Deep.QuietTactic
import Derived.BigQuiet
import Derived.RegionTactic
import Derived.Lib.AppendZeros
import Derived.Lib.AppendStr
import Derived.Lib.Hide
import Derived.OrdersIn
import Derived.Laws.BytesString
import Derived.WideLaws
import Derived.RangeFuncRecord
import Derived.Orders
import GoSem.Step
import Derived.Laws.RangeAny
import Derived.Lib.OthersKept
import Derived.Outline
import Derived.Laws.EntriesVeiled
import Derived.KernelRfl
import Derived.StillTailTactics
import Derived.Deep.Cut
import Derived.RangeFuncCalls
import Derived.Lib.BitFns
import Derived.Test.YtoamkpgaaanafaaGreatShelf
import Derived.Test.YtoamkpgaaanafaaGreatIter
import Derived.Laws.Strings
import Derived.Test.YtoamkpgaaanafaaGreatG1
import Derived.Test.YtoamkpgaaanafaaGreatG3
import Derived.Test.YtoamkpgaaanafaaGreatG6
import Derived.Test.YtoamkpgaaanafaaGreatG7
import Derived.Test.YtoamkpgaaanafaaGreatG8
import Derived.Test.YtoamkpgaaanafaaGreatG11
import Derived.Test.YtoamkpgaaanafaaGreatG14
import Derived.Test.YtoamkpgaaanafaaGreatG15
import Derived.Test.YtoamkpgaaanafaaGreatG21
import Derived.Test.YtoamkpgaaanafaaGreatG25
import Derived.Test.YtoamkpgaaanafaaGreatG32
namespace Go.Proofs.YtoamkpgaaanafaaGreat
set_option linter.unusedSimpArgs false
set_option linter.unusedVariables false
set_option linter.unnecessarySimpa false
section
open Go.RowKit
noncomputable def joinF (a b:PField):PField:=
 if a.has=0 then (if 0 < a.has then ⟨b.has+a.has,mnI b.lo a.lo,mxI b.hi a.hi,sortS (setK (b.words ++ a.words))⟩ else ⟨b.has,b.lo,b.hi,sortS (setK (b.words ++ a.words))⟩)
 else (if 0 < b.has then ⟨a.has+b.has,mnI a.lo b.lo,mxI a.hi b.hi,sortS (setK (a.words ++ b.words))⟩ else ⟨a.has,a.lo,a.hi,sortS (setK (a.words ++ b.words))⟩)
theorem joinF_R {a b:PField} (ha:FieldOK a) (hb:FieldOK b):joinF a b=joinR a b:=by
 unfold joinF joinR
 by_cases h1:a.has=0
 ·rw [if_pos h1,if_pos h1,if_neg (by omega),(ha.none h1).2.2,List.append_nil,sortS_set hb.asc]
 ·rw [if_neg h1,if_neg h1]
  by_cases h2:b.has=0
  ·rw [if_pos h2,if_neg (by omega),(hb.none h2).2.2,List.append_nil,sortS_set ha.asc]
  ·rw [if_neg h2,if_pos (by have:=hb.has;omega),sortS_two ha.asc hb.asc]
theorem fldOne_ok (d:PDef) (e:PEntry):FieldOK (fldOne d e):=by
 unfold fldOne
 split
 ·refine ⟨by simp,fun h=>by simp at h,?_⟩
  simp only;split
  ·exact asc_one _
  ·exact asc_nil
 ·exact ⟨by simp,fun _=>⟨rfl,rfl,rfl⟩,asc_nil⟩
theorem fieldOfP_ok (d:PDef) (l:List PEntry):FieldOK (fieldOfP d l):=by
 obtain ⟨h1,h2,h3⟩:=fldSt_inv d l
 refine ⟨h1,fun h=>?_,sortS_asc h2⟩
 obtain ⟨a,b,c⟩:=h3 h
 exact ⟨a,b,by simp [fieldOfP,c,sortS_nil]⟩
theorem joinSum_eq {s:PSchema} {a b:PSum} (h:∀k,k < s.defs.length→FieldOK (a.fields.getD k default)∧FieldOK (b.fields.getD k default)):joinSum joinF s a b=joinSum joinR s a b:=by
 unfold joinSum
 split
 ·rfl
 ·split
  ·rfl
  ·congr 2
   exact List.map_congr_left fun k hk=>joinF_R (h k (by simpa using hk)).1 (h k (by simpa using hk)).2
end
end Go.Proofs.YtoamkpgaaanafaaGreat
