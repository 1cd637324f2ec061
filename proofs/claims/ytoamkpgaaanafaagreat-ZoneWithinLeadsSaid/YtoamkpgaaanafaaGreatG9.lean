/- Out of: StrB. -/
import Derived.Test.YtoamkpgaaanafaaGreatRows
import Derived.WalkKit
import Derived.WalkSpells
import Derived.WalkLawsBesides
import Derived.Deep.QuietTactic
import Derived.BigQuiet
import Derived.RegionTactic
import Derived.Lib.AppendZeros
import Derived.Lib.AppendStr
import Derived.Laws.BytesString
import Derived.Test.YtoamkpgaaanafaaGreatG1
import Derived.Test.YtoamkpgaaanafaaGreatG3
import Derived.Test.YtoamkpgaaanafaaGreatG6
namespace Go.Proofs.YtoamkpgaaanafaaGreat
set_option linter.unusedSimpArgs false
set_option linter.unusedVariables false
set_option linter.unnecessarySimpa false
section
open Go.RowKit
def MadeStrsN (w:World) (r:List ByteArray×Int×Int) (e:Ending) (w' : World):Prop:=
 ∃v,e = .returned (.tuple #[v, .int .i64 r.2.1, .int .i64 r.2.2])∧Own w.heap.size 9 w' v (r.1.map Value.string)∧Below w.heap.size w w'
theorem MadeStrsN.mk {w w' : World} {r:List ByteArray×Int×Int} {l:List ByteArray} {x y:Int} {v:Value} (h:r=(l,x,y)) (ho:Own w.heap.size 9 w' v (l.map Value.string)) (hb:Below w.heap.size w w') :
  MadeStrsN w r (.returned (.tuple #[v, .int .i64 x, .int .i64 y])) w':=by
 subst h;exact ⟨v,rfl,ho,hb⟩
def RetS3 (w:World) (r:ByteArray×Int×Int) (e:Ending) (w' : World):Prop:=
 e = .returned (.tuple #[.string r.1, .int .i64 r.2.1, .int .i64 r.2.2])∧Still w w'
theorem RetS3.mk {w w' : World} {r:ByteArray×Int×Int} {x:ByteArray} {y z:Int} (h:r=(x,y,z)) (hs:Still w w'):RetS3 w r (.returned (.tuple #[.string x, .int .i64 y, .int .i64 z])) w':=by
 subst h;exact ⟨rfl,hs⟩
theorem Bytes.empty {w:World} {a:Option Addr} {c:Nat} (hc:c≤maxLen):Bytes w (.slice a 0 c) []:=
 ⟨a,c,0,0,rfl,by simp,hc,fun h=>by simp at h,fun j u hu=>by simp at hu⟩
end
end Go.Proofs.YtoamkpgaaanafaaGreat
