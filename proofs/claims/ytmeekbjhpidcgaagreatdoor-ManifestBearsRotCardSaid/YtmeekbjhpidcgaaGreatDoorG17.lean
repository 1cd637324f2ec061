/- Out of: AttrC. -/
import Derived.Laws.RangeAny
import Derived.Lib.OthersKept
import Derived.Outline
import Derived.Laws.EntriesVeiled
import Derived.Test.YtmeekbjhpidcgaaGreatDoorG12
namespace Go.Proofs.YtmeekbjhpidcgaaGreatDoor
set_option linter.unusedSimpArgs false
set_option linter.unusedVariables false
set_option linter.unnecessarySimpa false
section
open Go.RowKit
structure Rule where
 f:Nat
 caps:Array Value
 b:Bool
 e:Int
def ruleC (r:Rule):List Value := [.func (.func r.f) #[] r.caps, .int .i64 r.e]
def Rules (w:World) (v:Value) (rs:List Rule):Prop:=RdS w v 2 (rs.map ruleC)
theorem Rules.open {w:World} {v:Value} {l:List Rule} (h:Rules w v l):∃a cap b off,v = .slice a l.length cap∧l.length≤cap∧cap≤maxLen ∧
  (0 < l.length→a=some ⟨b,off,none⟩)∧Hid (∀i x,l[i]? = some x→w.cell? ⟨b,off+i * 2,none⟩=some (.func (.func x.f) #[] x.caps)∧w.cell? ⟨b,off+i * 2+1,none⟩=some (.int .i64 x.e)):=by
 obtain ⟨a,cap,b,off,h1,h2,h3,h4,h5⟩:=h
 simp only [List.length_map] at h1 h2 h4
 refine ⟨a,cap,b,off,h1,h2,h3,h4,fun i x hx=>?_⟩
 have e:(l.map ruleC)[i]? = some (ruleC x):=by simp [hx]
 exact ⟨h5 i 0 _ _ e rfl,h5 i 1 _ _ e rfl⟩
end
end Go.Proofs.YtmeekbjhpidcgaaGreatDoor
