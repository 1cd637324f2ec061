/- Out of: AttrK. -/
import Derived.Test.YtmeekbjhpidcgaaGreatDoorG25
namespace Go.Proofs.YtmeekbjhpidcgaaGreatDoor
set_option linter.unusedSimpArgs false
set_option linter.unusedVariables false
set_option linter.unnecessarySimpa false
section
open Go.RowKit
theorem AttrAt.box (w:World) (a:PAttr) (T:TypeId):AttrAt (w.alloc (.cells #[.string a.name, .int .i64 a.kind, .int .i64 a.n, .string a.s] T)) w.heap.size 0 a:=by
 refine ⟨?_,?_,?_,?_⟩<;>simp
def GotRet (w:World) (r:PAttr×Bool) (e:Ending) (w' : World):Prop:=
 e = .returned (.agg #[.string r.1.name, .int .i64 r.1.kind, .int .i64 r.1.n, .string r.1.s, .bool r.2])∧Below w.heap.size w w'
theorem GotRet.mk {w w' : World} {r:PAttr×Bool} {a:PAttr} {b:Bool} (h:r=(a,b)) (hb:Below w.heap.size w w'):GotRet w r (.returned (.agg #[.string a.name, .int .i64 a.kind, .int .i64 a.n, .string a.s, .bool b])) w':=by
 subst h;exact ⟨rfl,hb⟩
def GetRet (w:World) (r:PAttr×Bool) (e:Ending) (w' : World):Prop:=
 e = .returned (.tuple #[attrV r.1, .bool r.2])∧Below w.heap.size w w'
theorem GetRet.mk {w w' : World} {r:PAttr×Bool} {a:PAttr} {b:Bool} (h:r=(a,b)) (hb:Below w.heap.size w w'):GetRet w r (.returned (.tuple #[.agg #[.string a.name, .int .i64 a.kind, .int .i64 a.n, .string a.s], .bool b])) w':=by
 subst h;exact ⟨rfl,hb⟩
end
end Go.Proofs.YtmeekbjhpidcgaaGreatDoor
