/- Out of: AttrF. -/
import Derived.Test.YtmeekbjhpidcgaaGreatDoorG19
namespace Go.Proofs.YtmeekbjhpidcgaaGreatDoor
set_option linter.unusedSimpArgs false
set_option linter.unusedVariables false
set_option linter.unnecessarySimpa false
section
open Go.RowKit
def SchAt (w:World) (g:Nat) (s:PSchema) (dv:Value):Prop:=w.cell? ⟨g,0,none⟩=some (.int .i64 s.dims)∧w.cell? ⟨g,1,none⟩=some (.int .i64 s.metric)∧w.cell? ⟨g,2,none⟩=some dv∧Defs w dv s.defs
theorem SchAt.below {w w' : World} {g:Nat} {s:PSchema} {dv:Value} (h:SchAt w g s dv) (hb:Below w.heap.size w w'):SchAt w' g s dv:=
 ⟨below_cell hb h.1,below_cell hb h.2.1,below_cell hb h.2.2.1,h.2.2.2.below hb⟩
theorem SchAt.box (w:World) (s:PSchema) (dv:Value) (T:TypeId) (h:Defs w dv s.defs):SchAt (w.alloc (.cells #[.int .i64 s.dims, .int .i64 s.metric,dv] T)) w.heap.size s dv:=by
 refine ⟨?_,?_,?_,h.below (below_alloc _ _)⟩<;>simp
end
end Go.Proofs.YtmeekbjhpidcgaaGreatDoor
