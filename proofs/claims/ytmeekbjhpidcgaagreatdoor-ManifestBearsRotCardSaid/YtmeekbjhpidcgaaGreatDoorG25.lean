/- Out of: AttrJ. -/
import Derived.Test.YtmeekbjhpidcgaaGreatDoorG23
namespace Go.Proofs.YtmeekbjhpidcgaaGreatDoor
set_option linter.unusedSimpArgs false
set_option linter.unusedVariables false
set_option linter.unnecessarySimpa false
section
open Go.RowKit
def FewRet (w:World) (p:Prop) (e:Ending) (w' : World):Prop:=∃b:Bool,e = .returned (.bool b)∧(b=true→p)∧Below w.heap.size w w'
theorem FewRet.mk {w w' : World} {p:Prop} {b:Bool} (h:b=true→p) (hb:Below w.heap.size w w'):FewRet w p (.returned (.bool b)) w':=⟨b,rfl,h,hb⟩
def EntAt (w:World) (g:Nat) (e:PEntry) (vv av:Value):Prop:=
 w.cell? ⟨g,0,none⟩=some (.int .i64 e.id)∧w.cell? ⟨g,1,none⟩=some (.int .i64 e.ver)∧w.cell? ⟨g,2,none⟩=some (.int .i64 e.owner)∧w.cell? ⟨g,3,none⟩=some (.int .i64 e.filed) ∧
 w.cell? ⟨g,4,none⟩=some (.int .i64 e.frm)∧w.cell? ⟨g,5,none⟩=some (.int .i64 e.to)∧w.cell? ⟨g,6,none⟩=some (.int .i64 e.born)∧w.cell? ⟨g,7,none⟩=some vv∧w.cell? ⟨g,8,none⟩=some av∧Ints w vv e.vec∧Attrs w av e.attrs
theorem EntAt.below {w w' : World} {g:Nat} {e:PEntry} {vv av:Value} (h:EntAt w g e vv av) (hb:Below w.heap.size w w'):EntAt w' g e vv av:=by
 obtain ⟨h0,h1,h2,h3,h4,h5,h6,h7,h8,h9,h10⟩:=h
 exact ⟨below_cell hb h0,below_cell hb h1,below_cell hb h2,below_cell hb h3,below_cell hb h4,below_cell hb h5,below_cell hb h6,below_cell hb h7,below_cell hb h8,h9.below hb,h10.below hb⟩
theorem EntAt.box (w:World) (e:PEntry) (vv av:Value) (T:TypeId) (h:Ints w vv e.vec) (h2:Attrs w av e.attrs):EntAt (w.alloc (.cells #[.int .i64 e.id, .int .i64 e.ver, .int .i64 e.owner, .int .i64 e.filed, .int .i64 e.frm, .int .i64 e.to, .int .i64 e.born,vv,av] T)) w.heap.size e vv av:=by
 refine ⟨?_,?_,?_,?_,?_,?_,?_,?_,?_,h.below (below_alloc _ _),h2.below (below_alloc _ _)⟩<;>simp
end
end Go.Proofs.YtmeekbjhpidcgaaGreatDoor
