/- Out of: AttrE. -/
import Derived.Test.YtmeekbjhpidcgaaGreatDoorG17
namespace Go.Proofs.YtmeekbjhpidcgaaGreatDoor
set_option linter.unusedSimpArgs false
set_option linter.unusedVariables false
set_option linter.unnecessarySimpa false
section
open Go.RowKit
theorem flat_get {α:Type} (k:Nat):∀(rows:List (List α)),(∀r∈rows,r.length=k)→∀(i j:Nat) (r:List α) (u:α),rows[i]? = some r→r[j]? = some u→rows.flatten[i * k+j]? = some u
 | [],_,i,j,r,u,h,_=>by simp at h
 |x :: xs,hk,0,j,r,u,h,hu=>by
  simp at h;subst h
  have hj:j < x.length:=(List.getElem?_eq_some_iff.1 hu).1
  rw [List.flatten_cons,Nat.zero_mul,Nat.zero_add,List.getElem?_append_left hj]
  exact hu
 |x :: xs,hk,i+1,j,r,u,h,hu=>by
  have hx:=hk x (by simp)
  rw [List.flatten_cons,List.getElem?_append_right (by rw [hx,Nat.succ_mul];omega),hx]
  have e:(i+1) * k+j - k=i * k+j:=by rw [Nat.succ_mul];omega
  rw [e]
  exact flat_get k xs (fun r hr=>hk r (by simp [hr])) i j r u (by simpa using h) hu
theorem RdS.lit (w:World) (k:Nat) (rows:List (List Value)) (hk:∀r∈rows,r.length=k) (T:TypeId) (hm:rows.length≤maxLen) :
  RdS (w.alloc (.cells rows.flatten.toArray T)) (.slice (some ⟨w.heap.size,0,none⟩) rows.length rows.length) k rows:=by
 refine ⟨_,_,w.heap.size,0,rfl,Nat.le_refl _,hm,fun _=>rfl,fun i j r u hr hu=>?_⟩
 have:=flat_get k rows hk i j r u hr hu
 rw [←this]
 simp [cell_of_row _ _ _ _ _ (0,0) (heap_alloc_new w (.cells rows.flatten.toArray T))]
theorem Rules.lit (w:World) (rs:List Rule) (T:TypeId) (hm:rs.length≤1000):Rules (w.alloc (.cells (rs.map ruleC).flatten.toArray T)) (.slice (some ⟨w.heap.size,0,none⟩) rs.length rs.length) rs:=by
 have:=RdS.lit w 2 (rs.map ruleC) (by intro r hr;obtain ⟨x,_,rfl⟩:=List.mem_map.1 hr;rfl) T (by simp [maxLen];omega)
 simpa [Rules] using this
theorem Rules.mk {w:World} {g n:Nat} {T:TypeId} {cs:Array Value} (rs:List Rule) (hm:rs.length≤1000) (hg:g=w.heap.size) (hn:n=rs.length) (hcs:cs=(rs.map ruleC).flatten.toArray) :
  Rules (w.alloc (.cells cs T)) (.slice (some ⟨g,0,none⟩) n n) rs:=by
 subst hg hn hcs
 exact Rules.lit w rs T hm
theorem DefAt.box (w:World) (d:PDef) (wv:Value) (T:TypeId):DefAt (w.alloc (.cells #[.string d.name, .int .i64 d.kind, .int .i64 d.lo, .int .i64 d.hi,wv] T)) w.heap.size 0 d wv:=by
 refine ⟨?_,?_,?_,?_,?_⟩<;>simp
def EnvD (d:PDef) (wv:Value) (bf:ByteArray) (g h:Nat) (w:World):Prop:=DefAt w g 0 d wv∧Strs w wv d.words∧w.cell? ⟨h,0,none⟩=some (.string bf)
theorem EnvD.below {d:PDef} {wv:Value} {bf:ByteArray} {g h:Nat} {w w' : World} (e:EnvD d wv bf g h w) (hb:Below w.heap.size w w'):EnvD d wv bf g h w':=
 ⟨e.1.below hb,e.2.1.below hb,below_cell hb e.2.2⟩
end
end Go.Proofs.YtmeekbjhpidcgaaGreatDoor
