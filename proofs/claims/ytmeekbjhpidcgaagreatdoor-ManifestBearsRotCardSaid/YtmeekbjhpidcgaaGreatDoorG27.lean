/- Out of: Opens, PwQ, Pa. -/
import Derived.Test.YtmeekbjhpidcgaaGreatDoorG16
import Derived.Test.YtmeekbjhpidcgaaGreatDoorG20
import Derived.Test.YtmeekbjhpidcgaaGreatDoorG24
namespace Go.Proofs.YtmeekbjhpidcgaaGreatDoor
set_option linter.unusedSimpArgs false
set_option linter.unusedVariables false
set_option linter.unnecessarySimpa false
section
open Go.ChangeShapes Go.WideShapes Go.ChangeAt Go.RowKit
variable {P:Program} {t e:TypeId}
theorem arg_slice {α:Type} {pe:α→PV} {ok:α→Prop} (ht:P.underlying t=some (.slice e)) (h0:Opens P t (fun x => [pe x]) ok):ArgOpens P t pe ok:=by
 intro H enc W base v d pl hv ⟨fuel,h⟩ hw
 obtain ⟨a,l,c,rfl⟩:=okWide_slice ht hv
 obtain ⟨y,k1,k2⟩:=h0 H enc W fuel _ d pl h hw
 exact ⟨y,k1,repL_one1 k2⟩
end
section
open Go.RowKit
theorem pcalls2 {P:Program} {f:FuncId} {p q:PV} {post:PV→Prop} (hc:callB P f=true) (h:∀(Φ:Imm) (μ:Nat→Option Nat) (w:World) (v u:Value),(∀b o u,Φ b o=some u→w.cell? ⟨b,o,none⟩=some u)→Rep Φ μ p v→Rep Φ μ q u→Calls P f #[v,u] w (CallPost Φ w post)):PCalls P f [p,q] post:=by
 refine ⟨hc,fun Φ μ w vs himm hgl hr=>?_⟩
 match vs,hr with
 | [v,u],hr=>exact h Φ μ w v u himm (hr.2 0 _ _ rfl rfl) (hr.2 1 _ _ rfl rfl)
 | [],hr=>exact absurd hr.1 (by simp)
 | [_],hr=>exact absurd hr.1 (by simp)
 |_ :: _ :: _ :: _,hr=>exact absurd hr.1 (by simp)
theorem pcRefInts (zs:List Int) (hf:Fit zs) (hl:zs.length≤1000000000):PCalls Tryz.prog 42 [pints zs] (· = pbytesO (intsB zs)):=
 pcalls1 (by kernel_rfl) fun Φ μ w v himm hr=>(refInts v zs w (ints_of_rep himm hr) hf hl).mono (by
  rintro e w' ⟨u,rfl,ho,hb⟩
  exact post_own himm (plain_int _) ho hb)
theorem pcRefStrings (zs:List ByteArray) (hf:SmallStrs zs) (hl:zs.length≤1000000):PCalls Tryz.prog 43 [pstrs zs] (· = pbytesO (strsB zs)):=
 pcalls1 (by kernel_rfl) fun Φ μ w v himm hr=>(refStrings v zs w (strs_of_rep himm hr) hf hl).mono (by
  rintro e w' ⟨u,rfl,ho,hb⟩
  exact post_own himm (plain_int _) ho hb)
end
end Go.Proofs.YtmeekbjhpidcgaaGreatDoor
