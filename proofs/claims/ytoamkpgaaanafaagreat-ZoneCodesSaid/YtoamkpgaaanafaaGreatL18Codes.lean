/- Proved here: antiquarylaw18.ZoneCodes returns true for every input, and leaves its arguments as they were. No conditions. -/
import Derived.Test.YtoamkpgaaanafaaGreatK1
import Derived.Test.YtoamkpgaaanafaaGreatK4
import Derived.Test.YtoamkpgaaanafaaGreatK5
import Derived.Test.YtoamkpgaaanafaaGreatK6
import Derived.Test.YtoamkpgaaanafaaGreatK8
import Derived.Test.YtoamkpgaaanafaaGreatK12
import Derived.Test.YtoamkpgaaanafaaGreatK13
import Derived.Test.YtoamkpgaaanafaaGreatK18
import Derived.Test.YtoamkpgaaanafaaGreatK27
import Derived.Test.YtoamkpgaaanafaaGreatK33
namespace Go.Proofs.YtoamkpgaaanafaaGreat
set_option linter.unusedSimpArgs false
set_option linter.unusedVariables false
set_option linter.unnecessarySimpa false
section
open Go.ChangeShapes Go.WideShapes Go.ChangeAt Go.RowKit
set_option maxRecDepth 100000 in
theorem codes_lifted (os:Os) (started:os.Started) (H:Type) (enc:TypeId×Value→H) :
  ReturnsInHanded {} Tryz.checked os 10 .any (Rows.zoneCodesSpec.pre6 enc Tryz.prog Tryz.f10 Rows.zoneCodesRow.domain false) (Rows.zoneCodesSpec.post enc Tryz.prog Tryz.f10 false true false false):=by
 refine law_lifted os started H enc Tryz.func10 (by kernel_rfl)
  (ChangeSpec.witness6 (enc:=enc) (C:=Tryz.checked) false ⟨#[],#[.agg #[.int .i64 0, .slice none 0 0, .slice none 0 0, .slice none 0 0, .int .i64 0, .int .i64 0, .int .i64 0, .int .i64 0, .int .i64 0, .slice none 0 0], .slice none 0 0],[]⟩ 8 (by kernel_rfl) (by kernel_rfl) (by kernel_rfl) (by kernel_rfl))
  Tryz.underlying4 rfl rfl (by kernel_rfl) (fun ds hd=>?_)
  (argsOpen_cons argSum (argsOpen_cons argBytes argsOpen_nil)) (fun y hy=>?_)
 ·match ds,hd with
  | [d1,d2],_=>exact ⟨rfl,rfl,rfl⟩
 ·obtain ⟨z,bs,u⟩:=y
  obtain ⟨hz,hbs,-⟩:=hy
  have r:=reach_eq
  have h1:bs.length * 1≤reachBytes:=hbs.2
  exact pw_lCodes z bs (fun k c hk=>hbs.1 c (List.mem_of_getElem? hk)) (by omega) hz.num hz.big
set_option maxRecDepth 100000 in
set_option maxHeartbeats 20000000 in
theorem codes_closed:joinedFacts Tryz.pinned.checked.prog 10 Tryz.f10 Rows.zoneCodesSpec Rows.zoneCodesRow=true:=by
 simp only [joinedFacts,Bool.and_eq_true]
 repeat' (refine And.intro ?_ ?_)
 all_goals (as_aux_lemma=>kernel_rfl)
theorem zoneCodes_holds:Rows.ZoneCodesSaid:=
 OpenClaim.holds_of_wide 10 Tryz.f10 rfl rfl rfl rfl rfl rfl rfl ⟨rfl,rfl,rfl,rfl,rfl⟩ rfl rfl rfl rfl rfl (by kernel_rfl) Tryz.func10 codes_closed
  (of_decide_eq_true (by kernel_rfl)) (by unfold Func.isWrapper;first|(rw [if_pos (by decide +kernel)];kernel_rfl)|(rw [if_neg (by decide +kernel)];exact ⟨rfl,rfl⟩))
  (fun os started H enc _=>codes_lifted os started H enc)
end
#print axioms zoneCodes_holds
end Go.Proofs.YtoamkpgaaanafaaGreat
