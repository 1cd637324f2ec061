/- Proved here: antiquarylaw18.ZoneSumsAsSpecified returns true for every input, and leaves its arguments as they were. No conditions. -/
import Derived.Test.YtoamkpgaaanafaaGreatS49
import Derived.Test.YtoamkpgaaanafaaGreatS50
namespace Go.Proofs.YtoamkpgaaanafaaGreat
set_option linter.unusedSimpArgs false
set_option linter.unusedVariables false
set_option linter.unnecessarySimpa false
open Go.ChangeShapes Go.WideShapes Go.ChangeAt Go.RowKit
set_option maxRecDepth 100000 in
theorem sums_lifted (os:Os) (started:os.Started) (H:Type) (enc:TypeId×Value→H) :
  ReturnsInHanded {} Tryz.checked os 3 .any (Rows.zoneSumsAsSpecifiedSpec.pre6 enc Tryz.prog Tryz.f3 Rows.zoneSumsAsSpecifiedRow.domain false) (Rows.zoneSumsAsSpecifiedSpec.post enc Tryz.prog Tryz.f3 false true false false):=by
 refine law_lifted os started H enc Tryz.func3 (by kernel_rfl)
  (ChangeSpec.witness6 (enc:=enc) (C:=Tryz.checked) false ⟨#[],#[.agg #[.int .i64 0, .int .i64 0, .slice none 0 0], .slice none 0 0, .slice none 0 0, .agg #[.int .i64 0, .slice none 0 0, .slice none 0 0, .slice none 0 0, .int .i64 0, .int .i64 0, .int .i64 0, .int .i64 0, .int .i64 0, .slice none 0 0], .int .i64 0],[]⟩ 8 (by kernel_rfl) (by kernel_rfl) (by kernel_rfl) (by kernel_rfl))
  Tryz.underlying4 rfl rfl (by kernel_rfl) (fun ds hd=>?_)
  (argsOpen_cons argSchema (argsOpen_cons argVecs (argsOpen_cons argEntries (argsOpen_cons argSum (argsOpen_cons argInt argsOpen_nil))))) (fun y hy=>?_)
 ·match ds,hd with
  | [d1,d2,d3,d4,d5],_=>exact ⟨rfl,rfl,rfl⟩
 ·obtain ⟨s,pv,l,z,n,u⟩:=y
  obtain ⟨hs,hp,hl,hz,-⟩:=hy
  have r:=reach_eq
  have h1:pv.length * 24≤reachBytes:=hp.2
  have h2:l.length * 104≤reachBytes:=hl.2
  exact pw_lSums s pv l z n hs.big.1 hs.big.2 (by omega) (by omega) (fun e he=>(hl.1 e he).big) (fun e he=>by have f:=(hl.1 e he).fit;exact ⟨f.frm,f.to,f.born⟩) (fun e he a ha=>((hl.1 e he).fit.attrs a ha).2) hz.big
set_option maxRecDepth 100000 in
set_option maxHeartbeats 20000000 in
theorem sums_closed:joinedFacts Tryz.pinned.checked.prog 3 Tryz.f3 Rows.zoneSumsAsSpecifiedSpec Rows.zoneSumsAsSpecifiedRow=true:=by
 simp only [joinedFacts,Bool.and_eq_true]
 repeat' (refine And.intro ?_ ?_)
 all_goals (as_aux_lemma=>kernel_rfl)
theorem zoneSums_holds:Rows.ZoneSumsAsSpecifiedSaid:=
 OpenClaim.holds_of_wide 3 Tryz.f3 rfl rfl rfl rfl rfl rfl rfl ⟨rfl,rfl,rfl,rfl,rfl⟩ rfl rfl rfl rfl rfl (by kernel_rfl) Tryz.func3 sums_closed
  (of_decide_eq_true (by kernel_rfl)) (by unfold Func.isWrapper;first|(rw [if_pos (by decide +kernel)];kernel_rfl)|(rw [if_neg (by decide +kernel)];exact ⟨rfl,rfl⟩))
  (fun os started H enc _=>sums_lifted os started H enc)
#print axioms zoneSums_holds
end Go.Proofs.YtoamkpgaaanafaaGreat
