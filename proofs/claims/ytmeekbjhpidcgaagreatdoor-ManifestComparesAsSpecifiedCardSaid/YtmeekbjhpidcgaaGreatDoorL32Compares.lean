/- Proved here: the tied card of antiquarylaw32.ManifestComparesAsSpecified: it returns true for every input, and leaves its arguments as they were; the table of hash.constants is as the program's text lays it (tied). No conditions beyond. -/
import Derived.Test.YtmeekbjhpidcgaaGreatDoorTie
import Derived.Test.YtmeekbjhpidcgaaGreatDoorCards
import Derived.SevenTiedAt
import Derived.Test.YtmeekbjhpidcgaaGreatDoorG39
namespace Go.Proofs.YtmeekbjhpidcgaaGreatDoor
set_option linter.unusedSimpArgs false
set_option linter.unusedVariables false
set_option linter.unnecessarySimpa false
section
open Go.ChangeShapes Go.WideShapes Go.ChangeAt Go.RowKit
set_option maxRecDepth 100000 in
theorem mCompares_lifted (os:Os) (started:os.Started) (H:Type) (enc:TypeId×Value→H) :
  ReturnsInHanded {} Tryz.checked os 4 .any (fun w args=>(Rows.manifestComparesAsSpecifiedSpec.pre enc Tryz.prog Tryz.f4 Rows.manifestComparesAsSpecifiedRow.domain false w args∧laidMetH Tryz.prog laidL w)∧sizedMet enc Tryz.prog Tryz.f4 (OpenSpec.ofChange Rows.manifestComparesAsSpecifiedSpec) false w args)
   (Rows.manifestComparesAsSpecifiedSpec.post enc Tryz.prog Tryz.f4 false true false false):=by
 refine law_liftedL os started H enc Tryz.func4 (by kernel_rfl)
  (ChangeSpec.witness_shaped (enc:=enc) (C:=Tryz.checked) (os:=os) (X:=fun w _=>laidMetH Tryz.prog laidL w) false (World.doorLaid Tryz.prog 2000 os) #[.agg #[.int .i64 0, .slice none 0 0, .slice none 0 0], .agg #[.int .i64 0, .slice none 0 0, .slice none 0 0], .int .i64 0, .int .i64 0] 8 rfl (World.shaped_of_RefB (by kernel_rfl) (by kernel_rfl)) (by kernel_rfl) (by kernel_rfl) (by kernel_rfl) (door_met os _))
  Tryz.underlying4 rfl rfl (by kernel_rfl) (fun ds hd=>?_)
  (argsOpen_cons argMan (argsOpen_cons argMan (argsOpen_cons argI (argsOpen_cons argI argsOpen_nil)))) (fun y hy=>?_) laid_glob
 ·match ds,hd with
  | [d1,d2,d3,d4],_=>exact ⟨rfl,rfl,rfl⟩
 ·obtain ⟨a,b,k,i,u⟩:=y
  obtain ⟨ha,hb,-,-,-⟩:=hy
  have e:=reachE
  simp only at ha hb
  exact pw_lCompares a b k i ha.digs hb.digs ha.len.1 ha.len.2 hb.len.1 hb.len.2
set_option maxRecDepth 100000 in
set_option maxHeartbeats 20000000 in
theorem mCompares_closed:joinedFacts Tryz.pinned.checked.prog 4 Tryz.f4 Rows.manifestComparesAsSpecifiedSpec Rows.manifestComparesAsSpecifiedRow=true:=by
 simp only [joinedFacts,Bool.and_eq_true]
 repeat' (refine And.intro ?_ ?_)
 all_goals (as_aux_lemma=>kernel_rfl)
theorem mCompares_row:Rows.ManifestComparesAsSpecifiedSaid:=
 OpenClaim.holds_of_wide 4 Tryz.f4 rfl rfl rfl rfl rfl rfl rfl ⟨rfl,rfl,rfl,rfl,rfl⟩ rfl rfl rfl rfl rfl (by kernel_rfl) Tryz.func4 mCompares_closed
  (of_decide_eq_true (by kernel_rfl)) (by unfold Func.isWrapper;first|(rw [if_pos (by decide +kernel)];kernel_rfl)|(rw [if_neg (by decide +kernel)];exact ⟨rfl,rfl⟩))
  (fun os started H enc _=>mCompares_lifted os started H enc)
theorem mCompares_holds:Rows.ManifestComparesAsSpecifiedCardSaid:=
 Claim7.holds_tied_plain_at .later [] [.data] true Rows.manifestComparesAsSpecifiedCard.stood.harness false
  mCompares_row (fun _ h=>by cases h) (by kernel_rfl) (fun _ h=>by cases h) manifestComparesAsSpecified_row_tie rfl ⟨rfl,rfl⟩ (by kernel_rfl) rfl
  (fun f fn hf hfn=>by
   obtain rfl:f=4:=Option.some.inj ((show Tryz.prog.funcNamed "antiquary/antiquarylaw32.ManifestComparesAsSpecified" = some 4 by kernel_rfl).symm.trans hf) |>.symm
   obtain rfl:fn=Tryz.f4:=(Option.some.inj (Tryz.func4.symm.trans hfn)).symm
   exact ⟨by kernel_rfl,fun j t ht=>by
    rw [Tryz.params4] at ht
    have hm:t ∈ [25,3]:=by simpa using Array.mem_of_getElem? ht
    have hall:([25,3].all fun u => !Tryz.prog.wantsStandIn u)=true:=by kernel_rfl
    exact (show Tryz.prog.wantsStandIn t=false by simpa using List.all_eq_true.1 hall t hm)⟩)
  (by kernel_rfl)
end
#print axioms mCompares_holds
end Go.Proofs.YtmeekbjhpidcgaaGreatDoor
