/- Proved here: the tied card of antiquarylaw32.ManifestReadsAsSpecified: it returns true for every input, and leaves its arguments as they were; the table of hash.constants is as the program's text lays it (tied). No conditions beyond. -/
import Derived.Test.YtmeekbjhpidcgaaGreatDoorTie
import Derived.Test.YtmeekbjhpidcgaaGreatDoorCards
import Derived.SevenTiedAt
import Derived.Test.YtmeekbjhpidcgaaGreatDoorG38
namespace Go.Proofs.YtmeekbjhpidcgaaGreatDoor
set_option linter.unusedSimpArgs false
set_option linter.unusedVariables false
set_option linter.unnecessarySimpa false
section
open Go.ChangeShapes Go.WideShapes Go.ChangeAt Go.RowKit
set_option maxRecDepth 100000 in
theorem mReads_lifted (os:Os) (started:os.Started) (H:Type) (enc:TypeId×Value→H) :
  ReturnsInHanded {} Tryz.checked os 3 .any (fun w args=>(Rows.manifestReadsAsSpecifiedSpec.pre enc Tryz.prog Tryz.f3 Rows.manifestReadsAsSpecifiedRow.domain false w args∧laidMetH Tryz.prog laidL w)∧sizedMet enc Tryz.prog Tryz.f3 (OpenSpec.ofChange Rows.manifestReadsAsSpecifiedSpec) false w args)
   (Rows.manifestReadsAsSpecifiedSpec.post enc Tryz.prog Tryz.f3 false true false false):=by
 refine law_liftedL os started H enc Tryz.func3 (by kernel_rfl)
  (ChangeSpec.witness_shaped (enc:=enc) (C:=Tryz.checked) (os:=os) (X:=fun w _=>laidMetH Tryz.prog laidL w) false (World.doorLaid Tryz.prog 2000 os) #[.agg #[.int .i64 0, .slice none 0 0, .slice none 0 0], .slice none 0 0] 8 rfl (World.shaped_of_RefB (by kernel_rfl) (by kernel_rfl)) (by kernel_rfl) (by kernel_rfl) (by kernel_rfl) (door_met os _))
  Tryz.underlying4 rfl rfl (by kernel_rfl) (fun ds hd=>?_)
  (argsOpen_cons argMan (argsOpen_cons argBs argsOpen_nil)) (fun y hy=>?_) laid_glob
 ·match ds,hd with
  | [d1,d2],_=>exact ⟨rfl,rfl,rfl⟩
 ·obtain ⟨m,bs,u⟩:=y
  obtain ⟨hm,hb,-⟩:=hy
  have e:=reachE
  simp only at hm hb
  exact pw_lReads m bs hm.fit.1 hm.fit.2 hm.digs hm.len.1 hm.len.2 (Byte.of hb.1) (by omega)
set_option maxRecDepth 100000 in
set_option maxHeartbeats 20000000 in
theorem mReads_closed:joinedFacts Tryz.pinned.checked.prog 3 Tryz.f3 Rows.manifestReadsAsSpecifiedSpec Rows.manifestReadsAsSpecifiedRow=true:=by
 simp only [joinedFacts,Bool.and_eq_true]
 repeat' (refine And.intro ?_ ?_)
 all_goals (as_aux_lemma=>kernel_rfl)
theorem mReads_row:Rows.ManifestReadsAsSpecifiedSaid:=
 OpenClaim.holds_of_wide 3 Tryz.f3 rfl rfl rfl rfl rfl rfl rfl ⟨rfl,rfl,rfl,rfl,rfl⟩ rfl rfl rfl rfl rfl (by kernel_rfl) Tryz.func3 mReads_closed
  (of_decide_eq_true (by kernel_rfl)) (by unfold Func.isWrapper;first|(rw [if_pos (by decide +kernel)];kernel_rfl)|(rw [if_neg (by decide +kernel)];exact ⟨rfl,rfl⟩))
  (fun os started H enc _=>mReads_lifted os started H enc)
theorem mReads_holds:Rows.ManifestReadsAsSpecifiedCardSaid:=
 Claim7.holds_tied_plain_at .later [] [.data] true Rows.manifestReadsAsSpecifiedCard.stood.harness false
  mReads_row (fun _ h=>by cases h) (by kernel_rfl) (fun _ h=>by cases h) manifestReadsAsSpecified_row_tie rfl ⟨rfl,rfl⟩ (by kernel_rfl) rfl
  (fun f fn hf hfn=>by
   obtain rfl:f=3:=Option.some.inj ((show Tryz.prog.funcNamed "antiquary/antiquarylaw32.ManifestReadsAsSpecified" = some 3 by kernel_rfl).symm.trans hf) |>.symm
   obtain rfl:fn=Tryz.f3:=(Option.some.inj (Tryz.func3.symm.trans hfn)).symm
   exact ⟨by kernel_rfl,fun j t ht=>by
    rw [Tryz.params3] at ht
    have hm:t ∈ [25,26]:=by simpa using Array.mem_of_getElem? ht
    have hall:([25,26].all fun u => !Tryz.prog.wantsStandIn u)=true:=by kernel_rfl
    exact (show Tryz.prog.wantsStandIn t=false by simpa using List.all_eq_true.1 hall t hm)⟩)
  (by kernel_rfl)
end
#print axioms mReads_holds
end Go.Proofs.YtmeekbjhpidcgaaGreatDoor
