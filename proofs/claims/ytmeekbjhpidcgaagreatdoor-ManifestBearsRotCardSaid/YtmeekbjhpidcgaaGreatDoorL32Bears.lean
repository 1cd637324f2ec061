/- Proved here: the tied card of antiquarylaw32.ManifestBearsRot: it returns true for every input, and leaves its arguments as they were; the table of hash.constants is as the program's text lays it (tied). No conditions beyond. -/
import Derived.Test.YtmeekbjhpidcgaaGreatDoorTie
import Derived.Test.YtmeekbjhpidcgaaGreatDoorCards
import Derived.SevenTiedAt
import Derived.Test.YtmeekbjhpidcgaaGreatDoorH5
namespace Go.Proofs.YtmeekbjhpidcgaaGreatDoor
set_option linter.unusedSimpArgs false
set_option linter.unusedVariables false
set_option linter.unnecessarySimpa false
section
open Go.ChangeShapes Go.WideShapes Go.ChangeAt Go.RowKit
set_option maxRecDepth 100000 in
theorem mBears_lifted (os:Os) (started:os.Started) (H:Type) (enc:TypeId×Value→H) :
  ReturnsInHanded {} Tryz.checked os 5 .any (fun w args=>(Rows.manifestBearsRotSpec.pre enc Tryz.prog Tryz.f5 Rows.manifestBearsRotRow.domain false w args∧laidMetH Tryz.prog laidL w)∧sizedMet enc Tryz.prog Tryz.f5 (OpenSpec.ofChange Rows.manifestBearsRotSpec) false w args)
   (Rows.manifestBearsRotSpec.post enc Tryz.prog Tryz.f5 false true false false):=by
 refine law_liftedL os started H enc Tryz.func5 (by kernel_rfl)
  (ChangeSpec.witness_shaped (enc:=enc) (C:=Tryz.checked) (os:=os) (X:=fun w _=>laidMetH Tryz.prog laidL w) false (World.doorLaid Tryz.prog 2000 os) #[.slice none 0 0, .int .u8 0, .slice none 0 0] 8 rfl (World.shaped_of_RefB (by kernel_rfl) (by kernel_rfl)) (by kernel_rfl) (by kernel_rfl) (by kernel_rfl) (door_met os _))
  Tryz.underlying4 rfl rfl (by kernel_rfl) (fun ds hd=>?_)
  (argsOpen_cons argWs (argsOpen_cons argB8 (argsOpen_cons argFaults argsOpen_nil))) (fun y hy=>?_) laid_glob
 ·match ds,hd with
  | [d1,d2,d3],_=>exact ⟨rfl,rfl,rfl⟩
 ·obtain ⟨l,cp,fs,u⟩:=y
  obtain ⟨hl,hc,hf,-⟩:=hy
  have e:=reachE
  simp only at hl hc hf
  exact pw_lBears l cp fs hl.1 (by omega) hc hf.1 (by omega)
set_option maxRecDepth 100000 in
set_option maxHeartbeats 20000000 in
theorem mBears_closed:joinedFacts Tryz.pinned.checked.prog 5 Tryz.f5 Rows.manifestBearsRotSpec Rows.manifestBearsRotRow=true:=by
 simp only [joinedFacts,Bool.and_eq_true]
 repeat' (refine And.intro ?_ ?_)
 all_goals (as_aux_lemma=>kernel_rfl)
theorem mBears_row:Rows.ManifestBearsRotSaid:=
 OpenClaim.holds_of_wide 5 Tryz.f5 rfl rfl rfl rfl rfl rfl rfl ⟨rfl,rfl,rfl,rfl,rfl⟩ rfl rfl rfl rfl rfl (by kernel_rfl) Tryz.func5 mBears_closed
  (of_decide_eq_true (by kernel_rfl)) (by unfold Func.isWrapper;first|(rw [if_pos (by decide +kernel)];kernel_rfl)|(rw [if_neg (by decide +kernel)];exact ⟨rfl,rfl⟩))
  (fun os started H enc _=>mBears_lifted os started H enc)
theorem mBears_holds:Rows.ManifestBearsRotCardSaid:=
 Claim7.holds_tied_plain_at .later [] [.data] true Rows.manifestBearsRotCard.stood.harness false
  mBears_row (fun _ h=>by cases h) (by kernel_rfl) (fun _ h=>by cases h) manifestBearsRot_row_tie rfl ⟨rfl,rfl⟩ (by kernel_rfl) rfl
  (fun f fn hf hfn=>by
   obtain rfl:f=5:=Option.some.inj ((show Tryz.prog.funcNamed "antiquary/antiquarylaw32.ManifestBearsRot" = some 5 by kernel_rfl).symm.trans hf) |>.symm
   obtain rfl:fn=Tryz.f5:=(Option.some.inj (Tryz.func5.symm.trans hfn)).symm
   exact ⟨by kernel_rfl,fun j t ht=>by
    rw [Tryz.params5] at ht
    have hm:t ∈ [53,5,54]:=by simpa using Array.mem_of_getElem? ht
    have hall:([53,5,54].all fun u => !Tryz.prog.wantsStandIn u)=true:=by kernel_rfl
    exact (show Tryz.prog.wantsStandIn t=false by simpa using List.all_eq_true.1 hall t hm)⟩)
  (by kernel_rfl)
end
#print axioms mBears_holds
end Go.Proofs.YtmeekbjhpidcgaaGreatDoor
