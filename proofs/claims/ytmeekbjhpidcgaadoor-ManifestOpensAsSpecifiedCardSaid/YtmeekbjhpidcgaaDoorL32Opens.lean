/- Proved here: the tied card of antiquarylaw32.ManifestOpensAsSpecified: it returns true for every input, and leaves its arguments as they were; the table of hash.constants is as the program's text lays it (tied). No conditions beyond. -/
import Derived.Test.YtmeekbjhpidcgaaDoorTie
import Derived.Test.YtmeekbjhpidcgaaDoorCards
import Derived.SevenTiedAt
import Derived.Test.YtmeekbjhpidcgaaDoorG48
namespace Go.Proofs.YtmeekbjhpidcgaaDoor
set_option linter.unusedSimpArgs false
set_option linter.unusedVariables false
set_option linter.unnecessarySimpa false
section
open Go.ChangeShapes Go.WideShapes Go.ChangeAt Go.RowKit
set_option maxRecDepth 100000 in
theorem mOpens_lifted (os:Os) (started:os.Started) (H:Type) (enc:TypeId×Value→H) :
  ReturnsInHanded {} Tryd.checked os 3 .any (fun w args=>(Rows.manifestOpensAsSpecifiedSpec.pre enc Tryd.prog Tryd.f3 Rows.manifestOpensAsSpecifiedRow.domain false w args∧laidMetH Tryd.prog laidL w)∧sizedMet enc Tryd.prog Tryd.f3 (OpenSpec.ofChange Rows.manifestOpensAsSpecifiedSpec) false w args)
   (Rows.manifestOpensAsSpecifiedSpec.post enc Tryd.prog Tryd.f3 false true false false):=by
 refine law_liftedL os started H enc Tryd.func3 (by kernel_rfl)
  (ChangeSpec.witness_shaped (enc:=enc) (C:=Tryd.checked) (os:=os) (X:=fun w _=>laidMetH Tryd.prog laidL w) false (World.doorLaid Tryd.prog 2000 os) #[.int .u8 0, .int .i64 0, .agg #[.int .i64 0, .slice none 0 0, .slice none 0 0]] 8 rfl (World.shaped_of_RefB (by kernel_rfl) (by kernel_rfl)) (by kernel_rfl) (by kernel_rfl) (by kernel_rfl) (door_met os _))
  Tryd.underlying4 rfl rfl (by kernel_rfl) (fun ds hd=>?_)
  (argsOpen_cons argB8 (argsOpen_cons argI (argsOpen_cons argMan argsOpen_nil))) (fun y hy=>?_) laid_glob
 ·match ds,hd with
  | [d1,d2,d3],_=>exact ⟨rfl,rfl,rfl⟩
 ·obtain ⟨s,at_,m,u⟩:=y
  obtain ⟨hs,ha,hm,-⟩:=hy
  have e:=reachE
  simp only at hs ha hm
  exact pw_lOpens s at_ m hs ha hm.digs hm.len.1 hm.len.2
set_option maxRecDepth 100000 in
set_option maxHeartbeats 20000000 in
theorem mOpens_closed:joinedFacts Tryd.pinned.checked.prog 3 Tryd.f3 Rows.manifestOpensAsSpecifiedSpec Rows.manifestOpensAsSpecifiedRow=true:=by
 simp only [joinedFacts,Bool.and_eq_true]
 repeat' (refine And.intro ?_ ?_)
 all_goals (as_aux_lemma=>kernel_rfl)
theorem mOpens_row:Rows.ManifestOpensAsSpecifiedSaid:=
 OpenClaim.holds_of_wide 3 Tryd.f3 rfl rfl rfl rfl rfl rfl rfl ⟨rfl,rfl,rfl,rfl,rfl⟩ rfl rfl rfl rfl rfl (by kernel_rfl) Tryd.func3 mOpens_closed
  (of_decide_eq_true (by kernel_rfl)) (by unfold Func.isWrapper;first|(rw [if_pos (by decide +kernel)];kernel_rfl)|(rw [if_neg (by decide +kernel)];exact ⟨rfl,rfl⟩))
  (fun os started H enc _=>mOpens_lifted os started H enc)
theorem mOpens_holds:Rows.ManifestOpensAsSpecifiedCardSaid:=
 Claim7.holds_tied_plain_at .later [] [.data] true Rows.manifestOpensAsSpecifiedCard.stood.harness false
  mOpens_row (fun _ h=>by cases h) (by kernel_rfl) (fun _ h=>by cases h) manifestOpensAsSpecified_row_tie rfl ⟨rfl,rfl⟩ (by kernel_rfl) rfl
  (fun f fn hf hfn=>by
   obtain rfl:f=3:=Option.some.inj ((show Tryd.prog.funcNamed "antiquary/antiquarylaw32.ManifestOpensAsSpecified" = some 3 by kernel_rfl).symm.trans hf) |>.symm
   obtain rfl:fn=Tryd.f3:=(Option.some.inj (Tryd.func3.symm.trans hfn)).symm
   exact ⟨by kernel_rfl,fun j t ht=>by
    rw [Tryd.params3] at ht
    have hm:t ∈ [5,3,25]:=by simpa using Array.mem_of_getElem? ht
    have hall:([5,3,25].all fun u => !Tryd.prog.wantsStandIn u)=true:=by kernel_rfl
    exact (show Tryd.prog.wantsStandIn t=false by simpa using List.all_eq_true.1 hall t hm)⟩)
  (by kernel_rfl)
end
#print axioms mOpens_holds
end Go.Proofs.YtmeekbjhpidcgaaDoor
