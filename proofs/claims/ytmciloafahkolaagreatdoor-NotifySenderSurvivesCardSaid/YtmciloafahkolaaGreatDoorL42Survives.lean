/- Proved here: the tied card of antiquarylaw42.NotifySenderSurvives: it returns true for every input, and leaves its arguments as they were; the table of hash.constants is as the program's text lays it (tied). No conditions beyond. -/
import Derived.Test.YtmciloafahkolaaGreatDoorTie
import Derived.Test.YtmciloafahkolaaGreatDoorCards
import Derived.SevenTiedAt
import Derived.Test.YtmciloafahkolaaGreatDoorG33
namespace Go.Proofs.YtmciloafahkolaaGreatDoor
set_option maxRecDepth 100000
set_option maxHeartbeats 40000000
set_option linter.unusedSimpArgs false
set_option linter.unusedVariables false
set_option linter.unnecessarySimpa false
section
open Go.ChangeShapes Go.WideShapes Go.ChangeAt Go.RowKit
theorem Xac (os:Os) (started:os.Started) (H:Type) (enc:TypeId×Value→H) :
  ReturnsInHanded {} Tryz.checked os 5 .any (fun w args=>(Rows.notifySenderSurvivesSpec.pre enc Tryz.prog Tryz.f5 Rows.notifySenderSurvivesRow.domain false w args∧laidMetH Tryz.prog Xjh w)∧sizedMet enc Tryz.prog Tryz.f5 (OpenSpec.ofChange Rows.notifySenderSurvivesSpec) false w args)
   (Rows.notifySenderSurvivesSpec.post enc Tryz.prog Tryz.f5 false true false false):=by
 refine X7k os started H enc Tryz.func5 K_
  (ChangeSpec.witness_shaped (enc:=enc) (C:=Tryz.checked) (os:=os) (X:=fun w _=>laidMetH Tryz.prog Xjh w) false (World.doorLaid Tryz.prog 2000 os) #[.slice none 0 0, .int .u16 0, .slice none 0 0] 8 rfl (World.shaped_of_RefB K_ K_) K_ K_ K_ (Xh1 os _))
  Tryz.underlying4 rfl rfl K_ (fun ds hd=>?_)
  (Ka Xs0 (Ka Xtl (Ka Y3f X4w))) (fun y hy=>?_) Xbs
 ·match ds,hd with
  | [d1,d2,d3],_=>exact ⟨rfl,rfl,rfl⟩
 ·obtain ⟨l,s,k,u⟩:=y
  obtain ⟨hl,hs,hk,-⟩:=hy
  have e:=X8l
  simp only at hl hs hk
  exact Xho l s k hl.hl hl.hb hl.hn hs O_ hk.1 X6z
theorem Xaa:joinedFacts Tryz.pinned.checked.prog 5 Tryz.f5 Rows.notifySenderSurvivesSpec Rows.notifySenderSurvivesRow=true:=by
 simp only [joinedFacts,Bool.and_eq_true]
 repeat' (refine And.intro ?_ ?_)
 all_goals (as_aux_lemma=>kernel_rfl)
theorem Xfs:Rows.NotifySenderSurvivesSaid:=
 OpenClaim.holds_of_wide 5 Tryz.f5 rfl rfl rfl rfl rfl rfl rfl ⟨rfl,rfl,rfl,rfl,rfl⟩ rfl rfl rfl rfl rfl K_ Tryz.func5 Xaa
  (of_decide_eq_true K_) (by unfold Func.isWrapper;first|(rw [if_pos (by decide +kernel)];kernel_rfl)|(rw [if_neg (by decide +kernel)];exact ⟨rfl,rfl⟩))
  (fun os started H enc _=>Xac os started H enc)
theorem nSurvives_holds:Rows.NotifySenderSurvivesCardSaid:=
 Claim7.holds_tied_plain_at .later [] [.data] true Rows.notifySenderSurvivesCard.stood.harness false
  Xfs (fun _ h=>by cases h) K_ (fun _ h=>by cases h) notifySenderSurvives_row_tie rfl ⟨rfl,rfl⟩ K_ rfl
  (fun f fn hf hfn=>by
   obtain rfl:f=5:=Option.some.inj ((show Tryz.prog.funcNamed "antiquary/antiquarylaw42.NotifySenderSurvives" = some 5 by kernel_rfl).symm.trans hf) |>.symm
   obtain rfl:fn=Tryz.f5:=(Option.some.inj (Tryz.func5.symm.trans hfn)).symm
   exact ⟨K_,fun j t ht=>by
    rw [Tryz.params5] at ht
    have hm:t ∈ [23,22,66]:=by simpa using Array.mem_of_getElem? ht
    have hall:([23,22,66].all fun u => !Tryz.prog.wantsStandIn u)=true:=K_
    exact (show Tryz.prog.wantsStandIn t=false by simpa using List.all_eq_true.1 hall t hm)⟩)
  K_
end
#print axioms nSurvives_holds
end Go.Proofs.YtmciloafahkolaaGreatDoor
