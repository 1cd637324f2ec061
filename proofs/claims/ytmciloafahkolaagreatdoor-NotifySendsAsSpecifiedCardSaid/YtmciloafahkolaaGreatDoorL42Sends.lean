/- Proved here: the tied card of antiquarylaw42.NotifySendsAsSpecified: it returns true for every input, and leaves its arguments as they were; the table of hash.constants is as the program's text lays it (tied). No conditions beyond. -/
import Derived.Test.YtmciloafahkolaaGreatDoorTie
import Derived.Test.YtmciloafahkolaaGreatDoorCards
import Derived.SevenTiedAt
import Derived.Test.YtmciloafahkolaaGreatDoorG32
namespace Go.Proofs.YtmciloafahkolaaGreatDoor
set_option maxRecDepth 100000
set_option maxHeartbeats 40000000
set_option linter.unusedSimpArgs false
set_option linter.unusedVariables false
set_option linter.unnecessarySimpa false
section
open Go.ChangeShapes Go.WideShapes Go.ChangeAt Go.RowKit
theorem Xfg (os:Os) (started:os.Started) (H:Type) (enc:TypeId×Value→H) :
  ReturnsInHanded {} Tryz.checked os 3 .any (fun w args=>(Rows.notifySendsAsSpecifiedSpec.pre enc Tryz.prog Tryz.f3 Rows.notifySendsAsSpecifiedRow.domain false w args∧laidMetH Tryz.prog Xjh w)∧sizedMet enc Tryz.prog Tryz.f3 (OpenSpec.ofChange Rows.notifySendsAsSpecifiedSpec) false w args)
   (Rows.notifySendsAsSpecifiedSpec.post enc Tryz.prog Tryz.f3 false true false false):=by
 refine X7k os started H enc Tryz.func3 K_
  (ChangeSpec.witness_shaped (enc:=enc) (C:=Tryz.checked) (os:=os) (X:=fun w _=>laidMetH Tryz.prog Xjh w) false (World.doorLaid Tryz.prog 2000 os) #[.int .u16 0, .int .i64 0, .slice none 0 0, .int .u8 0] 8 rfl (World.shaped_of_RefB K_ K_) K_ K_ K_ (Xh1 os _))
  Tryz.underlying4 rfl rfl K_ (fun ds hd=>?_)
  (Ka Xtl (Ka Y10 (Ka Xs0 (Ka Y0n X4w)))) (fun y hy=>?_) Xbs
 ·match ds,hd with
  | [d1,d2,d3,d4],_=>exact ⟨rfl,rfl,rfl⟩
 ·obtain ⟨s,a,l,g,u⟩:=y
  obtain ⟨hs,ha,hl,hg,-⟩:=hy
  have e:=X8l
  simp only at hs ha hl hg
  exact Xvb s a l g hs ha hl.hl hl.hb hl.hn hg X6z
theorem Xfw:joinedFacts Tryz.pinned.checked.prog 3 Tryz.f3 Rows.notifySendsAsSpecifiedSpec Rows.notifySendsAsSpecifiedRow=true:=by
 simp only [joinedFacts,Bool.and_eq_true]
 repeat' (refine And.intro ?_ ?_)
 all_goals (as_aux_lemma=>kernel_rfl)
theorem Xpu:Rows.NotifySendsAsSpecifiedSaid:=
 OpenClaim.holds_of_wide 3 Tryz.f3 rfl rfl rfl rfl rfl rfl rfl ⟨rfl,rfl,rfl,rfl,rfl⟩ rfl rfl rfl rfl rfl K_ Tryz.func3 Xfw
  (of_decide_eq_true K_) (by unfold Func.isWrapper;first|(rw [if_pos (by decide +kernel)];kernel_rfl)|(rw [if_neg (by decide +kernel)];exact ⟨rfl,rfl⟩))
  (fun os started H enc _=>Xfg os started H enc)
theorem nSends_holds:Rows.NotifySendsAsSpecifiedCardSaid:=
 Claim7.holds_tied_plain_at .later [] [.data] true Rows.notifySendsAsSpecifiedCard.stood.harness false
  Xpu (fun _ h=>by cases h) K_ (fun _ h=>by cases h) notifySendsAsSpecified_row_tie rfl ⟨rfl,rfl⟩ K_ rfl
  (fun f fn hf hfn=>by
   obtain rfl:f=3:=Option.some.inj ((show Tryz.prog.funcNamed "antiquary/antiquarylaw42.NotifySendsAsSpecified" = some 3 by kernel_rfl).symm.trans hf) |>.symm
   obtain rfl:fn=Tryz.f3:=(Option.some.inj (Tryz.func3.symm.trans hfn)).symm
   exact ⟨K_,fun j t ht=>by
    rw [Tryz.params3] at ht
    have hm:t ∈ [22,3,23,5]:=by simpa using Array.mem_of_getElem? ht
    have hall:([22,3,23,5].all fun u => !Tryz.prog.wantsStandIn u)=true:=K_
    exact (show Tryz.prog.wantsStandIn t=false by simpa using List.all_eq_true.1 hall t hm)⟩)
  K_
end
#print axioms nSends_holds
end Go.Proofs.YtmciloafahkolaaGreatDoor
