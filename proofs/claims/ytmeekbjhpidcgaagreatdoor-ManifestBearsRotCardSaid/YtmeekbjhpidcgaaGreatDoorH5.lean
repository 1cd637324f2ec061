/- Out of: Row32b. -/
import Derived.Test.YtmeekbjhpidcgaaGreatDoorG27
import Derived.Test.YtmeekbjhpidcgaaGreatDoorH4
namespace Go.Proofs.YtmeekbjhpidcgaaGreatDoor
set_option linter.unusedSimpArgs false
set_option linter.unusedVariables false
set_option linter.unnecessarySimpa false
section
open Go.ChangeShapes Go.WideShapes Go.ChangeAt Go.RowKit
theorem opensW16:Opens Tryz.prog 63 (fun z => [pw16 z]) (fun z=>0≤z∧z < 65536):=(opens_int Tryz.underlying63).map id (fun _ _=>rfl) (fun _ h=>wfW h)
theorem opensW16s:Opens Tryz.prog 53 (fun l => [pw16s l]) (fun l=>(∀z∈l,0≤z∧z < 65536)∧l.length * 2≤reachBytes):=
 (opens_slice Tryz.underlying53 (by kernel_rfl) (by decide) (by kernel_rfl) opensW16 (fun _ _=>rfl)).map id (fun a _=>by show [pw16s a]=_;rw [flatMap_1];rfl) (fun _ h=>h)
theorem argWs:ArgOpens Tryz.prog 53 pw16s (fun l=>(∀z∈l,0≤z∧z < 65536)∧l.length * 2≤reachBytes):=arg_slice Tryz.underlying53 opensW16s
theorem opensFlt:Opens Tryz.prog 65 pfltL (fun f=>(0≤f.sec∧f.sec < 65536)∧0≤f.bit∧f.bit < 65536):=
 (opens_struct Tryz.underlying65 (opensFs_1 rfl opensW16 (by kernel_rfl) (opensFs_1 rfl opensW16 (by kernel_rfl) (opensFs_1 rfl (opens_bool Tryz.underlying4) (by kernel_rfl) opensFs_nil))) (by kernel_rfl)).map
  (fun p=>(⟨p.1,p.2.1,p.2.2.1⟩:PFlt)) (fun _ _=>rfl) (fun _ h=>⟨h.1,h.2.1⟩)
theorem opensFlts:Opens Tryz.prog 54 (fun l => [pflts l]) (fun l=>(∀f∈l,(0≤f.sec∧f.sec < 65536)∧0≤f.bit∧f.bit < 65536)∧l.length * 6≤reachBytes):=
 (opens_slice Tryz.underlying54 (by kernel_rfl) (by decide) (by kernel_rfl) opensFlt (fun _ _=>rfl)).map id (fun a _=>rfl) (fun _ h=>h)
theorem argFaults:ArgOpens Tryz.prog 54 pflts (fun l=>(∀f∈l,(0≤f.sec∧f.sec < 65536)∧0≤f.bit∧f.bit < 65536)∧l.length * 6≤reachBytes):=arg_slice Tryz.underlying54 opensFlts
end
end Go.Proofs.YtmeekbjhpidcgaaGreatDoor
