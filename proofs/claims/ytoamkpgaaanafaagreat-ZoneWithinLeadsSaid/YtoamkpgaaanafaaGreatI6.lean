/- Out of: OpensR, Row18d. -/
import Derived.Test.YtoamkpgaaanafaaGreatG1
import Derived.Test.YtoamkpgaaanafaaGreatG10
import Derived.Test.YtoamkpgaaanafaaGreatG11
import Derived.Test.YtoamkpgaaanafaaGreatG12
import Derived.Test.YtoamkpgaaanafaaGreatG14
import Derived.Test.YtoamkpgaaanafaaGreatG15
import Derived.Test.YtoamkpgaaanafaaGreatG21
import Derived.Test.YtoamkpgaaanafaaGreatG26
import Derived.Test.YtoamkpgaaanafaaGreatG3
import Derived.Test.YtoamkpgaaanafaaGreatG6
import Derived.Test.YtoamkpgaaanafaaGreatG7
import Derived.Test.YtoamkpgaaanafaaGreatG8
import Derived.Test.YtoamkpgaaanafaaGreatG9
import Derived.Test.YtoamkpgaaanafaaGreatI3
import Derived.Test.YtoamkpgaaanafaaGreatI4
import Derived.Test.YtoamkpgaaanafaaGreatI5
namespace Go.Proofs.YtoamkpgaaanafaaGreat
set_option linter.unusedSimpArgs false
set_option linter.unusedVariables false
set_option linter.unnecessarySimpa false
section
open Go.ChangeShapes Go.WideShapes Go.ChangeAt Go.RowKit
inductive GoodP:PPred→Prop where
 |mk {op n m:Int} {nm w:ByteArray} {subs:List PPred} (h1:Fit64 op) (h2:Fit64 n) (h3:Fit64 m) (h4:subs.length * 80≤reachBytes) (h5:∀p∈subs,GoodP p):GoodP (.mk op nm n m w subs)
set_option maxRecDepth 100000 in
set_option maxHeartbeats 1000000 in
theorem open_pred:∀(N:Nat) (H:Type) (enc:TypeId×Value→H) (W:World) (fuel:Nat) (cs:List Value) (d:DataW H) (pl:List MemPlace),SizeOf.sizeOf d < N→DataW.trod enc Tryz.prog W 0 (fun _=>true) true fuel 54 cs=some (d,pl)→(∀n∈d.weights Tryz.prog 54,n≤reachBytes)→∃p:PPred,GoodP p∧RepL (immW W) mu0 (prL p) cs:=by
 intro N
 induction N with
 |zero=>intro H enc W fuel cs d pl h;omega
 |succ N ih=>
  intro H enc W fuel cs d pl hN h hw
  obtain ⟨xs,n,rfl,hx,h3,h4,h5⟩:=DataW.trod_struct Tryz.underlying54 h
  cases hx
  have hc6:Tryz.prog.cellsOf 54=6:=by kernel_rfl
  rw [hc6] at h3
  match xs,h4,h5,hN,hw with
  | [x0,x1,x2,x3,x4,x5],_,h5,hN,hw=>
   have ci:Tryz.prog.cellsOf 3=1:=by kernel_rfl
   have ck:Tryz.prog.cellsOf 9=1:=by kernel_rfl
   have cl:Tryz.prog.cellsOf 52=1:=by kernel_rfl
   have f0:DataW.trod enc Tryz.prog W 0 (fun _=>true) true n 3 ((cs.drop 0).take (Tryz.prog.cellsOf 3))=some x0:=h5 0 _ rfl
   have f1:DataW.trod enc Tryz.prog W 0 (fun _=>true) true n 9 ((cs.drop 1).take (Tryz.prog.cellsOf 9))=some x1:=h5 1 _ rfl
   have f2:DataW.trod enc Tryz.prog W 0 (fun _=>true) true n 3 ((cs.drop 2).take (Tryz.prog.cellsOf 3))=some x2:=h5 2 _ rfl
   have f3:DataW.trod enc Tryz.prog W 0 (fun _=>true) true n 3 ((cs.drop 3).take (Tryz.prog.cellsOf 3))=some x3:=h5 3 _ rfl
   have f4:DataW.trod enc Tryz.prog W 0 (fun _=>true) true n 9 ((cs.drop 4).take (Tryz.prog.cellsOf 9))=some x4:=h5 4 _ rfl
   have f5:DataW.trod enc Tryz.prog W 0 (fun _=>true) true n 52 ((cs.drop 5).take (Tryz.prog.cellsOf 52))=some x5:=h5 5 _ rfl
   rw [ci] at f0 f2 f3
   rw [ck] at f1 f4
   rw [cl] at f5
   have hW:∀z∈DataW.weightsEach Tryz.prog [3,9,3,3,9,52] [x0.1,x1.1,x2.1,x3.1,x4.1,x5.1],z≤reachBytes:=fun z hz=>hw z (by simp only [DataW.weights,Tryz.underlying54];exact hz)
   simp only [DataW.weightsEach,List.mem_append] at hW
   obtain ⟨op,g0,r0⟩:=opensInt H enc W n _ x0.1 x0.2 f0 fun z hz=>hW z (.inl hz)
   obtain ⟨nm,-,r1⟩:=opensStr H enc W n _ x1.1 x1.2 f1 fun z hz=>hW z (.inr (.inl hz))
   obtain ⟨a,g2,r2⟩:=opensInt H enc W n _ x2.1 x2.2 f2 fun z hz=>hW z (.inr (.inr (.inl hz)))
   obtain ⟨b,g3,r3⟩:=opensInt H enc W n _ x3.1 x3.2 f3 fun z hz=>hW z (.inr (.inr (.inr (.inl hz))))
   obtain ⟨w,-,r4⟩:=opensStr H enc W n _ x4.1 x4.2 f4 fun z hz=>hW z (.inr (.inr (.inr (.inr (.inl hz)))))
   have hsz:SizeOf.sizeOf x5.1 < N:=by
    simp only [List.map_cons,List.map_nil,DataW.agg.sizeOf_spec,List.cons.sizeOf_spec,List.nil.sizeOf_spec] at hN
    omega
   obtain ⟨subs,⟨g5,g6⟩,r5⟩:=open_elems (en:=prL) (ok:=GoodP) (k:=6) (b:=80) Tryz.underlying52 (by kernel_rfl) (by decide) (by kernel_rfl) (fun _ _=>rfl) (fun n us D Pl hD h1 h2=>ih H enc W n us D Pl (by
    obtain ⟨l,r,e,hm⟩:=hD
    rw [e] at hsz
    have:=List.sizeOf_lt_of_mem hm
    simp only [DataW.slice.sizeOf_spec] at hsz
    omega) h1 h2) f5 fun z hz=>hW z (.inr (.inr (.inr (.inr (.inr (.inl hz))))))
   refine ⟨.mk op nm a b w subs, .mk g0 g2 g3 g6 g5,?_⟩
   have hcs:cs=(cs.drop 0).take 1 ++ ((cs.drop 1).take 1 ++ ((cs.drop 2).take 1 ++ ((cs.drop 3).take 1 ++ ((cs.drop 4).take 1 ++ (cs.drop 5).take 1)))):=by
    match cs,h3 with
    | [_,_,_,_,_,_],_=>rfl
   rw [hcs,prL_eq]
   exact r0.append (r1.append (r2.append (r3.append (r4.append r5))))
theorem argPred:ArgOpens Tryz.prog 54 ppred GoodP:=
 arg_struct Tryz.underlying54 fun H enc W fuel cs d pl h hw=>open_pred (SizeOf.sizeOf d+1) H enc W fuel cs d pl (by omega) h hw
theorem GoodP.lens {p:PPred} (h:GoodP p):lenP p:=by
 induction h with
 |mk h1 h2 h3 h4 h5 ih=>
  have r:=reach_eq
  rw [lenP]
  exact ⟨by omega,lenPL_iff.2 ih⟩
end
end Go.Proofs.YtoamkpgaaanafaaGreat
