/- Out of: Dd. -/
import Derived.Test.YtmeekbjhpidcgaaDoorG21
namespace Go.Proofs.YtmeekbjhpidcgaaDoor
set_option linter.unusedSimpArgs false
set_option linter.unusedVariables false
set_option linter.unnecessarySimpa false
section
open Go.RowKit
def DM.setc (D:DM) (i:Int) (c:DCell):DM:={ D with cells:=D.cells.set i.toNat c }
def DM.rot (D:DM) (i:Int):DM:=if D.check i=0 then D.setc i ⟨zeroSec,true⟩ else D
set_option maxRecDepth 10000 in
set_option maxHeartbeats 1000000 in
theorem dc_Rot (D:DM) (i:Int):DCalls 15 [pint i] D (pint (D.check i)) (D.rot i):=by
 refine dcalls_of_pw Tryd.func15 rfl rfl (by exact lw) (by simp [pint,PV.ownB]) (Nat.le_of_ble_eq_true rfl) (.val _) ?_
 have hck:=dc_check D i 1000001 1000002 1000003 (by decide)
 by_cases h1:D.check i=0
 ·obtain ⟨hd,hi0,hi1⟩:=check0 h1
  have hr:D.rot i=D.setc i ⟨zeroSec,true⟩:=by unfold DM.rot;rw [if_pos h1]
  rw [hr]
  refine wk ?_
  refine PWops.stBR (v:=⟨zeroSec,true⟩) rfl rfl rfl rfl rfl rfl rfl rfl rfl dcellL_len (by (first|omega|(dsimp only;omega))) rfl ?_
  refine wk ?_
  exact RetH.mk rfl (Weak.refl _) ⟨⟨_,rfl,WeakL.eq (by simp [dB,DM.setc])⟩,⟨_,rfl,WeakL.refl _⟩,trivial⟩ ⟨⟨rfl,rfl⟩,trivial⟩
 ·have hr:D.rot i=D:=by unfold DM.rot;rw [if_neg h1]
  rw [hr]
  refine wk ?_
  exact RetH.mk rfl (Weak.refl _) ⟨⟨_,rfl,WeakL.refl _⟩,⟨_,rfl,WeakL.refl _⟩,trivial⟩ ⟨⟨rfl,rfl⟩,trivial⟩
def addW (D:DM) (i:Int) (s:Sec):DM:=match opIdx i D.op 0 with
 |some j=>{ D with op:=D.op.set j ((D.op.getD j default).1,i,(D.op.getD j default).2.2 ++ [s]) }
 |none=>{ D with op:=D.op ++ [(D.clock,i,[s])],clock:=D.clock+1 }
def DM.write (D:DM) (i:Int) (s:Sec):Int×DM:=if D.check i=0 then (if D.step.1=0 then (0,addW D.step.2 i s) else D.step) else (D.check i,D)
theorem mfind_set {sk:SK} {kv:Value} : ∀{es:List (Nat×PV×PV)} {j n:Nat} {s s' : Nat} {kp c c' : PV},es[j]? = some (s,kp,c)→mfind sk kv (es.set j (s',kp,c')) n=mfind sk kv es n
 | [],j,n,s,s',kp,c,c',h=>by simp at h
 |(a,b,d) :: es,0,n,s,s',kp,c,c',h=>by
  simp at h
  obtain ⟨rfl,rfl,rfl⟩:=h
  simp only [List.set_cons_zero]
  cases b<;>rfl
 |(a,b,d) :: es,j+1,n,s,s',kp,c,c',h=>by
  simp at h
  have ih:=fun n=>mfind_set (sk:=sk) (kv:=kv) (n:=n) (s':=s') (c':=c') h
  simp only [List.set_cons_succ]
  cases b<;>simp only [mfind,ih]
theorem addW_some {D:DM} {i:Int} {s:Sec} {j:Nat} (hj:opIdx i D.op 0=some j) {ki:TyI} (hk:ki.kind = .int .i64) (e:Nat×Int×List Sec) (he:D.op[j]? = some e) :
  mput ki ((D.op.map dE).set j (e.1,pint e.2.1, .sl e.2.2.length 64 (e.2.2.flatMap secL) none)) D.clock (.int .i64 i) (.sl (e.2.2.length+1) 64 (e.2.2.flatMap secL ++ secL s) (some 71))=some (dM (addW D i s)):=by
 obtain ⟨-,h2,s',v,h3⟩:=opIdx_lt hj
 simp only [Nat.sub_zero] at h3
 rw [he] at h3
 simp only [Option.some.injEq] at h3
 subst h3
 have hj' : (D.op.map dE)[j]? = some (s',pint i,psecs v (some 71)):=by rw [List.getElem?_map,he];rfl
 have hl:j < (D.op.map dE).length:=(List.getElem?_eq_some_iff.1 hj').1
 unfold mput
 simp only [hk,keyOK,skT,decide_true,if_true]
 rw [mfind_set hj',opIdx_find,hj]
 simp only [List.getElem?_set,if_true,hl,List.set_set]
 unfold dM addW
 rw [hj]
 simp only [List.getD_eq_getElem?_getD,he,Option.getD_some,List.map_set,dE,psecs,List.length_append,List.length_cons,List.length_nil,List.flatMap_append,List.flatMap_cons,List.flatMap_nil,List.append_nil]
 rfl
theorem addW_none {D:DM} {i:Int} {s:Sec} (hj:opIdx i D.op 0=none) {ki:TyI} (hk:ki.kind = .int .i64) :
  mput ki (D.op.map dE) D.clock (.int .i64 i) (.sl 1 64 (secL s) (some 71))=some (dM (addW D i s)):=by
 unfold mput
 simp only [hk,keyOK,skT,decide_true,if_true]
 rw [opIdx_find,hj]
 unfold dM addW
 rw [hj]
 simp only [List.map_append,List.map_cons,List.map_nil,dE,psecs,List.length_cons,List.length_nil,List.flatMap_cons,List.flatMap_nil,List.append_nil]
 rfl
set_option maxRecDepth 10000 in
set_option maxHeartbeats 2000000 in
theorem dc_Write (D:DM) (i:Int) (s:Sec) (h:0≤D.steps∧D.steps≤1000000000 ∧ -1≤D.after) (h2:D.after≤9223372036854775807) (hop:∀e∈D.op,e.2.2.length≤1000000000):DCalls 45 [pint i,psec s] D (pint (D.write i s).1) (D.write i s).2:=by
 refine dcalls_of_pw Tryd.func45 rfl rfl (by intro p hp;simp at hp;rcases hp with rfl|rfl;exact .val _;exact psec_low _) (by simp [pint,psec,PV.ownB]) (Nat.le_of_ble_eq_true rfl) (.val _) ?_
 have hck:=dc_check D i 1000001 1000002 1000003 (by decide)
 have hst:=dc_step D h h2 1000001 1000002 1000003 (by decide)
 by_cases h1:D.check i=0
 ·obtain ⟨hd,hi0,hi1⟩:=check0 h1
  by_cases h3:D.step.1=0
  ·have hr:D.write i s=(0,addW D.step.2 i s):=by unfold DM.write;rw [if_pos h1,if_pos h3]
   rw [hr]
   have hsop:D.step.2.op=D.op:=by unfold DM.step;split<;>rfl
   refine wk ?_
   cases hx:opIdx i D.step.2.op 0 with
   |some j=>
    obtain ⟨-,h4,s',v,h5⟩:=opIdx_lt hx
    simp only [Nat.sub_zero] at h5
    have hvl:v.length≤1000000000:=hop (s',i,v) (by rw [hsop] at h5;exact List.mem_of_getElem? h5)
    have hf:mfind .int (.int .i64 i) (D.step.2.op.map dE) 0=some (some j):=by rw [opIdx_find,hx]
    have hj:(D.step.2.op.map dE)[j]? = some (s',pint i, .sl v.length 64 (v.flatMap secL) (some 71)):=by rw [List.getElem?_map,h5];rfl
    refine PWops.lkpO rfl rfl rfl rfl rfl rfl rfl rfl rfl rfl rfl rfl rfl hf hj ?_
    refine wk ?_
    refine PWops.mputO rfl rfl rfl rfl rfl rfl rfl rfl rfl rfl rfl (addW_some hx rfl (s',i,v) h5) ?_
    refine wk ?_
    exact RetH.mk rfl (Weak.eq (by show pint D.step.1=_;rw [h3])) ⟨⟨_,rfl,WeakL.eq (by simp [dB,addW,hx])⟩,⟨_,rfl,WeakL.eq (by simp [dC,addW,hx])⟩,trivial⟩ ⟨⟨rfl,rfl⟩,trivial⟩
   |none=>
    obtain ⟨b,hb⟩:=dget D.step.2 i (ki:=⟨1,false, .int .i64,[.val (.int .i64 0)],[]⟩) (ei:=⟨1,false, .slice 71 64 64 (List.replicate 64 (.val (.int .u8 0))),[.nilsl],[]⟩) rfl rfl
    rw [hx] at hb
    simp only [if_true] at hb
    refine wk ?_
    refine PWops.mputO rfl rfl rfl rfl rfl rfl rfl rfl rfl rfl rfl (addW_none hx rfl) ?_
    refine wk ?_
    exact RetH.mk rfl (Weak.eq (by show pint D.step.1=_;rw [h3])) ⟨⟨_,rfl,WeakL.eq (by simp [dB,addW,hx])⟩,⟨_,rfl,WeakL.eq (by simp [dC,addW,hx])⟩,trivial⟩ ⟨⟨rfl,rfl⟩,trivial⟩
  ·have hr:D.write i s=D.step:=by unfold DM.write;rw [if_pos h1,if_neg h3]
   rw [hr]
   refine wk ?_
   exact RetH.mk rfl (Weak.refl _) ⟨⟨_,rfl,WeakL.refl _⟩,⟨_,rfl,WeakL.refl _⟩,trivial⟩ ⟨⟨rfl,rfl⟩,trivial⟩
 ·have hr:D.write i s=(D.check i,D):=by unfold DM.write;rw [if_neg h1]
  rw [hr]
  refine wk ?_
  exact RetH.mk rfl (Weak.refl _) ⟨⟨_,rfl,WeakL.refl _⟩,⟨_,rfl,WeakL.refl _⟩,trivial⟩ ⟨⟨rfl,rfl⟩,trivial⟩
end
end Go.Proofs.YtmeekbjhpidcgaaDoor
