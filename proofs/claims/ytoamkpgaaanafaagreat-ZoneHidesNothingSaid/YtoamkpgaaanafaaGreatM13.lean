/- Out of: AttrH, AttrI. -/
import Derived.Test.YtoamkpgaaanafaaGreatM11
namespace Go.Proofs.YtoamkpgaaanafaaGreat
set_option linter.unusedSimpArgs false
set_option linter.unusedVariables false
set_option linter.unnecessarySimpa false
section
open Go.RowKit
theorem defE_r1 (d:PDef) (bf:ByteArray) (h:nameB d.name=false):defE d bf=5:=by simp [defE,h]
theorem defE_r2 (d:PDef) (bf:ByteArray) (h:nameB d.name=true) (h2:leqB d.name bf=true):defE d bf=6:=by simp [defE,h,h2]
theorem defE_r3 (d:PDef) (bf:ByteArray) (h:nameB d.name=true) (h2:leqB d.name bf=false) (h3:d.kind=1):defE d bf=if rangeBad d then 131 else if 0 < d.words.length then 3 else 0:=by
 simp [defE,h,h2,h3,rangeBad]
theorem defE_r4 (d:PDef) (bf:ByteArray) (h:nameB d.name=true) (h2:leqB d.name bf=false) (h3:d.kind=2):defE d bf=if formBad d then 3 else wordsE d.words:=by
 simp [defE,h,h2,h3,formBad]
theorem defE_r5 (d:PDef) (bf:ByteArray) (h:nameB d.name=true) (h2:leqB d.name bf=false) (h3:d.kind≠1) (h4:d.kind≠2):defE d bf=130:=by
 simp [defE,h,h2,h3,h4]
set_option maxRecDepth 100000 in
set_option maxHeartbeats 2000000 in
theorem refDef (d:PDef) (wv:Value) (bf:ByteArray) (w:World) (hs:Strs w wv d.words) (hsm:SmallD d) :
  Calls Tryz.prog 63 #[defV d wv, .string bf] w (RetI w (defE d bf)):=by
 have HB:=Lib.hid (DefAt.box w d wv 77)
 have HS:=Lib.hid (hs.below (below_alloc w (.cells #[.string d.name, .int .i64 d.kind, .int .i64 d.lo, .int .i64 d.hi,wv] 77)))
 have hw0:Below w.heap.size w (w.alloc (.cells #[.string d.name, .int .i64 d.kind, .int .i64 d.lo, .int .i64 d.hi,wv] 77)):=below_alloc _ _
 obtain ⟨s1,s2,s3⟩:=hsm
 have S3:Hid (∀s∈d.words,s.size≤1000):=s3
 obtain ⟨a,cap,b,off,rfl,-⟩:=hs.open
 clear s3 hs
 unfold defV
 cases e1:nameB d.name
 ·have F:=Lib.hid (defE_r1 d bf e1)
  have E1:=Lib.hid e1
  clear e1
  go_enter Tryz.func63,Tryz.ntmps63
  go_wp2_with fail
  refine (refName d.name _ (by omega)).mono ?_
  rintro e w2 ⟨rfl,hb2⟩
  rw [E1.out]
  go_wp2
  go_ret
  exact RetI.mk F.out.symm (blift hw0 hb2)
 ·cases e2:leqB d.name bf
  ·have e2' : (Op.bytesLess d.name.toList bf.toList || d.name.toList == bf.toList)=false:=e2
   by_cases e3:d.kind=1
   ·have F:=Lib.hid (defE_r3 d bf e1 e2 e3)
    have E1:=Lib.hid e1
    have e3' : (d.kind == 1)=true:=by simpa using e3
    clear e1 e2 e3
    cases r1:decide (d.lo < -1099511627776)<;>cases r2:decide (1099511627776 < d.hi)<;>cases r3:decide (d.hi < d.lo)<;>cases r4:decide (0 < d.words.length)
    all_goals
     have F2:=F.out
     simp only [rangeBad,r1,r2,r3] at F2
     have F3:=Lib.hid F2
     have r4' : decide ((0:Int) < (d.words.length:Int))=decide (0 < d.words.length):=by rw [Bool.eq_iff_iff];simp only [decide_eq_true_eq];omega
     rw [r4] at r4'
     have R4:=Lib.hid r4
     clear F F2
     go_enter Tryz.func63,Tryz.ntmps63
     go_wp2_with fail
     refine (refName d.name _ (by omega)).mono ?_
     rintro e w2 ⟨rfl,hb2⟩
     obtain ⟨c0,c1,c2,c3,c4⟩:=HB.out.below hb2
     simp only [Nat.zero_add] at c1 c2 c3 c4
     rw [E1.out]
     go_wp2
     go_ret
     refine RetI.mk ?_ (blift hw0 hb2)
     rw [F3.out]
     have r5:=R4.out
     simp_all
   ·have e3' : (d.kind == 1)=false:=by simpa using e3
    by_cases e4:d.kind=2
    ·have F:=Lib.hid (defE_r4 d bf e1 e2 e4)
     have E1:=Lib.hid e1
     have e4' : (d.kind == 2)=true:=by simpa using e4
     clear e1 e2 e3 e4
     cases r1:d.lo != 0<;>cases r2:d.hi != 0
     ·have F2:=F.out
      simp only [formBad,r1,r2] at F2
      have F3:=Lib.hid F2
      clear F F2
      go_enter Tryz.func63,Tryz.ntmps63
      go_wp2_with fail
      refine (refName d.name _ (by omega)).mono ?_
      rintro e w2 ⟨rfl,hb2⟩
      obtain ⟨c0,c1,c2,c3,c4⟩:=HB.out.below hb2
      simp only [Nat.zero_add] at c1 c2 c3 c4
      rw [E1.out]
      go_wp2_with fail
      refine (refWords _ d.words _ (HS.out.below hb2) (by omega) S3).mono ?_
      rintro e w3 ⟨rfl,hb3⟩
      go_wp2
      go_ret
      refine RetI.mk ?_ (blift (blift hw0 hb2) hb3)
      rw [F3.out];rfl
     all_goals
      have F2:=F.out
      simp only [formBad,r1,r2] at F2
      have F3:=Lib.hid F2
      clear F F2
      go_enter Tryz.func63,Tryz.ntmps63
      go_wp2_with fail
      refine (refName d.name _ (by omega)).mono ?_
      rintro e w2 ⟨rfl,hb2⟩
      obtain ⟨c0,c1,c2,c3,c4⟩:=HB.out.below hb2
      simp only [Nat.zero_add] at c1 c2 c3 c4
      rw [E1.out]
      go_wp2
      go_ret
      refine RetI.mk ?_ (blift hw0 hb2)
      rw [F3.out];rfl
    ·have F:=Lib.hid (defE_r5 d bf e1 e2 e3 e4)
     have E1:=Lib.hid e1
     have e4' : (d.kind == 2)=false:=by simpa using e4
     clear e1 e2 e3 e4
     go_enter Tryz.func63,Tryz.ntmps63
     go_wp2_with fail
     refine (refName d.name _ (by omega)).mono ?_
     rintro e w2 ⟨rfl,hb2⟩
     obtain ⟨c0,c1,c2,c3,c4⟩:=HB.out.below hb2
     simp only [Nat.zero_add] at c1 c2 c3 c4
     rw [E1.out]
     go_wp2
     go_ret
     exact RetI.mk F.out.symm (blift hw0 hb2)
  ·have e2' : (Op.bytesLess d.name.toList bf.toList || d.name.toList == bf.toList)=true:=e2
   have F:=Lib.hid (defE_r2 d bf e1 e2)
   have E1:=Lib.hid e1
   clear e1 e2
   go_enter Tryz.func63,Tryz.ntmps63
   go_wp2_with fail
   refine (refName d.name _ (by omega)).mono ?_
   rintro e w2 ⟨rfl,hb2⟩
   obtain ⟨c0,c1,c2,c3,c4⟩:=HB.out.below hb2
   rw [E1.out]
   go_wp2
   go_ret
   exact RetI.mk F.out.symm (blift hw0 hb2)
theorem defsE_drop (l:List PDef) (k:Nat) (b:ByteArray) (d:PDef) (h:l[k]? = some d):defsE b (l.drop k)=if defE d b≠0 then defE d b else defsE d.name (l.drop (k+1)):=by
 obtain ⟨hk,rfl⟩:=List.getElem?_eq_some_iff.1 h
 rw [List.drop_eq_getElem_cons (by omega),defsE]
theorem defsE_end (l:List PDef) (k:Nat) (b:ByteArray) (h:l.length≤k):defsE b (l.drop k)=0:=by
 rw [List.drop_eq_nil_of_le h,defsE]
set_option maxRecDepth 100000 in
set_option maxHeartbeats 1000000 in
theorem refCheck (v:Value) (s:PSchema) (w:World) (hv:SchemaV w v s) (hsm:SmallS s):Calls Tryz.prog 18 #[v] w (RetI w (checkE s)):=by
 obtain ⟨dv,rfl,hd⟩:=hv
 obtain ⟨s1,s2⟩:=hsm
 have S2:Hid (∀d∈s.defs,SmallD d):=s2
 have HB:=Lib.hid (SchAt.box w s dv 24 hd)
 have hw0:Below w.heap.size w (w.alloc (.cells #[.int .i64 s.dims, .int .i64 s.metric,dv] 24)):=below_alloc _ _
 obtain ⟨a,cap,b,off,rfl,-,-,ha,hc⟩:=HB.out.2.2.2.open
 have C1:Hid ((s.dims < 1∨32 < s.dims∨s.metric < 1∨3 < s.metric)→checkE s=1):=fun h=>by rw [checkE,if_pos h]
 have C2:Hid (¬(s.dims < 1∨32 < s.dims∨s.metric < 1∨3 < s.metric)→16 < s.defs.length→checkE s=2):=fun h h2=>by rw [checkE,if_neg h,if_pos h2]
 have C3:Hid (¬(s.dims < 1∨32 < s.dims∨s.metric < 1∨3 < s.metric)→¬16 < s.defs.length→checkE s=defsE ByteArray.empty s.defs):=fun h h2=>by rw [checkE,if_neg h,if_neg h2]
 clear s2 hd
 cases e1:decide (s.dims < 1)<;>cases e2:decide (32 < s.dims)<;>cases e3:decide (1≤s.metric)<;>cases e4:decide (s.metric≤3)
 case false.false.true.true=>
  have hno:=Lib.hid (show ¬(s.dims < 1∨32 < s.dims∨s.metric < 1∨3 < s.metric) by simp at e1 e2 e3 e4;omega)
  by_cases h16:16 < s.defs.length
  ·have h16' : decide ((16:Int) < (s.defs.length:Int))=true:=by simp only [decide_eq_true_eq];omega
   have F:=Lib.hid (C2.out hno.out h16)
   clear C1 C2 C3 hc ha
   go_enter Tryz.func18,Tryz.ntmps18
   go_wp2_with (go_at_call 62;refine (refMetric _ _).mono ?_;rintro e w' ⟨rfl,rfl⟩)
   go_ret
   exact RetI.mk F.out.symm hw0
  ·have h16' : decide ((16:Int) < (s.defs.length:Int))=false:=by simp only [decide_eq_false_iff_not];omega
   have F:=Lib.hid (C3.out hno.out h16)
   clear C1 C2 C3
   go_enter Tryz.func18,Tryz.ntmps18
   go_wp2_with (go_at_call 62;refine (refMetric _ _).mono ?_;rintro e w' ⟨rfl,rfl⟩)
   generalize hw:w.alloc (.cells #[.int .i64 s.dims, .int .i64 s.metric, .slice a s.defs.length cap] 24)=w0 at *
   clear hw
   go_loopw [3,4] (fun b i wr=>∃(k:Nat) (bf:ByteArray),k≤s.defs.length∧i = .int .i64 k∧b = .string bf∧Below w0.heap.size w0 wr∧Hid (checkE s=defsE bf (s.defs.drop k))) (fun _ i _=>s.defs.length - (intOf i).toNat)
   case atStart=>exact ⟨0,_,by omega,rfl,rfl,Below.refl _ _,F.out⟩
   case round=>
    obtain ⟨k,bf,hk,rfl,rfl,hb,hh⟩:=hrel
    have HS:=Lib.hid (HB.out.below hb)
    have c2:=HS.out.2.2.1
    by_cases hlt:k < s.defs.length
    ·obtain ⟨y,hy⟩:=ints_get s.defs k (by omega)
     obtain ⟨wv,hd,hs⟩:=hc.out k y hy
     obtain ⟨d0,d1,d2,d3,d4⟩:=hd.below hb
     have H:=Lib.hid (defsE_drop s.defs k bf y hy)
     have hs':=Lib.hid (hs.below hb)
     have hsm:=Lib.hid (S2.out y (List.mem_of_getElem? hy))
     obtain rfl:=ha (by omega)
     clear hs hd hc hy ha
     cases e5:(defE y bf != 0)
     all_goals
      have E5:=Lib.hid e5
      clear e5
      go_wp2_with fail
      refine (refDef y wv bf _ hs'.out hsm.out).mono ?_
      rintro e w2 ⟨rfl,hb2⟩
      have d0':=below_cell hb2 d0
      have c2':=below_cell hb2 c2
      have hb3:=blift hb hb2
      clear hb hb2 d0 d1 d2 d3 d4 c2 hs'
      have e5:=E5.out
      generalize defE y bf=x at *
     ·go_wp2
      go_roundw
      case rel=>exact ⟨k+1,_,by omega,by go_num,rfl,hb3,by rw [Hid,hh.out,H.out,if_neg (by simpa using E5.out)]⟩
      case measure=>simp [intOf];omega
     ·go_wp2
      go_ret
      exact RetI.mk (by rw [hh.out,H.out,if_pos (by simpa using E5.out)]) (blift hw0 hb3)
    ·have F:=Lib.hid (defsE_end s.defs k bf (by omega))
     clear hc ha
     go_wp2
     go_ret
     exact RetI.mk (by rw [hh.out,F.out]) (blift hw0 hb)
 all_goals
  have F:=Lib.hid (C1.out (by simp at e1 e2 e3 e4;omega))
  clear C1 C2 C3 hc ha
  go_enter Tryz.func18,Tryz.ntmps18
  go_wp2_with (go_at_call 62;refine (refMetric _ _).mono ?_;rintro e w' ⟨rfl,rfl⟩)
  go_ret
  exact RetI.mk F.out.symm hw0
end
end Go.Proofs.YtoamkpgaaanafaaGreat
