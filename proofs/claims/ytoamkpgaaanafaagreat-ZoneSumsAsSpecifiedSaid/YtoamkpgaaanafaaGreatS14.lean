/- Merged: AttrQ, AttrR, RegionB, RegionG, AttrS, AttrG. -/
import Derived.Deep.Cut
import Derived.Lib.Hide
import Derived.Test.YtoamkpgaaanafaaGreatS6
import Derived.Test.YtoamkpgaaanafaaGreatS8
import Derived.Test.YtoamkpgaaanafaaGreatS10
import Derived.Test.YtoamkpgaaanafaaGreatS11
import Derived.Test.YtoamkpgaaanafaaGreatS13
/- Walks: the rules of Entry, Entry of attr. -/
namespace Go.Proofs.YtoamkpgaaanafaaGreat
set_option linter.unusedSimpArgs false
set_option linter.unusedVariables false
set_option linter.unnecessarySimpa false
open Go.RowKit
def idBad (e:PEntry):Bool:=decide (e.id < 1) || (decide (1073741824 < e.id) || (decide (e.owner < 1) || (decide (1073741824 < e.owner) || (decide (e.ver < 1) || (decide (1073741824 < e.ver))))))
theorem entry1 (g:Nat) (e:PEntry) (vv av:Value) (w:World) (h:EntAt w g e vv av):Calls Tryz.prog 88 #[.pointer (some ⟨g,0,none⟩)] w (RetB w (idBad e)):=by
 obtain ⟨c0,c1,c2,c3,c4,c5,c6,c7,c8,-,-⟩:=h
 cases h0:decide (e.id < 1)
 case true=>
  go_enter Tryz.func88,Tryz.ntmps88
  go_wp2
  go_ret
  exact RetB.mk (by simp [idBad,h0]) (Below.refl _ _)
 cases h1:decide (1073741824 < e.id)
 case true=>
  go_enter Tryz.func88,Tryz.ntmps88
  go_wp2
  go_ret
  exact RetB.mk (by simp [idBad,h0,h1]) (Below.refl _ _)
 cases h2:decide (e.owner < 1)
 case true=>
  go_enter Tryz.func88,Tryz.ntmps88
  go_wp2
  go_ret
  exact RetB.mk (by simp [idBad,h0,h1,h2]) (Below.refl _ _)
 cases h3:decide (1073741824 < e.owner)
 case true=>
  go_enter Tryz.func88,Tryz.ntmps88
  go_wp2
  go_ret
  exact RetB.mk (by simp [idBad,h0,h1,h2,h3]) (Below.refl _ _)
 cases h4:decide (e.ver < 1)
 case true=>
  go_enter Tryz.func88,Tryz.ntmps88
  go_wp2
  go_ret
  exact RetB.mk (by simp [idBad,h0,h1,h2,h3,h4]) (Below.refl _ _)
 cases h5:decide (1073741824 < e.ver)
 case true=>
  go_enter Tryz.func88,Tryz.ntmps88
  go_wp2
  go_ret
  exact RetB.mk (by simp [idBad,h0,h1,h2,h3,h4,h5]) (Below.refl _ _)
 go_enter Tryz.func88,Tryz.ntmps88
 go_wp2
 go_ret
 exact RetB.mk (by simp [idBad,h0,h1,h2,h3,h4,h5]) (Below.refl _ _)
theorem cE1:CallOk 88:=fun _ _=>by kernel_rfl
def fromBad (e:PEntry):Bool:=decide (e.filed < 0) || (decide (e.frm < e.filed) || (decide (1048576 < e.frm)))
theorem entry2 (g:Nat) (e:PEntry) (vv av:Value) (w:World) (h:EntAt w g e vv av):Calls Tryz.prog 89 #[.pointer (some ⟨g,0,none⟩)] w (RetB w (fromBad e)):=by
 obtain ⟨c0,c1,c2,c3,c4,c5,c6,c7,c8,-,-⟩:=h
 cases h0:decide (e.filed < 0)
 case true=>
  go_enter Tryz.func89,Tryz.ntmps89
  go_wp2
  go_ret
  exact RetB.mk (by simp [fromBad,h0]) (Below.refl _ _)
 cases h1:decide (e.frm < e.filed)
 case true=>
  go_enter Tryz.func89,Tryz.ntmps89
  go_wp2
  go_ret
  exact RetB.mk (by simp [fromBad,h0,h1]) (Below.refl _ _)
 cases h2:decide (1048576 < e.frm)
 case true=>
  go_enter Tryz.func89,Tryz.ntmps89
  go_wp2
  go_ret
  exact RetB.mk (by simp [fromBad,h0,h1,h2]) (Below.refl _ _)
 go_enter Tryz.func89,Tryz.ntmps89
 go_wp2
 go_ret
 exact RetB.mk (by simp [fromBad,h0,h1,h2]) (Below.refl _ _)
theorem cE2:CallOk 89:=fun _ _=>by kernel_rfl
def toBad (e:PEntry):Bool:=decide (e.to≤e.frm) || (decide (1048577 < e.to))
theorem entry3 (g:Nat) (e:PEntry) (vv av:Value) (w:World) (h:EntAt w g e vv av):Calls Tryz.prog 90 #[.pointer (some ⟨g,0,none⟩)] w (RetB w (toBad e)):=by
 obtain ⟨c0,c1,c2,c3,c4,c5,c6,c7,c8,-,-⟩:=h
 cases h0:decide (e.to≤e.frm)
 case true=>
  go_enter Tryz.func90,Tryz.ntmps90
  go_wp2
  go_ret
  exact RetB.mk (by simp [toBad,h0]) (Below.refl _ _)
 cases h1:decide (1048577 < e.to)
 case true=>
  go_enter Tryz.func90,Tryz.ntmps90
  go_wp2
  go_ret
  exact RetB.mk (by simp [toBad,h0,h1]) (Below.refl _ _)
 go_enter Tryz.func90,Tryz.ntmps90
 go_wp2
 go_ret
 exact RetB.mk (by simp [toBad,h0,h1]) (Below.refl _ _)
theorem cE3:CallOk 90:=fun _ _=>by kernel_rfl
def bornBad (e:PEntry):Bool:=decide (e.born < 1) || (decide (1073741824 < e.born))
theorem entry4 (g:Nat) (e:PEntry) (vv av:Value) (w:World) (h:EntAt w g e vv av):Calls Tryz.prog 91 #[.pointer (some ⟨g,0,none⟩)] w (RetB w (bornBad e)):=by
 obtain ⟨c0,c1,c2,c3,c4,c5,c6,c7,c8,-,-⟩:=h
 cases h0:decide (e.born < 1)
 case true=>
  go_enter Tryz.func91,Tryz.ntmps91
  go_wp2
  go_ret
  exact RetB.mk (by simp [bornBad,h0]) (Below.refl _ _)
 cases h1:decide (1073741824 < e.born)
 case true=>
  go_enter Tryz.func91,Tryz.ntmps91
  go_wp2
  go_ret
  exact RetB.mk (by simp [bornBad,h0,h1]) (Below.refl _ _)
 go_enter Tryz.func91,Tryz.ntmps91
 go_wp2
 go_ret
 exact RetB.mk (by simp [bornBad,h0,h1]) (Below.refl _ _)
theorem cE4:CallOk 91:=fun _ _=>by kernel_rfl
def vecBad (s:PSchema) (e:PEntry):Bool:=((e.vec.length:Int) != s.dims) || !validV e.vec
theorem entry5 (g h:Nat) (e:PEntry) (vv av:Value) (s:PSchema) (dv:Value) (w:World) (he:EntAt w g e vv av) (hs:SchAt w h s dv) (hl:e.vec.length≤1000000) :
  Calls Tryz.prog 92 #[.pointer (some ⟨g,0,none⟩), .pointer (some ⟨h,0,none⟩)] w (RetB w (vecBad s e)):=by
 obtain ⟨c0,c1,c2,c3,c4,c5,c6,c7,c8,hi,-⟩:=he
 obtain ⟨s0,-,-,-⟩:=hs
 have HI:=Lib.hid hi
 obtain ⟨a,cap,b,off,rfl,-⟩:=hi.open
 clear hi
 cases h0:((e.vec.length:Int) != s.dims)
 ·go_enter Tryz.func92,Tryz.ntmps92
  go_wp2_with fail
  refine (vectorValid _ e.vec _ HI.out (by omega)).mono ?_
  rintro e w' ⟨rfl,rfl⟩
  go_wp2
  go_ret
  exact RetB.mk (by simp [vecBad,h0]) (Below.refl _ _)
 ·go_enter Tryz.func92,Tryz.ntmps92
  go_wp2
  go_ret
  exact RetB.mk (by simp [vecBad,h0]) (Below.refl _ _)
theorem cE5:CallOk 92:=fun _ _=>by kernel_rfl
def rulesE (s:PSchema) (e:PEntry) (g h:Nat):List Rule := [⟨88,#[.pointer (some ⟨g,0,none⟩)],idBad e,1⟩,⟨89,#[.pointer (some ⟨g,0,none⟩)],fromBad e,9⟩,
 ⟨90,#[.pointer (some ⟨g,0,none⟩)],toBad e,9⟩,⟨91,#[.pointer (some ⟨g,0,none⟩)],bornBad e,9⟩,⟨92,#[.pointer (some ⟨g,0,none⟩), .pointer (some ⟨h,0,none⟩)],vecBad s e,40⟩]
def entR (s:PSchema) (e:PEntry):List (Bool×Int) := [(idBad e,1),(fromBad e,9),(toBad e,9),(bornBad e,9),(vecBad s e,40)]
theorem runE {s:PSchema} {e:PEntry} {vv av dv:Value} {g h:Nat} {w:World} (he:EntAt w g e vv av) (hs:SchAt w h s dv) (hl:e.vec.length≤1000000) (v:Value) (hv:Rules w v (rulesE s e g h)) :
  Calls Tryz.prog 87 #[v] w (RetI w (firstE (entR s e))):=by
 refine attrFirst v (rulesE s e g h) w hv (Nat.le_of_ble_eq_true rfl) ?_ ?_
 ·intro r hr
  simp only [rulesE,List.mem_cons,List.not_mem_nil,or_false] at hr
  rcases hr with rfl|rfl|rfl|rfl|rfl
  ·exact cE1
  ·exact cE2
  ·exact cE3
  ·exact cE4
  ·exact cE5
 ·intro r hr w' hb
  have he':=he.below hb
  have hs':=hs.below hb
  simp only [rulesE,List.mem_cons,List.not_mem_nil,or_false] at hr
  rcases hr with rfl|rfl|rfl|rfl|rfl
  ·exact entry1 g e vv av w' he'
  ·exact entry2 g e vv av w' he'
  ·exact entry3 g e vv av w' he'
  ·exact entry4 g e vv av w' he'
  ·exact entry5 g h e vv av s dv w' he' hs' hl
def entryA (s:PSchema) (e:PEntry):Int:=if firstE (entR s e)≠0 then firstE (entR s e) else fitsGo s.defs ByteArray.empty false e.attrs
set_option maxRecDepth 100000 in
set_option maxHeartbeats 1000000 in
theorem attrEntry (v u:Value) (s:PSchema) (x:PEntry) (w:World) (hv:SchemaV w v s) (hu:EntryV w u x) (hsm:SmallS s) (hl:x.vec.length≤1000000) (hl2:x.attrs.length≤1000000) :
  Calls Tryz.prog 34 #[v,u] w (RetI w (entryA s x)):=by
 obtain ⟨dv,rfl,hd⟩:=hv
 obtain ⟨vv,av,rfl,hi,hatt⟩:=hu
 have HS:=Lib.hid (SchAt.box w s dv 24 hd)
 have hw0:Below w.heap.size w (w.alloc (.cells #[.int .i64 s.dims, .int .i64 s.metric,dv] 24)):=below_alloc _ _
 have HE:=Lib.hid (EntAt.box _ x vv av 50 (hi.below hw0) (hatt.below hw0))
 have hw1:=below_two w (.cells #[.int .i64 s.dims, .int .i64 s.metric,dv] 24) (.cells #[.int .i64 x.id, .int .i64 x.ver, .int .i64 x.owner, .int .i64 x.filed, .int .i64 x.frm, .int .i64 x.to, .int .i64 x.born,vv,av] 50)
 have HS2:=Lib.hid (HS.out.below (below_alloc _ (.cells #[.int .i64 x.id, .int .i64 x.ver, .int .i64 x.owner, .int .i64 x.filed, .int .i64 x.frm, .int .i64 x.to, .int .i64 x.born,vv,av] 50)))
 have hsz:Hid ((w.alloc (.cells #[.int .i64 s.dims, .int .i64 s.metric,dv] 24)).heap.size=w.heap.size+1):=by simp [Hid]
 have hsz2:Hid (((w.alloc (.cells #[.int .i64 s.dims, .int .i64 s.metric,dv] 24)).alloc (.cells #[.int .i64 x.id, .int .i64 x.ver, .int .i64 x.owner, .int .i64 x.filed, .int .i64 x.frm, .int .i64 x.to, .int .i64 x.born,vv,av] 50)).heap.size=w.heap.size+1+1):=by simp [Hid]
 rw [hsz.out] at HE
 have HSM:=Lib.hid hsm
 clear HS hw0 hi hatt hd hsm hsz
 unfold entryVal
 go_enter Tryz.func34,Tryz.ntmps34
 go_wp2_with fail
 generalize (w.alloc (.cells #[.int .i64 s.dims, .int .i64 s.metric,dv] 24)).alloc (.cells #[.int .i64 x.id, .int .i64 x.ver, .int .i64 x.owner, .int .i64 x.filed, .int .i64 x.frm, .int .i64 x.to, .int .i64 x.born,vv,av] 50)=w0 at *
 refine (runE (HE.out.below (below_alloc _ _)) (HS2.out.below (below_alloc _ _)) (by omega) _ (Rules.mk (rulesE s x _ _) (Nat.le_of_ble_eq_true rfl) (hsz2.out.symm) rfl rfl)).mono ?_
 rintro e w1 ⟨rfl,hb⟩
 have hb1:=blift (below_alloc _ _) hb
 have hb2:=blift hw1 hb1
 have HE1:=Lib.hid (HE.out.below hb1)
 have HS1:=Lib.hid (HS2.out.below hb1)
 obtain ⟨-,-,-,-,-,-,-,-,c8,-,-⟩:=HE1.out
 obtain ⟨s0,s1,s2,-⟩:=HS1.out
 clear hb hb1 HE HS2 hsz2
 by_cases hz:firstE (entR s x)=0
 ·have F:=Lib.hid (show entryA s x=fitsGo s.defs ByteArray.empty false x.attrs by rw [entryA,if_neg (by simp [hz])])
  rw [hz]
  go_wp2_with fail
  refine (attrFits _ _ s x.attrs w1 ⟨_,rfl,HS1.out.2.2.2⟩ HE1.out.2.2.2.2.2.2.2.2.2.2 HSM.out (by omega)).mono ?_
  rintro e w2 ⟨rfl,hb3⟩
  go_wp2
  go_ret
  exact RetI.mk F.out.symm (blift hb2 hb3)
 ·have F:=Lib.hid (show entryA s x=firstE (entR s x) by rw [entryA,if_pos hz])
  have hz' : (firstE (entR s x) != 0)=true:=by simp [hz]
  generalize firstE (entR s x)=y at *
  clear hz
  go_wp2
  go_ret
  exact RetI.mk F.out.symm hb2
end Go.Proofs.YtoamkpgaaanafaaGreat

/- Walks: Entry of antiquaryref13. -/
namespace Go.Proofs.YtoamkpgaaanafaaGreat
set_option linter.unusedSimpArgs false
set_option linter.unusedVariables false
set_option linter.unnecessarySimpa false
open Go.RowKit
set_option maxRecDepth 100000 in
set_option maxHeartbeats 4000000 in
theorem refEntry (v u:Value) (s:PSchema) (x:PEntry) (w:World) (hv:SchemaV w v s) (hu:EntryV w u x) (hsm:SmallS s) (hl:x.vec.length≤1000000) (hl2:x.attrs.length≤1000000) :
  Calls Tryz.prog 40 #[v,u] w (RetI w (entryE s x)):=by
 obtain ⟨dv,rfl,hd⟩:=hv
 obtain ⟨vv,av,rfl,hi,hatt⟩:=hu
 have HS:=Lib.hid (SchAt.box w s dv 24 hd)
 have hw0:Below w.heap.size w (w.alloc (.cells #[.int .i64 s.dims, .int .i64 s.metric,dv] 24)):=below_alloc _ _
 have HE:=Lib.hid (EntAt.box _ x vv av 50 (hi.below hw0) (hatt.below hw0))
 have hw1:=below_two w (.cells #[.int .i64 s.dims, .int .i64 s.metric,dv] 24) (.cells #[.int .i64 x.id, .int .i64 x.ver, .int .i64 x.owner, .int .i64 x.filed, .int .i64 x.frm, .int .i64 x.to, .int .i64 x.born,vv,av] 50)
 have HS2:=Lib.hid (HS.out.below (below_alloc _ (.cells #[.int .i64 x.id, .int .i64 x.ver, .int .i64 x.owner, .int .i64 x.filed, .int .i64 x.frm, .int .i64 x.to, .int .i64 x.born,vv,av] 50)))
 have hsz:Hid ((w.alloc (.cells #[.int .i64 s.dims, .int .i64 s.metric,dv] 24)).heap.size=w.heap.size+1):=by simp [Hid]
 rw [hsz.out] at HE
 have HSM:=Lib.hid hsm
 obtain ⟨a1,cap1,b1,off1,rfl,-⟩:=hi.open
 clear HS hw0 hi hatt hd hsm hsz
 unfold entryVal
 go_enter Tryz.func40,Tryz.ntmps40
 go_upto_region 1 with fail
 generalize (w.alloc (.cells #[.int .i64 s.dims, .int .i64 s.metric,dv] 24)).alloc (.cells #[.int .i64 x.id, .int .i64 x.ver, .int .i64 x.owner, .int .i64 x.filed, .int .i64 x.frm, .int .i64 x.to, .int .i64 x.born, .slice a1 x.vec.length cap1,av] 50)=w0 at *
 obtain ⟨c0,c1,c2,c3,c4,c5,c6,c7,c8,-,-⟩:=HE.out
 obtain ⟨s0,s1,s2,-⟩:=HS2.out
 cases h0:decide (x.id < 1)
 case true=>
  have F:=Lib.hid (show entryE s x=1 by rw [entryE,if_pos (by simp only [decide_eq_true_eq,decide_eq_false_iff_not] at h0;omega)])
  go_wp2
  go_ret
  exact RetI.mk F.out.symm hw1
 cases h1:decide (1073741824 < x.id)
 case true=>
  have F:=Lib.hid (show entryE s x=1 by rw [entryE,if_pos (by simp only [decide_eq_true_eq,decide_eq_false_iff_not] at h0 h1;omega)])
  go_wp2
  go_ret
  exact RetI.mk F.out.symm hw1
 cases h2:decide (x.owner < 1)
 case true=>
  have F:=Lib.hid (show entryE s x=1 by rw [entryE,if_pos (by simp only [decide_eq_true_eq,decide_eq_false_iff_not] at h0 h1 h2;omega)])
  go_wp2
  go_ret
  exact RetI.mk F.out.symm hw1
 cases h3:decide (1073741824 < x.owner)
 case true=>
  have F:=Lib.hid (show entryE s x=1 by rw [entryE,if_pos (by simp only [decide_eq_true_eq,decide_eq_false_iff_not] at h0 h1 h2 h3;omega)])
  go_wp2
  go_ret
  exact RetI.mk F.out.symm hw1
 cases h4:decide (x.ver < 1)
 case true=>
  have F:=Lib.hid (show entryE s x=1 by rw [entryE,if_pos (by simp only [decide_eq_true_eq,decide_eq_false_iff_not] at h0 h1 h2 h3 h4;omega)])
  go_wp2
  go_ret
  exact RetI.mk F.out.symm hw1
 cases h5:decide (1073741824 < x.ver)
 case true=>
  have F:=Lib.hid (show entryE s x=1 by rw [entryE,if_pos (by simp only [decide_eq_true_eq,decide_eq_false_iff_not] at h0 h1 h2 h3 h4 h5;omega)])
  go_wp2
  go_ret
  exact RetI.mk F.out.symm hw1
 have NA:=Lib.hid (show ¬(x.id < 1∨1073741824 < x.id∨x.owner < 1∨1073741824 < x.owner∨x.ver < 1∨1073741824 < x.ver) by simp only [decide_eq_false_iff_not] at h0 h1 h2 h3 h4 h5;omega)
 go_upto_region 3 with fail
 clear h0 h1 h2 h3 h4 h5
 cases h0:decide (x.filed < 0)
 case true=>
  have F:=Lib.hid (show entryE s x=9 by rw [entryE,if_neg NA.out,if_pos (by simp only [decide_eq_true_eq,decide_eq_false_iff_not] at h0;omega)])
  go_wp2
  go_ret
  exact RetI.mk F.out.symm hw1
 cases h1:decide (x.frm < x.filed)
 case true=>
  have F:=Lib.hid (show entryE s x=9 by rw [entryE,if_neg NA.out,if_pos (by simp only [decide_eq_true_eq,decide_eq_false_iff_not] at h0 h1;omega)])
  go_wp2
  go_ret
  exact RetI.mk F.out.symm hw1
 cases h2:decide (x.to≤x.frm)
 case true=>
  have F:=Lib.hid (show entryE s x=9 by rw [entryE,if_neg NA.out,if_pos (by simp only [decide_eq_true_eq,decide_eq_false_iff_not] at h0 h1 h2;omega)])
  go_wp2
  go_ret
  exact RetI.mk F.out.symm hw1
 cases h3:decide (1048577 < x.to)
 case true=>
  have F:=Lib.hid (show entryE s x=9 by rw [entryE,if_neg NA.out,if_pos (by simp only [decide_eq_true_eq,decide_eq_false_iff_not] at h0 h1 h2 h3;omega)])
  go_wp2
  go_ret
  exact RetI.mk F.out.symm hw1
 cases h4:decide (1048576 < x.frm)
 case true=>
  have F:=Lib.hid (show entryE s x=9 by rw [entryE,if_neg NA.out,if_pos (by simp only [decide_eq_true_eq,decide_eq_false_iff_not] at h0 h1 h2 h3 h4;omega)])
  go_wp2
  go_ret
  exact RetI.mk F.out.symm hw1
 cases h5:decide (x.born < 1)
 case true=>
  have F:=Lib.hid (show entryE s x=9 by rw [entryE,if_neg NA.out,if_pos (by simp only [decide_eq_true_eq,decide_eq_false_iff_not] at h0 h1 h2 h3 h4 h5;omega)])
  go_wp2
  go_ret
  exact RetI.mk F.out.symm hw1
 cases h6:decide (1073741824 < x.born)
 case true=>
  have F:=Lib.hid (show entryE s x=9 by rw [entryE,if_neg NA.out,if_pos (by simp only [decide_eq_true_eq,decide_eq_false_iff_not] at h0 h1 h2 h3 h4 h5 h6;omega)])
  go_wp2
  go_ret
  exact RetI.mk F.out.symm hw1
 have NB:=Lib.hid (show ¬(x.filed < 0∨x.frm < x.filed∨x.to≤x.frm∨1048577 < x.to∨1048576 < x.frm∨x.born < 1∨1073741824 < x.born) by simp only [decide_eq_false_iff_not] at h0 h1 h2 h3 h4 h5 h6;omega)
 go_wp2_with fail
 clear h0 h1 h2 h3 h4 h5 h6
 refine (ref04Valid _ x.vec _ HE.out.2.2.2.2.2.2.2.2.2.1 (by omega)).mono ?_
 rintro e w' ⟨rfl,rfl⟩
 cases hv0:validV x.vec
 ·have F:=Lib.hid (show entryE s x=40 by rw [entryE,if_neg NA.out,if_neg NB.out,if_pos (.inl hv0)])
  clear hv0
  go_wp2
  go_ret
  exact RetI.mk F.out.symm hw1
 ·by_cases hd0:(x.vec.length:Int)=s.dims
  ·have F:=Lib.hid (show entryE s x=fitsE s x.attrs by rw [entryE,if_neg NA.out,if_neg NB.out,if_neg (by simp [hv0,hd0])])
   have hd1:((x.vec.length:Int) != s.dims)=false:=by simp [hd0]
   clear hv0 hd0
   go_wp2_with fail
   refine (refFits _ _ s x.attrs w0 ⟨_,rfl,HS2.out.2.2.2⟩ HE.out.2.2.2.2.2.2.2.2.2.2 HSM.out (by omega)).mono ?_
   rintro e w2 ⟨rfl,hb3⟩
   go_wp2
   go_ret
   exact RetI.mk F.out.symm (blift hw1 hb3)
  ·have F:=Lib.hid (show entryE s x=40 by rw [entryE,if_neg NA.out,if_neg NB.out,if_pos (.inr hd0)])
   have hd1:((x.vec.length:Int) != s.dims)=true:=by simp [hd0]
   clear hv0 hd0
   go_wp2
   go_ret
   exact RetI.mk F.out.symm hw1
end Go.Proofs.YtoamkpgaaanafaaGreat

/- A region that draws its order, by contracts: where what was there stays. -/
namespace Go.Proofs.YtoamkpgaaanafaaGreat
set_option linter.unusedSimpArgs false
set_option linter.unusedVariables false
set_option linter.unnecessarySimpa false
open Go.RowKit
structure Spec where
 p:Value→World→Prop
 st:∀v w w',p v w→Below w.heap.size w w'→p v w'
def Spec.is (x:Value):Spec:=⟨fun v _=>v=x,fun _ _ _ h _=>h⟩
def Spec.any:Spec:=⟨fun _ _=>True,fun _ _ _ h _=>h⟩
def Spec.rd (cs:List Value):Spec:=⟨fun v w=>Rd w v cs,fun _ _ _ h hb=>h.below hb⟩
def Spec.holds (x:Value) (S:World→Prop) (h:∀w w',S w→Below w.heap.size w w'→S w'):Spec:=⟨fun v w=>v=x∧S w,fun _ _ _ hh hb=>⟨hh.1,h _ _ hh.2 hb⟩⟩
def LeB (w w' : World):Prop:=Below w.heap.size w w'
theorem LeB.trans (x y z:World) (h:LeB x y) (k:LeB y z):LeB x z:=Below.trans h (Below.mono k h.size)
def AllFrom (F:Nat→Oper→Prop):Nat→List Oper→Prop
 |_,[]=>True
 |i,o :: os=>F i o∧AllFrom F (i+1) os
theorem AllFrom.get {F:Nat→Oper→Prop} : ∀{l:List Oper} {k:Nat},AllFrom F k l→∀(i:Nat) (o:Oper),l[i]? = some o→F (k+i) o
 | [],_,_,i,o,h=>by simp at h
 |x :: xs,k,⟨h1,h2⟩,0,o,h=>by simp at h;subst h;exact h1
 |x :: xs,k,⟨h1,h2⟩,i+1,o,h=>by
  have:=AllFrom.get h2 i o (by simpa using h)
  rw [show k+(i+1)=k+1+i by omega];exact this
theorem AllFrom.of {F:Nat→Oper→Prop} : ∀(l:List Oper) (k:Nat),(∀(i:Nat) (o:Oper),l[i]? = some o→F (k+i) o)→AllFrom F k l
 | [],_,_=>trivial
 |x :: xs,k,h=>⟨h 0 x (by simp),AllFrom.of xs (k+1) (fun i o hi=>by rw [show k+1+i=k+(i+1) by omega];exact h (i+1) o (by simpa using hi))⟩
end Go.Proofs.YtoamkpgaaanafaaGreat

/- A region that draws its order, by what each operation relies on and what it does: each operation once. -/
namespace Go.Proofs.YtoamkpgaaanafaaGreat
set_option linter.unusedSimpArgs false
set_option linter.unusedVariables false
set_option linter.unnecessarySimpa false
open Go.RowKit
section
variable {P:Program} {ops:Array Oper} {Q:Exit→Act→World→Prop} {a0:Act} {C:Nat→World→Prop} {R:Nat→Value→World→Prop} {E:Nat→World→World→Prop} {G:World→Prop}
end
end Go.Proofs.YtoamkpgaaanafaaGreat

/- Walks: Encode of attr. -/
namespace Go.Proofs.YtoamkpgaaanafaaGreat
set_option linter.unusedSimpArgs false
set_option linter.unusedVariables false
set_option linter.unnecessarySimpa false
open Go.RowKit
theorem Rd.lit {w:World} {g n:Nat} {T:TypeId} {cs:Array Value} (l:List Value) (hg:g=w.heap.size) (hn:n=l.length) (hm:l.length≤1000000) (hcs:cs=l.toArray):Rd (w.alloc (.cells cs T)) (.slice (some ⟨g,0,none⟩) n n) l:=by
 subst hg hn hcs
 exact (Own.lit w l T 0 (Nat.zero_le _) (by unfold maxLen;omega)).rd
def Two (H:Nat) (x y:Value) (v:Value) (w:World):Prop:=∃g,v = .slice (some ⟨g,0,none⟩) 2 2∧H≤g∧w.cell? ⟨g,0,none⟩=some x∧w.cell? ⟨g,1,none⟩=some y
theorem Two.below {H:Nat} {x y v:Value} {w w' : World} (h:Two H x y v w) (hb:Below w.heap.size w w'):Two H x y v w':=by
 obtain ⟨g,h1,h2,h3,h4⟩:=h
 exact ⟨g,h1,h2,below_cell hb h3,below_cell hb h4⟩
theorem Two.grown {H:Nat} {x y v u:Value} {w w' : World} (h:Two H x y v w) (hg:w.grownBy w' u.ownBlock) (hu:∀k,u.ownBlock=some k→k < H):Two H x y v w':=by
 obtain ⟨g,h1,h2,h3,h4⟩:=h
 have hne:some g≠u.ownBlock:=fun e=>by have:=hu g e.symm;omega
 exact ⟨g,h1,h2,hg.cell h3 hne,hg.cell h4 hne⟩
theorem Two.rd {H:Nat} {x y v:Value} {w:World} (h:Two H x y v w):Rd w v [x,y]:=by
 obtain ⟨g,rfl,h2,h3,h4⟩:=h
 refine ⟨_,2,g,0,rfl,by simp,by simp [maxLen],fun _=>rfl,fun j u hu=>?_⟩
 match j,hu with
 |0,hu=>simp at hu;subst hu;exact h3
 |1,hu=>simp at hu;subst hu;exact h4
theorem Own.other {B E1 E2:Nat} {w w' : World} {u v:Value} {cs ds:List Value} (h:Own B E1 w u cs) (h2:Own B E2 w v ds) (hE:E1≠E2) (hg:w.grownBy w' v.ownBlock):Own B E1 w' u cs:=by
 refine World.ownsRow.kept h hg ?_
 rcases h.2 with ⟨rfl,_⟩|⟨g,cap,cur,rfl,_,hgg,_⟩
 ·exact .inl rfl
 ·right
  intro e
  rcases h2.2 with ⟨rfl,_⟩|⟨g2,cap2,cur2,rfl,_,hgg2,_⟩
  ·simp [Value.ownBlock] at e
  ·simp [Value.ownBlock] at e
   subst e
   rw [hgg] at hgg2
   simp at hgg2
   exact hE hgg2.2
theorem Own.lt {B E:Nat} {w:World} {v:Value} {cs:List Value} (h:Own B E w v cs):∀k,v.ownBlock=some k→B≤k∧k < w.heap.size:=World.ownsRow.lt h
theorem AttrAt.grown {w w' : World} {b off:Nat} {x:PAttr} {u:Value} (h:AttrAt w b off x) (hg:w.grownBy w' u.ownBlock) (hu:∀k,u.ownBlock=some k→k < b):AttrAt w' b off x:=by
 have hne:some b≠u.ownBlock:=fun e=>by have:=hu b e.symm;omega
 exact ⟨hg.cell h.1 hne,hg.cell h.2.1 hne,hg.cell h.2.2.1 hne,hg.cell h.2.2.2 hne⟩
section
variable (B H:Nat) (n s:Value) (cs ss:List Value) (y:PAttr) (wz:World)
end
end Go.Proofs.YtoamkpgaaanafaaGreat

/- Walks: words, def, Check of antiquaryref13. -/
namespace Go.Proofs.YtoamkpgaaanafaaGreat
set_option linter.unusedSimpArgs false
set_option linter.unusedVariables false
set_option linter.unnecessarySimpa false
open Go.RowKit
theorem refMetric (n:Int) (w:World):Calls Tryz.prog 62 #[.int .i64 n] w fun e w' => e = .returned (.bool (decide (1≤n) && decide (n≤3)))∧w=w':=by
 cases e:decide (1≤n)
 all_goals
  go_enter Tryz.func62,Tryz.ntmps62
  go_wp2
  go_ret
  exact ⟨ret_bool (by simp),rfl⟩
theorem wordsE_long (l:List ByteArray) (h:l.length < 1∨50 < l.length):wordsE l=2:=by rw [wordsE,if_pos h]
theorem wordsE_name (l:List ByteArray) (h:¬(l.length < 1∨50 < l.length)) (h2:l.any (fun s => !nameB s)=true):wordsE l=5:=by rw [wordsE,if_neg h,if_pos h2]
theorem wordsE_rise (l:List ByteArray) (h:¬(l.length < 1∨50 < l.length)) (h2:l.any (fun s => !nameB s)=false):wordsE l=if riseB l then 0 else 6:=by rw [wordsE,if_neg h,if_neg (by simp [h2])]
set_option maxRecDepth 100000 in
set_option maxHeartbeats 1000000 in
theorem refWords (v:Value) (l:List ByteArray) (w:World) (hv:Strs w v l) (hl:l.length≤1000) (hsm:Hid (∀s∈l,s.size≤1000)) :
  Calls Tryz.prog 145 #[v] w (RetI w (wordsE l)):=by
 obtain ⟨a,cap,b,off,rfl,hcap,hm,ha,hc⟩:=hv.open
 have W1:=Lib.hid (wordsE_long l)
 have W2:=Lib.hid (wordsE_name l)
 have W3:=Lib.hid (wordsE_rise l)
 clear hv
 by_cases h1:l.length < 1
 ·have h1' : decide ((l.length:Int) < 1)=true:=by simp only [decide_eq_true_eq];omega
  go_enter Tryz.func145,Tryz.ntmps145
  go_wp2
  go_ret
  exact RetI.mk (W1.out (by omega)).symm (Below.refl _ _)
 ·have h1' : decide ((l.length:Int) < 1)=false:=by simp only [decide_eq_false_iff_not];omega
  by_cases h2:50 < l.length
  ·have h2' : decide ((50:Int) < (l.length:Int))=true:=by simp only [decide_eq_true_eq];omega
   go_enter Tryz.func145,Tryz.ntmps145
   go_wp2
   go_ret
   exact RetI.mk (W1.out (by omega)).symm (Below.refl _ _)
  ·have h2' : decide ((50:Int) < (l.length:Int))=false:=by simp only [decide_eq_false_iff_not];omega
   obtain rfl:=ha (by omega)
   have hpos:1≤l.length:=by omega
   obtain ⟨x0,hx0⟩:=ints_get l 0 (by omega)
   have S0:Hid (riseB l=riseGo x0 (l.drop 1)):=riseB_start l x0 hx0
   have X0:Hid (l[0]? = some x0):=hx0
   clear hx0 ha
   go_enter Tryz.func145,Tryz.ntmps145
   go_wp2
   go_loopw [3] (fun i wr=>∃k:Nat,k≤l.length∧i = .int .i64 k∧Below w.heap.size w wr∧Hid (l.any (fun s => !nameB s)=(l.drop k).any (fun s => !nameB s))) (fun i _=>l.length - (intOf i).toNat)
   case atStart=>exact ⟨0,by omega,rfl,Below.refl _ _,rfl⟩
   case round=>
    obtain ⟨k,hk,rfl,hb,hh⟩:=hrel
    by_cases hlt:k < l.length
    ·obtain ⟨y,hy⟩:=ints_get l k (by omega)
     have c0:=below_cell hb (hc.out k y hy)
     have H:Hid (_=_):=any_drop l (fun s => !nameB s) k y hy
     have hs1:=hsm.out y (List.mem_of_getElem? hy)
     clear hy
     cases e:nameB y
     ·have E:=Lib.hid e
      clear e
      go_wp2_with fail
      refine (refName y _ (by omega)).mono ?_
      rintro e w2 ⟨rfl,hb2⟩
      rw [E.out]
      go_wp2
      go_ret
      exact RetI.mk (W2.out (by omega) (by rw [hh.out,H.out,E.out];rfl)).symm (blift hb hb2)
     ·have E:=Lib.hid e
      clear e
      go_wp2_with fail
      refine (refName y _ (by omega)).mono ?_
      rintro e w2 ⟨rfl,hb2⟩
      rw [E.out]
      go_wp2
      go_roundw
      case rel=>exact ⟨k+1,by omega,by go_num,blift hb hb2,by rw [Hid,hh.out,H.out,E.out];rfl⟩
      case measure=>simp [intOf];omega
    ·have W4:=Lib.hid (W3.out (by omega) (by rw [hh.out,any_end _ _ _ (by omega)]))
     clear hh W1 W2 W3 hk
     go_wp2
     go_loopw [4] (fun i wr=>∃k:Nat,∃p,k+1≤l.length∧i = .int .i64 ((k+1:Nat):Int)∧Below w.heap.size w wr∧Hid (l[k]? = some p)∧Hid (riseB l=riseGo p (l.drop (k+1)))) (fun i _=>l.length - (intOf i).toNat)
     case atStart=>exact ⟨0,x0,by omega,rfl,hb,X0,S0⟩
     case round=>
      obtain ⟨j,p,hk,rfl,hb,hp,hh⟩:=hrel
      by_cases hlt2:j+1 < l.length
      ·obtain ⟨y,hy⟩:=ints_get l (j+1) (by omega)
       have c0:=below_cell hb (hc.out (j+1) y hy)
       have c1:=below_cell hb (hc.out j p hp.out)
       have H:Hid (_=_):=riseGo_drop l j p y hy
       have Y:Hid (l[j+1]? = some y):=hy
       clear hy
       by_cases e:leqB y p=true
       ·have e' : (Op.bytesLess y.toList p.toList || y.toList == p.toList)=true:=e
        go_wp2
        go_quiet (fail)
        go_wp2
        go_ret
        exact RetI.mk (by rw [W4.out,hh.out,H.out,e];rfl) (blift hb (below_drewN _ _))
       ·have e2:leqB y p=false:=by simpa using e
        have e' : (Op.bytesLess y.toList p.toList || y.toList == p.toList)=false:=e2
        go_wp2
        go_quiet (fail)
        go_wp2
        go_roundw
        case rel=>exact ⟨j+1,y,by omega,by go_num,blift hb (below_drewN _ _),Y,by rw [Hid,hh.out,H.out,e2];rfl⟩
        case measure=>simp [intOf];omega
      ·go_wp2
       go_ret
       exact RetI.mk (by rw [W4.out,hh.out,riseGo_end _ _ _ (by omega)];rfl) hb
end Go.Proofs.YtoamkpgaaanafaaGreat
