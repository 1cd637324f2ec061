/- Out of: AttrQ, Pa, Zh, Zf, PlainK, Cs. -/
import Derived.Laws.Strings
import Derived.Test.YtoamkpgaaanafaaGreatK1
import Derived.Test.YtoamkpgaaanafaaGreatK2
import Derived.Test.YtoamkpgaaanafaaGreatK3
import Derived.Test.YtoamkpgaaanafaaGreatK4
import Derived.Test.YtoamkpgaaanafaaGreatK5
import Derived.Test.YtoamkpgaaanafaaGreatK6
import Derived.Test.YtoamkpgaaanafaaGreatK7
import Derived.Test.YtoamkpgaaanafaaGreatK8
import Derived.Test.YtoamkpgaaanafaaGreatK9
import Derived.Test.YtoamkpgaaanafaaGreatK10
import Derived.Test.YtoamkpgaaanafaaGreatK11
import Derived.Test.YtoamkpgaaanafaaGreatK12
import Derived.Test.YtoamkpgaaanafaaGreatK13
namespace Go.Proofs.YtoamkpgaaanafaaGreat
set_option linter.unusedSimpArgs false
set_option linter.unusedVariables false
set_option linter.unnecessarySimpa false
section
open Go.RowKit
def idBad (e:PEntry):Bool:=decide (e.id < 1) || (decide (1073741824 < e.id) || (decide (e.owner < 1) || (decide (1073741824 < e.owner) || (decide (e.ver < 1) || (decide (1073741824 < e.ver))))))
theorem entry1 (g:Nat) (e:PEntry) (vv av:Value) (w:World) (h:EntAt w g e vv av):Calls Tryz.prog 88 #[.pointer (some ⟨g,0,none⟩)] w (RetB w (idBad e)):=by
 obtain ⟨c0,c1,c2,c3,c4,c5,c6,c7,c8,-,-⟩:=h
 cases h0:decide (e.id < 1)
 case true=>
  go_enter Tryz.func88,Tryz.ntmps88
  go_wp2
  go_ret
  exact RetB.mk (by simp [idBad,h0]) (Below.refl _ _)
 cases h1:decide (1073741824 < e.id)
 case true=>
  go_enter Tryz.func88,Tryz.ntmps88
  go_wp2
  go_ret
  exact RetB.mk (by simp [idBad,h0,h1]) (Below.refl _ _)
 cases h2:decide (e.owner < 1)
 case true=>
  go_enter Tryz.func88,Tryz.ntmps88
  go_wp2
  go_ret
  exact RetB.mk (by simp [idBad,h0,h1,h2]) (Below.refl _ _)
 cases h3:decide (1073741824 < e.owner)
 case true=>
  go_enter Tryz.func88,Tryz.ntmps88
  go_wp2
  go_ret
  exact RetB.mk (by simp [idBad,h0,h1,h2,h3]) (Below.refl _ _)
 cases h4:decide (e.ver < 1)
 case true=>
  go_enter Tryz.func88,Tryz.ntmps88
  go_wp2
  go_ret
  exact RetB.mk (by simp [idBad,h0,h1,h2,h3,h4]) (Below.refl _ _)
 cases h5:decide (1073741824 < e.ver)
 case true=>
  go_enter Tryz.func88,Tryz.ntmps88
  go_wp2
  go_ret
  exact RetB.mk (by simp [idBad,h0,h1,h2,h3,h4,h5]) (Below.refl _ _)
 go_enter Tryz.func88,Tryz.ntmps88
 go_wp2
 go_ret
 exact RetB.mk (by simp [idBad,h0,h1,h2,h3,h4,h5]) (Below.refl _ _)
theorem cE1:CallOk 88:=fun _ _=>by kernel_rfl
def fromBad (e:PEntry):Bool:=decide (e.filed < 0) || (decide (e.frm < e.filed) || (decide (1048576 < e.frm)))
theorem entry2 (g:Nat) (e:PEntry) (vv av:Value) (w:World) (h:EntAt w g e vv av):Calls Tryz.prog 89 #[.pointer (some ⟨g,0,none⟩)] w (RetB w (fromBad e)):=by
 obtain ⟨c0,c1,c2,c3,c4,c5,c6,c7,c8,-,-⟩:=h
 cases h0:decide (e.filed < 0)
 case true=>
  go_enter Tryz.func89,Tryz.ntmps89
  go_wp2
  go_ret
  exact RetB.mk (by simp [fromBad,h0]) (Below.refl _ _)
 cases h1:decide (e.frm < e.filed)
 case true=>
  go_enter Tryz.func89,Tryz.ntmps89
  go_wp2
  go_ret
  exact RetB.mk (by simp [fromBad,h0,h1]) (Below.refl _ _)
 cases h2:decide (1048576 < e.frm)
 case true=>
  go_enter Tryz.func89,Tryz.ntmps89
  go_wp2
  go_ret
  exact RetB.mk (by simp [fromBad,h0,h1,h2]) (Below.refl _ _)
 go_enter Tryz.func89,Tryz.ntmps89
 go_wp2
 go_ret
 exact RetB.mk (by simp [fromBad,h0,h1,h2]) (Below.refl _ _)
theorem cE2:CallOk 89:=fun _ _=>by kernel_rfl
def toBad (e:PEntry):Bool:=decide (e.to≤e.frm) || (decide (1048577 < e.to))
theorem entry3 (g:Nat) (e:PEntry) (vv av:Value) (w:World) (h:EntAt w g e vv av):Calls Tryz.prog 90 #[.pointer (some ⟨g,0,none⟩)] w (RetB w (toBad e)):=by
 obtain ⟨c0,c1,c2,c3,c4,c5,c6,c7,c8,-,-⟩:=h
 cases h0:decide (e.to≤e.frm)
 case true=>
  go_enter Tryz.func90,Tryz.ntmps90
  go_wp2
  go_ret
  exact RetB.mk (by simp [toBad,h0]) (Below.refl _ _)
 cases h1:decide (1048577 < e.to)
 case true=>
  go_enter Tryz.func90,Tryz.ntmps90
  go_wp2
  go_ret
  exact RetB.mk (by simp [toBad,h0,h1]) (Below.refl _ _)
 go_enter Tryz.func90,Tryz.ntmps90
 go_wp2
 go_ret
 exact RetB.mk (by simp [toBad,h0,h1]) (Below.refl _ _)
theorem cE3:CallOk 90:=fun _ _=>by kernel_rfl
def bornBad (e:PEntry):Bool:=decide (e.born < 1) || (decide (1073741824 < e.born))
theorem entry4 (g:Nat) (e:PEntry) (vv av:Value) (w:World) (h:EntAt w g e vv av):Calls Tryz.prog 91 #[.pointer (some ⟨g,0,none⟩)] w (RetB w (bornBad e)):=by
 obtain ⟨c0,c1,c2,c3,c4,c5,c6,c7,c8,-,-⟩:=h
 cases h0:decide (e.born < 1)
 case true=>
  go_enter Tryz.func91,Tryz.ntmps91
  go_wp2
  go_ret
  exact RetB.mk (by simp [bornBad,h0]) (Below.refl _ _)
 cases h1:decide (1073741824 < e.born)
 case true=>
  go_enter Tryz.func91,Tryz.ntmps91
  go_wp2
  go_ret
  exact RetB.mk (by simp [bornBad,h0,h1]) (Below.refl _ _)
 go_enter Tryz.func91,Tryz.ntmps91
 go_wp2
 go_ret
 exact RetB.mk (by simp [bornBad,h0,h1]) (Below.refl _ _)
theorem cE4:CallOk 91:=fun _ _=>by kernel_rfl
def vecBad (s:PSchema) (e:PEntry):Bool:=((e.vec.length:Int) != s.dims) || !validV e.vec
theorem entry5 (g h:Nat) (e:PEntry) (vv av:Value) (s:PSchema) (dv:Value) (w:World) (he:EntAt w g e vv av) (hs:SchAt w h s dv) (hl:e.vec.length≤1000000) :
  Calls Tryz.prog 92 #[.pointer (some ⟨g,0,none⟩), .pointer (some ⟨h,0,none⟩)] w (RetB w (vecBad s e)):=by
 obtain ⟨c0,c1,c2,c3,c4,c5,c6,c7,c8,hi,-⟩:=he
 obtain ⟨s0,-,-,-⟩:=hs
 have HI:=Lib.hid hi
 obtain ⟨a,cap,b,off,rfl,-⟩:=hi.open
 clear hi
 cases h0:((e.vec.length:Int) != s.dims)
 ·go_enter Tryz.func92,Tryz.ntmps92
  go_wp2_with fail
  refine (vectorValid _ e.vec _ HI.out (by omega)).mono ?_
  rintro e w' ⟨rfl,rfl⟩
  go_wp2
  go_ret
  exact RetB.mk (by simp [vecBad,h0]) (Below.refl _ _)
 ·go_enter Tryz.func92,Tryz.ntmps92
  go_wp2
  go_ret
  exact RetB.mk (by simp [vecBad,h0]) (Below.refl _ _)
theorem cE5:CallOk 92:=fun _ _=>by kernel_rfl
def rulesE (s:PSchema) (e:PEntry) (g h:Nat):List Rule := [⟨88,#[.pointer (some ⟨g,0,none⟩)],idBad e,1⟩,⟨89,#[.pointer (some ⟨g,0,none⟩)],fromBad e,9⟩,
 ⟨90,#[.pointer (some ⟨g,0,none⟩)],toBad e,9⟩,⟨91,#[.pointer (some ⟨g,0,none⟩)],bornBad e,9⟩,⟨92,#[.pointer (some ⟨g,0,none⟩), .pointer (some ⟨h,0,none⟩)],vecBad s e,40⟩]
def entR (s:PSchema) (e:PEntry):List (Bool×Int) := [(idBad e,1),(fromBad e,9),(toBad e,9),(bornBad e,9),(vecBad s e,40)]
theorem runE {s:PSchema} {e:PEntry} {vv av dv:Value} {g h:Nat} {w:World} (he:EntAt w g e vv av) (hs:SchAt w h s dv) (hl:e.vec.length≤1000000) (v:Value) (hv:Rules w v (rulesE s e g h)) :
  Calls Tryz.prog 87 #[v] w (RetI w (firstE (entR s e))):=by
 refine attrFirst v (rulesE s e g h) w hv (Nat.le_of_ble_eq_true rfl) ?_ ?_
 ·intro r hr
  simp only [rulesE,List.mem_cons,List.not_mem_nil,or_false] at hr
  rcases hr with rfl|rfl|rfl|rfl|rfl
  ·exact cE1
  ·exact cE2
  ·exact cE3
  ·exact cE4
  ·exact cE5
 ·intro r hr w' hb
  have he':=he.below hb
  have hs':=hs.below hb
  simp only [rulesE,List.mem_cons,List.not_mem_nil,or_false] at hr
  rcases hr with rfl|rfl|rfl|rfl|rfl
  ·exact entry1 g e vv av w' he'
  ·exact entry2 g e vv av w' he'
  ·exact entry3 g e vv av w' he'
  ·exact entry4 g e vv av w' he'
  ·exact entry5 g h e vv av s dv w' he' hs' hl
def entryA (s:PSchema) (e:PEntry):Int:=if firstE (entR s e)≠0 then firstE (entR s e) else fitsGo s.defs ByteArray.empty false e.attrs
set_option maxRecDepth 100000 in
set_option maxHeartbeats 1000000 in
theorem attrEntry (v u:Value) (s:PSchema) (x:PEntry) (w:World) (hv:SchemaV w v s) (hu:EntryV w u x) (hsm:SmallS s) (hl:x.vec.length≤1000000) (hl2:x.attrs.length≤1000000) :
  Calls Tryz.prog 34 #[v,u] w (RetI w (entryA s x)):=by
 obtain ⟨dv,rfl,hd⟩:=hv
 obtain ⟨vv,av,rfl,hi,hatt⟩:=hu
 have HS:=Lib.hid (SchAt.box w s dv 24 hd)
 have hw0:Below w.heap.size w (w.alloc (.cells #[.int .i64 s.dims, .int .i64 s.metric,dv] 24)):=below_alloc _ _
 have HE:=Lib.hid (EntAt.box _ x vv av 50 (hi.below hw0) (hatt.below hw0))
 have hw1:=below_two w (.cells #[.int .i64 s.dims, .int .i64 s.metric,dv] 24) (.cells #[.int .i64 x.id, .int .i64 x.ver, .int .i64 x.owner, .int .i64 x.filed, .int .i64 x.frm, .int .i64 x.to, .int .i64 x.born,vv,av] 50)
 have HS2:=Lib.hid (HS.out.below (below_alloc _ (.cells #[.int .i64 x.id, .int .i64 x.ver, .int .i64 x.owner, .int .i64 x.filed, .int .i64 x.frm, .int .i64 x.to, .int .i64 x.born,vv,av] 50)))
 have hsz:Hid ((w.alloc (.cells #[.int .i64 s.dims, .int .i64 s.metric,dv] 24)).heap.size=w.heap.size+1):=by simp [Hid]
 have hsz2:Hid (((w.alloc (.cells #[.int .i64 s.dims, .int .i64 s.metric,dv] 24)).alloc (.cells #[.int .i64 x.id, .int .i64 x.ver, .int .i64 x.owner, .int .i64 x.filed, .int .i64 x.frm, .int .i64 x.to, .int .i64 x.born,vv,av] 50)).heap.size=w.heap.size+1+1):=by simp [Hid]
 rw [hsz.out] at HE
 have HSM:=Lib.hid hsm
 clear HS hw0 hi hatt hd hsm hsz
 unfold entryVal
 go_enter Tryz.func34,Tryz.ntmps34
 go_wp2_with fail
 generalize (w.alloc (.cells #[.int .i64 s.dims, .int .i64 s.metric,dv] 24)).alloc (.cells #[.int .i64 x.id, .int .i64 x.ver, .int .i64 x.owner, .int .i64 x.filed, .int .i64 x.frm, .int .i64 x.to, .int .i64 x.born,vv,av] 50)=w0 at *
 refine (runE (HE.out.below (below_alloc _ _)) (HS2.out.below (below_alloc _ _)) (by omega) _ (Rules.mk (rulesE s x _ _) (Nat.le_of_ble_eq_true rfl) (hsz2.out.symm) rfl rfl)).mono ?_
 rintro e w1 ⟨rfl,hb⟩
 have hb1:=blift (below_alloc _ _) hb
 have hb2:=blift hw1 hb1
 have HE1:=Lib.hid (HE.out.below hb1)
 have HS1:=Lib.hid (HS2.out.below hb1)
 obtain ⟨-,-,-,-,-,-,-,-,c8,-,-⟩:=HE1.out
 obtain ⟨s0,s1,s2,-⟩:=HS1.out
 clear hb hb1 HE HS2 hsz2
 by_cases hz:firstE (entR s x)=0
 ·have F:=Lib.hid (show entryA s x=fitsGo s.defs ByteArray.empty false x.attrs by rw [entryA,if_neg (by simp [hz])])
  rw [hz]
  go_wp2_with fail
  refine (attrFits _ _ s x.attrs w1 ⟨_,rfl,HS1.out.2.2.2⟩ HE1.out.2.2.2.2.2.2.2.2.2.2 HSM.out (by omega)).mono ?_
  rintro e w2 ⟨rfl,hb3⟩
  go_wp2
  go_ret
  exact RetI.mk F.out.symm (blift hb2 hb3)
 ·have F:=Lib.hid (show entryA s x=firstE (entR s x) by rw [entryA,if_pos hz])
  have hz' : (firstE (entR s x) != 0)=true:=by simp [hz]
  generalize firstE (entR s x)=y at *
  clear hz
  go_wp2
  go_ret
  exact RetI.mk F.out.symm hb2
theorem plain_int (k:IntKind) (z:Int):plainV (.int k z)=true:=rfl
theorem pcGetInts (bs:List Int) (hby:Byte bs) (hl:bs.length≤1000000000):PCalls Tryz.prog 119 [pbytes bs] (· = .tup [pints (getInts bs).1,pint (getInts bs).2.1,pint (getInts bs).2.2]):=
 pcalls1 (by kernel_rfl) fun Φ μ w v himm hr=>(wireGetInts v bs w (bytes_of_rep himm hr) hby hl).mono (by
  rintro e w' ⟨u,rfl,ho,hb⟩
  exact post_tup3 himm (plain_int _) ho hb)
theorem pcGetStrs (bs:List Int) (hby:Byte bs) (hl:bs.length≤1000000000):PCalls Tryz.prog 120 [pbytes bs] (· = .tup [pstrs (getStrs bs).1,pint (getStrs bs).2.1,pint (getStrs bs).2.2]):=
 pcalls1 (by kernel_rfl) fun Φ μ w v himm hr=>(wireGetStrings v bs w (bytes_of_rep himm hr) hby hl).mono (by
  rintro e w' ⟨u,rfl,ho,hb⟩
  exact post_tup3 himm (fun _=>rfl) ho hb)
theorem pcClone (zs:List Int) (hl:zs.length≤1000000000):PCalls Tryz.prog 137 [pints zs] (· = pintsO zs):=
 pcalls1 (by kernel_rfl) fun Φ μ w v himm hr=>(slicesCloneI v zs w (ints_of_rep himm hr) hl).mono (by
  rintro e w' ⟨u,rfl,ho,hb⟩
  exact post_own himm (plain_int _) ho hb)
theorem pcInts (zs:List Int) (hf:Fit zs) (hl:zs.length≤1000000000):PCalls Tryz.prog 117 [pints zs] (· = pbytesO (intsB zs)):=
 pcalls1 (by kernel_rfl) fun Φ μ w v himm hr=>(wireInts v zs w (ints_of_rep himm hr) hf hl).mono (by
  rintro e w' ⟨u,rfl,ho,hb⟩
  exact post_own himm (plain_int _) ho hb)
theorem pcRefInts (zs:List Int) (hf:Fit zs) (hl:zs.length≤1000000000):PCalls Tryz.prog 128 [pints zs] (· = pbytesO (intsB zs)):=
 pcalls1 (by kernel_rfl) fun Φ μ w v himm hr=>(refInts v zs w (ints_of_rep himm hr) hf hl).mono (by
  rintro e w' ⟨u,rfl,ho,hb⟩
  exact post_own himm (plain_int _) ho hb)
theorem pcRefStrings (zs:List ByteArray) (hf:SmallStrs zs) (hl:zs.length≤1000000):PCalls Tryz.prog 129 [pstrs zs] (· = pbytesO (strsB zs)):=
 pcalls1 (by kernel_rfl) fun Φ μ w v himm hr=>(refStrings v zs w (strs_of_rep himm hr) hf hl).mono (by
  rintro e w' ⟨u,rfl,ho,hb⟩
  exact post_own himm (plain_int _) ho hb)
theorem pcCheck (s:PSchema) (hs:SmallS s):PCalls Tryz.prog 54 [pschema s] (· = pint (checkE s)):=
 pcalls1 (by kernel_rfl) fun Φ μ w v himm hr=>(attrCheck v s w (schema_of_rep himm hr) hs).mono (by
  rintro e w' ⟨rfl,hb⟩
  exact post_flat himm (.val _ rfl) rfl rfl hb)
theorem pcEntry (s:PSchema) (x:PEntry) (hs:SmallS s) (hl:x.vec.length≤1000000) (hl2:x.attrs.length≤1000000):PCalls Tryz.prog 34 [pschema s,pentry x] (· = pint (entryA s x)):=
 pcalls2 (by kernel_rfl) fun Φ μ w v u himm hr hr2=>(attrEntry v u s x w (schema_of_rep himm hr) (entry_of_rep himm hr2) hs hl hl2).mono (by
  rintro e w' ⟨rfl,hb⟩
  exact post_flat himm (.val _ rfl) rfl rfl hb)
theorem pcGet (l:List PAttr) (nm:ByteArray) (hl:l.length≤1000000):PCalls Tryz.prog 37 [pattrs l,pstr nm] (· = .tup [.agg (pattrL (getA l nm).1),pbool (getA l nm).2]):=
 pcalls2 (by kernel_rfl) fun Φ μ w v u himm hr hr2=>by
  obtain ⟨rfl,-⟩:=hr2.val_inv
  exact (attrGet v l nm w (attrs_of_rep himm hr) hl).mono (by
   rintro e w' ⟨rfl,hb⟩
   exact post_flat himm (RepL.cons (RepL.cons (.val _ rfl) (RepL.cons (.val _ rfl) (RepL.cons (.val _ rfl) (RepL.cons (.val _ rfl) RepL.nil)))).agg (RepL.cons (.val _ rfl) RepL.nil)).tup rfl rfl hb)
def inB (x:Int):Bool:=decide (-1000≤x) && decide (x≤1000)
set_option maxRecDepth 10000 in
theorem pw_valid1 (s:Bool) (x:Int):PCalls Tryz.prog 100 [pbool s,pint x] (· = pbool (s && inB x)):=by
 refine pcalls_of_pw typeTab_ok Tryz.func100 rfl (by kernel_rfl) (by simp [low_pint,low_pbool]) (by simp [pint,pbool,PV.ownB]) (by rw [Tryz.ntmps100];simp) ?_
 rw [Tryz.ntmps100,Tryz.results100]
 cases s
 ·refine wk ?_
  exact retP rfl (by exact lw) rfl
 ·by_cases h1 : -1000≤x
  ·by_cases h2:x≤1000
   ·refine wk ?_
    exact retP rfl (by exact lw) (by simp [pbool,inB,h1,h2])
   ·refine wk ?_
    exact retP rfl (by exact lw) (by simp [pbool,inB,h2])
  ·refine wk ?_
   exact retP rfl (by exact lw) (by simp [pbool,inB,h1])
theorem foldl_take {α β:Type} [Inhabited β] (g:α→β→α) (n:α) (v:List β) {k:Nat} (h:k < v.length):(v.take (k+1)).foldl g n=g ((v.take k).foldl g n) (v.getD k default):=by
 rw [List.take_add_one,List.getElem?_eq_getElem h,List.foldl_append,List.getD_eq_getElem?_getD,List.getElem?_eq_getElem h]
 rfl
set_option maxRecDepth 10000 in
set_option maxHeartbeats 1000000 in
theorem pw_foldB (f:Nat) (g:Bool→Int→Bool) (v:List Int) (n:Bool) (hf:Nat.blt f 1000000=true) (hl:v.length≤1000000) (hp:∀k,k < v.length→PCalls Tryz.prog f [pbool ((v.take k).foldl g n),pint (v.getD k default)] (· = pbool (g ((v.take k).foldl g n) (v.getD k default)))):PCalls Tryz.prog 99 [pints v,pbool n, .fn f []] (· = pbool (v.foldl g n)):=by
 have hlow1:Low (.fn f []):=.fn f [] (by simp)
 refine pcalls_of_pw typeTab_ok Tryz.func99 rfl (by kernel_rfl) (by simp [low_pints,low_pbool,hlow1]) (by simp [pints,pbool,PV.ownB]) (by rw [Tryz.ntmps99];simp) ?_
 rw [Tryz.ntmps99,Tryz.results99]
 refine wk ?_
 refine PW.loop (fun k:Nat=>(((((bot.put 1 (pbool ((v.take k).foldl g n))).put 2 (.fn f [])).put 9 (pints v)).put 10 (pint v.length)).put 11 (pint k))) (fun k=>k≤v.length) (fun k=>v.length - k) 0 (by omega) ?_ ?_
 ·exact sb
 ·intro k hk
  by_cases hlt:k < v.length
  ·refine wk ?_
   refine PWops.callV hf (hp k hlt) rfl rfl rfl rfl rfl rfl ?_
   refine wk ?_
   refine loopP (k+1) (by omega) (by omega) ?_
   simp only [foldl_take g n v hlt]
   exact sb
  ·refine wk ?_
   refine retP rfl (by exact lw) ?_
   rw [List.take_of_length_le (by omega)];rfl
set_option maxRecDepth 10000 in
set_option maxHeartbeats 1000000 in
theorem pw_foldI (f:Nat) (g:Int→Int→Int) (v:List Int) (n:Int) (hf:Nat.blt f 1000000=true) (hl:v.length≤1000000) (hp:∀k,k < v.length→PCalls Tryz.prog f [pint ((v.take k).foldl g n),pint (v.getD k default)] (· = pint (g ((v.take k).foldl g n) (v.getD k default)))):PCalls Tryz.prog 190 [pints v,pint n, .fn f []] (· = pint (v.foldl g n)):=by
 have hlow1:Low (.fn f []):=.fn f [] (by simp)
 refine pcalls_of_pw typeTab_ok Tryz.func190 rfl (by kernel_rfl) (by simp [low_pints,low_pint,hlow1]) (by simp [pints,pint,PV.ownB]) (by rw [Tryz.ntmps190];simp) ?_
 rw [Tryz.ntmps190,Tryz.results190]
 refine wk ?_
 refine PW.loop (fun k:Nat=>(((((bot.put 1 (pint ((v.take k).foldl g n))).put 2 (.fn f [])).put 9 (pints v)).put 10 (pint v.length)).put 11 (pint k))) (fun k=>k≤v.length) (fun k=>v.length - k) 0 (by omega) ?_ ?_
 ·exact sb
 ·intro k hk
  by_cases hlt:k < v.length
  ·refine wk ?_
   refine PWops.callV hf (hp k hlt) rfl rfl rfl rfl rfl rfl ?_
   refine wk ?_
   refine loopP (k+1) (by omega) (by omega) ?_
   simp only [foldl_take g n v hlt]
   exact sb
  ·refine wk ?_
   refine retP rfl (by exact lw) ?_
   rw [List.take_of_length_le (by omega)];rfl
theorem vecB_fold (v:List Int):(v.foldl (fun s x=>s && inB x) true) = !v.any farB:=by
 have:∀(v:List Int) (s:Bool),v.foldl (fun s x=>s && inB x) s=(s && !v.any farB):=by
  intro v
  induction v with
  |nil=>intro s;simp
  |cons x v ih=>
   intro s
   rw [List.foldl_cons,ih,List.any_cons]
   have:inB x = !farB x:=by
    simp only [inB,farB,Bool.not_or]
    congr 1<;>rw [←decide_not]<;>congr 1<;>simp
   rw [this]
   cases s<;>cases farB x<;>simp
 simpa using this v true
set_option maxRecDepth 10000 in
theorem pw_vecValid (v:List Int) (hl:v.length≤1000000):PCalls Tryz.prog 38 [pints v] (· = pbool (vecB v)):=by
 have h:=pw_foldB 100 (fun s x=>s && inB x) v true rfl hl (fun k _=>pw_valid1 _ _)
 rw [vecB_fold] at h
 refine pcalls_of_pw typeTab_ok Tryz.func38 rfl (by kernel_rfl) (by simp [low_pints]) (by simp [pints,PV.ownB]) (by rw [Tryz.ntmps38];simp) ?_
 rw [Tryz.ntmps38,Tryz.results38]
 unfold vecB
 cases hb:v.any farB with
 |true=>
  rw [hb] at h
  refine wk ?_
  exact retP rfl (by exact lw) (by simp [pbool])
 |false=>
  rw [hb] at h
  by_cases h1:1≤v.length
  ·by_cases h2:v.length≤32
   ·refine wk ?_
    exact retP rfl (by exact lw) (by simp [pbool,h1,h2])
   ·refine wk ?_
    exact retP rfl (by exact lw) (by simp [pbool,h2])
  ·refine wk ?_
   exact retP rfl (by exact lw) (by simp [pbool,h1])
end
section
open Go.RowKit
variable {P:Program} {T:Tab} {ops:Array Oper} {base:Nat} {ok:Nat→Nat→Bool} {i:Nat} {o:Oper} {rest:List (Nat×Oper)} {K:PS→Prop} {σ:PS}
theorem PWops.callHV {c:Call} {x:Operand} {f:FuncId} {caps args:List PV} {given res:List (Nat×List PV)} {gm rm:List (Nat×PMap)} {r:PV} (hf:Nat.blt f 1000000=true) (hp:HCalls P f args given gm r res rm) (hg:pguard ops σ o=some true) (hop:o.op = .call c) (hcal:c.callee = .value x) (hx:pev σ x = .fn f caps) (hargs:c.args.toList.map (pev σ) ++ caps=args)
  (hA:AllB σ (ok i) given) (hB:AllM σ (ok i) gm) (hn:hnewB σ (ok i) (given.map (·.1)) (gm.map (·.1)) (res.map (·.1)) (rm.map (·.1))=true) (hh:∀j id,ok j id=true) (k:PWops P T ops base ok rest K (σ.app o.dst ⟨r,res,none,rm⟩)):PWops P T ops base ok ((i,o) :: rest) K σ:=by
 refine PWops.callH hg ?_ hp hA hB hn (.inr hh) k
 unfold pcall
 rw [hop]
 simp only [hcal,hx,hf,cond_true,hargs]
end
section
open Go.RowKit
variable {P:Program} {M:Nat} {Q:Exit→PS→Prop} {σ:PS}
theorem midB {α:Type} {id:Nat} {y:Code} {st:α→PS} {I:α→Prop} (h2:∀x,I x→PW P M y Q (st x)):∀e σ,BlockP id (MidP M st I Q) e σ→BlockP id (ThenP P M y Q) e σ:=by
 intro e σ h
 cases e with
 |normal=>
  obtain ⟨x,hx,hs⟩:=h
  exact PW.sub (h2 x hx) hs
 |exit i=>
  simp only [BlockP] at h ⊢
  split at h
  ·rename_i e
   rw [if_pos e]
   obtain ⟨x,hx,hs⟩:=h
   exact PW.sub (h2 x hx) hs
  ·rename_i e
   rw [if_neg e]
   exact h
 |_=>exact h
theorem PW.cutTB {α:Type} {id:Nat} {c z y:Code} (st:α→PS) (I:α→Prop) (h1:PW P M c (ThenP P M z (BlockP id (MidP M st I Q))) σ) (h2:∀x,I x→PW P M y Q (st x)):PW P M c (ThenP P M z (BlockP id (ThenP P M y Q))) σ:=by
 refine PW.conseq h1 fun e σ' h=>?_
 cases e with
 |normal=>exact PW.conseq h (midB h2)
 |exit i=>exact midB (id:=id) h2 (.exit i) σ' h
 |goto i=>exact midB (id:=id) h2 (.goto i) σ' h
 |ret=>exact midB (id:=id) h2 .ret σ' h
 |panic c=>exact midB (id:=id) h2 (.panic c) σ' h
 |outgrown=>exact midB (id:=id) h2 .outgrown σ' h
theorem rq_fn1 {κ:Nat→Nat} {S:Nat→Prop} {f j:Nat} (hj:S j):RenQL κ S [.fn f [.ptr j 0]] [.fn f [.ptr (κ j) 0]]:=RenQL.cons (.inl (ren_fn (RenL.cons (.ptr _ _ hj) RenL.nil))) RenQL.nil
end
section
open Go.RowKit
theorem sq_bound {d:Int} (h1 : -5000≤d) (h2:d≤5000):0≤d * d∧d * d≤25000000:=by
 have h3:d * d=((d.natAbs * d.natAbs:Nat):Int):=by rw [Int.natCast_mul,Int.natAbs_mul_self']
 have h4:d.natAbs * d.natAbs≤5000 * 5000:=Nat.mul_le_mul (by omega) (by omega)
 rw [h3]
 omega
def Small30 (z:Int):Prop := -1000000000000≤z∧z≤1000000000000
def AddC (m:Int) (f:Nat):Prop:=Nat.blt f 1000000=true∧∀(id:Nat) (n d:Int),Small30 n → -5000≤d→d≤5000→HCalls Tryz.prog f [pint d, .ptr id 0] [(id,[pint n])] [] (.tup []) [(id,[pint (addM m n d)])] []
set_option maxRecDepth 10000 in
theorem hc_key1:AddC 1 257:=by
 refine ⟨rfl,fun id n d hn h1 h2=>?_⟩
 obtain ⟨h3,h4⟩:=hn
 have hdd:=sq_bound h1 h2
 have h:HCalls Tryz.prog 257 [pint d, .ptr 1000001 0] [(1000001,[pint n])] [] (.tup []) [(1000001,[pint (addM 1 n d)])] []:=by
  refine hcalls_of_pw typeTab_ok Tryz.func257 rfl (by kernel_rfl) (by simp [pint,PV.ownB]) (by rw [Tryz.ntmps257];simp) (by simp [ResIds]) (by simp [ResIds]) (by exact hok0) ?_
  rw [Tryz.ntmps257,Tryz.results257]
  refine wk ?_
  exact RetH.mk rfl (Weak.refl _) ⟨⟨_,rfl,WeakL.eq (by simp [addM,pint])⟩,trivial⟩ trivial
 exact h.at [(1000001,id)] (by simp) (by simp [ResIds]) (by simp) (by simp) (by exact ren0) (by exact ren0) (by exact ren0) (Ren.low _ (.tup _ (by simp))) (by exact ren0) (by exact ren0)
set_option maxRecDepth 10000 in
theorem hc_key2:AddC 2 258:=by
 refine ⟨rfl,fun id n d hn h1 h2=>?_⟩
 obtain ⟨h3,h4⟩:=hn
 have hdd:=sq_bound h1 h2
 have h:HCalls Tryz.prog 258 [pint d, .ptr 1000001 0] [(1000001,[pint n])] [] (.tup []) [(1000001,[pint (addM 2 n d)])] []:=by
  refine hcalls_of_pw typeTab_ok Tryz.func258 rfl (by kernel_rfl) (by simp [pint,PV.ownB]) (by rw [Tryz.ntmps258];simp) (by simp [ResIds]) (by simp [ResIds]) (by exact hok0) ?_
  rw [Tryz.ntmps258,Tryz.results258]
  refine wk ?_
  exact RetH.mk rfl (Weak.refl _) ⟨⟨_,rfl,WeakL.eq (by simp [addM,pint])⟩,trivial⟩ trivial
 exact h.at [(1000001,id)] (by simp) (by simp [ResIds]) (by simp) (by simp) (by exact ren0) (by exact ren0) (by exact ren0) (Ren.low _ (.tup _ (by simp))) (by exact ren0) (by exact ren0)
set_option maxRecDepth 10000 in
theorem hc_key3:AddC 3 259:=by
 refine ⟨rfl,fun id n d hn h1 h2=>?_⟩
 obtain ⟨h3,h4⟩:=hn
 have hdd:=sq_bound h1 h2
 have h:HCalls Tryz.prog 259 [pint d, .ptr 1000001 0] [(1000001,[pint n])] [] (.tup []) [(1000001,[pint (addM 3 n d)])] []:=by
  refine hcalls_of_pw typeTab_ok Tryz.func259 rfl (by kernel_rfl) (by simp [pint,PV.ownB]) (by rw [Tryz.ntmps259];simp) (by simp [ResIds]) (by simp [ResIds]) (by exact hok0) ?_
  rw [Tryz.ntmps259,Tryz.results259]
  refine wk ?_
  exact RetH.mk rfl (Weak.refl _) ⟨⟨_,rfl,WeakL.eq (by simp [addM,pint];split<;>omega)⟩,trivial⟩ trivial
 exact h.at [(1000001,id)] (by simp) (by simp [ResIds]) (by simp) (by simp) (by exact ren0) (by exact ren0) (by exact ren0) (Ren.low _ (.tup _ (by simp))) (by exact ren0) (by exact ren0)
def unP:List PV→Int
 | [.val (.int _ z)]=>z
 |_=>0
def keyP (m:Int) (pre:List (List PV)):Int:=keyD m (pre.map unP)
theorem keyP_snoc (m:Int) (pre:List (List PV)) (d:Int):keyP m (pre ++ [[pint d]])=addM m (keyP m pre) d:=by
 simp [keyP,keyD,unP,pint]
theorem addM_bound {m n d:Int} {k:Nat} (h : -25000000 * k≤n∧n≤25000000 * k) (h1 : -5000≤d) (h2:d≤5000) : -25000000 * ((k+1:Nat):Int)≤addM m n d∧addM m n d≤25000000 * ((k+1:Nat):Int):=by
 have:=sq_bound h1 h2
 unfold addM
 split
 ·omega
 ·split
  ·omega
  ·omega
theorem keyD_bound (m:Int):∀(ds:List Int),(∀d∈ds,-5000≤d∧d≤5000)→∀(n:Int) (k:Nat),-25000000 * k≤n∧n≤25000000 * k → -25000000 * ((k+ds.length:Nat):Int)≤ds.foldl (addM m) n∧ds.foldl (addM m) n≤25000000 * ((k+ds.length:Nat):Int)
 | [],_,n,k,h=>by simpa using h
 |d :: ds,hd,n,k,h=>by
  have h1:=hd d List.mem_cons_self
  have:=keyD_bound m ds (fun x hx=>hd x (List.mem_cons_of_mem _ hx)) (addM m n d) (k+1) (addM_bound h h1.1 h1.2)
  simp only [List.foldl_cons,List.length_cons]
  rw [show k+(ds.length+1)=k+1+ds.length by omega]
  exact this
theorem keyP_small {m:Int} {ds:List Int} (hd:∀d∈ds,-5000≤d∧d≤5000) (hl:ds.length≤1000):Small30 (keyP m (ds.map fun d => [pint d])):=by
 have h1:(ds.map fun d => [pint d]).map unP=ds:=by
  rw [List.map_map]
  have:(unP ∘ fun d => [pint d])=id:=by funext d;rfl
  rw [this,List.map_id]
 have:=keyD_bound m ds hd 0 0 (by simp)
 unfold Small30 keyP keyD
 rw [h1]
 omega
theorem part_ds {ds:List Int} {pre:List (List PV)} {x:List PV} (h:Part (ds.map fun d => [pint d]) (pre ++ [x])):∃k,k < ds.length∧x = [pint (ds.getD k default)]∧pre=(ds.take k).map fun d => [pint d]:=by
 obtain ⟨k,hk⟩:=h
 have hl:pre.length+1=min k ds.length:=by
  have:=congrArg List.length hk
  simpa using this
 have hj:pre.length < ds.length:=by omega
 refine ⟨pre.length,hj,?_,?_⟩
 ·have h1:(pre ++ [x])[pre.length]? = some x:=by simp
  rw [hk,List.getElem?_take,if_pos (by omega),List.getElem?_map,List.getElem?_eq_getElem hj] at h1
  simp only [Option.map_some,Option.some.injEq] at h1
  rw [←h1,List.getD_eq_getElem?_getD,List.getElem?_eq_getElem hj];rfl
 ·have h1:pre=(pre ++ [x]).take pre.length:=by simp
  rw [hk,List.take_take,show min pre.length k=pre.length by omega,←List.map_take] at h1
  exact h1
set_option maxRecDepth 10000 in
set_option maxHeartbeats 2000000 in
theorem pw_key (m:Int) (f:Nat) (caps:List PV) (ds:List Int) (hf:Nat.blt f 1000000=true) (hlow:∀c∈caps,Low c) (hit:ItSpec Tryz.prog f caps (Part (ds.map fun d => [pint d])) (· = ds.map fun d => [pint d])) (hd:∀d∈ds,-5000≤d∧d≤5000) (hl:ds.length≤1000) :
  PCalls Tryz.prog 232 [pint m, .fn f caps] (· = if keyB m then .tup [pint (keyD m ds),pbool true] else .tup [pint 0,pbool false]):=by
 have hlow1:Low (.fn f caps):=.fn f caps hlow
 refine pcalls_of_pw typeTab_ok Tryz.func232 rfl (by kernel_rfl) (by simp [low_pint,hlow1]) (by simp [pint,PV.ownB]) (by rw [Tryz.ntmps232];simp) ?_
 rw [Tryz.ntmps232,Tryz.results232]
 refine PW.seq ?_
 refine PW.region typeTab_ok (by kernel_rfl) ?_
 refine wg ?_
 refine PW.region typeTab_ok (by kernel_rfl) ?_
 refine wg ?_
 refine PW.region typeTab_ok (by kernel_rfl) ?_
 refine wg ?_
 refine PW.region typeTab_ok (by kernel_rfl) ?_
 refine wg ?_
 refine PW.cutTB (fun fc:Nat=>(((((bot.setb 1000 [pint 0]).setb 2001 [.fn fc [.ptr 1000 0]]).put 1 (.fn f caps)).put 6 (.ptr 1000 0)).put 7 (.ptr 2001 0))) (fun fc=>AddC m fc∧keyB m=true) ?_ ?_
 ·by_cases m1:m=1
  ·subst m1
   refine wk ?_
   exact midP 257 ⟨hc_key1,rfl⟩ (by exact sbF)
  ·by_cases m2:m=2
   ·subst m2
    refine wk ?_
    exact midP 258 ⟨hc_key2,rfl⟩ (by exact sbF)
   ·by_cases m3:m=3
    ·subst m3
     refine wk ?_
     exact midP 259 ⟨hc_key3,rfl⟩ (by exact sbF)
    ·refine wk ?_
     refine midP_ret (retP (r:=.tup [pint 0,pbool false]) rfl (by simp [low_tup,low_pint,low_pbool]) ?_)
     rw [if_neg (by simp only [keyB,Bool.and_eq_true,decide_eq_true_eq];omega)]
 ·rintro fc ⟨⟨hfc,hA⟩,hm⟩
  refine wk ?_
  refine PW.rangeFunc (A:=Part (ds.map fun d => [pint d])) (S:=(· = ds.map fun d => [pint d])) 3000000 [3002001,3001000] (fun pre=>((((bot.setb 3001000 [pint (keyP m pre)]).setb 3002001 [.fn fc [.ptr 3001000 0]]).put 6 (.ptr 3001000 0)).put 7 (.ptr 3002001 0))) (fun _=>True) trivial rfl hf hlow hit (by exact sbrF) (fun pre=>by exact kn0) (by intro pre i hi;simp only [List.mem_cons,List.not_mem_nil,or_false] at hi;rcases hi with rfl|rfl|rfl|rfl|rfl<;>rfl) rfl (by decide) (fun pre=>by exact ow0) (by simp) ?_ ?_ ?_
  ·intro pre x hx
   obtain ⟨k,-,rfl,-⟩:=part_ds hx
   refine ⟨rfl,fun p hp=>?_⟩
   simp only [List.mem_cons,List.not_mem_nil,or_false] at hp
   subst hp
   exact ⟨.val _,rfl⟩
  ·intro pre x hI hx
   obtain ⟨k,hk,rfl,hpre⟩:=part_ds hx
   simp only [putps]
   refine wk ?_
   refine normP ?_
   have hdk:=hd (ds.getD k default) (by rw [List.getD_eq_getElem?_getD,List.getElem?_eq_getElem hk];exact List.getElem_mem hk)
   have hsm:Small30 (keyP m pre):=by
    rw [hpre]
    exact keyP_small (fun d h=>hd d (List.mem_of_mem_take h)) (by simp;omega)
   have hc:=hA 3001000 (keyP m pre) (ds.getD k default) hsm hdk.1 hdk.2
   refine wk ?_
   refine PWops.callHV hfc hc rfl rfl rfl rfl rfl ⟨⟨rfl,rfl⟩,trivial⟩ trivial rfl (fun _ _=>rfl) ?_
   refine wk ?_
   refine roundP trivial ?_ (by exact lt0)
   rw [keyP_snoc]
   exact sbF
  ·intro xs hxs hI
   subst hxs
   refine ⟨((bot.setb 1000 [pint (keyD m ds)]).put 6 (.ptr 1000 0)),?_,?_⟩
   ·have:keyP m (ds.map fun d => [pint d])=keyD m ds:=by
     unfold keyP
     rw [List.map_map]
     have:(unP ∘ fun d => [pint d])=id:=by funext d;rfl
     rw [this,List.map_id]
    rw [this]
    exact sbrF
   ·refine wk ?_
    refine retP (r:=.tup [pint (keyD m ds),pbool true]) rfl (by simp [low_tup,low_pint,low_pbool]) ?_
    rw [if_pos hm]
end
section
open Go Go.RowKit
theorem bl_irrefl:∀a:List UInt8,Op.bytesLess a a=false
 | []=>rfl
 |a :: x=>by simp [Op.bytesLess,bl_irrefl x]
theorem bl_trans:∀a b c:List UInt8,Op.bytesLess a b=true→Op.bytesLess b c=true→Op.bytesLess a c=true
 |_,[],c,h,_=>by cases ‹List UInt8› <;> simp [Op.bytesLess] at h
 |_,b :: y,[],_,h=>by simp [Op.bytesLess] at h
 | [],b :: y,c :: z,_,_=>by simp [Op.bytesLess]
 |a :: x,b :: y,c :: z,h,k=>by
  simp only [Op.bytesLess,Bool.or_eq_true,Bool.and_eq_true,decide_eq_true_eq,beq_iff_eq] at h k ⊢
  rcases h with h|⟨rfl,h⟩
  ·rcases k with k|⟨rfl,k⟩
   ·exact .inl (UInt8.lt_trans h k)
   ·exact .inl h
  ·rcases k with k|⟨rfl,k⟩
   ·exact .inl k
   ·exact .inr ⟨rfl,bl_trans x y z h k⟩
theorem bl_total:∀a b:List UInt8,Op.bytesLess a b=false→a≠b→Op.bytesLess b a=true
 | [],[],_,h=>absurd rfl h
 | [],b :: y,h,_=>by simp [Op.bytesLess] at h
 |a :: x,[],_,_=>by simp [Op.bytesLess]
 |a :: x,b :: y,h,hne=>by
  simp only [Op.bytesLess,Bool.or_eq_false_iff,decide_eq_false_iff_not,Bool.and_eq_false_iff,Bool.or_eq_true,Bool.and_eq_true,decide_eq_true_eq,beq_iff_eq] at h ⊢
  by_cases e:a=b
  ·subst e
   refine .inr ⟨rfl,bl_total x y ?_ (fun e=>hne (e ▸ rfl))⟩
   rcases h.2 with h2|h2
   ·simp at h2
   ·exact h2
  ·left
   have:=h.1
   have h3:¬a.toNat=b.toNat:=fun h=>e (UInt8.toNat_inj.1 h)
   rw [UInt8.lt_iff_toNat_lt] at this ⊢
   omega
def ltB (a b:ByteArray):Prop:=Op.bytesLess a.toList b.toList=true
theorem ltB_trans {a b c:ByteArray} (h:ltB a b) (k:ltB b c):ltB a c:=bl_trans _ _ _ h k
theorem ltB_ne {a b:ByteArray} (h:ltB a b):eqB a b=false:=by
 cases e:eqB a b with
 |false=>rfl
 |true=>
  simp only [eqB,beq_iff_eq] at e
  unfold ltB at h
  rw [e,bl_irrefl] at h;cases h
theorem leqB_false {x p:ByteArray} : leqB x p=false↔ltB p x:=by
 unfold leqB ltB
 rw [Bool.or_eq_false_iff]
 constructor
 ·rintro ⟨h1,h2⟩
  exact bl_total _ _ h1 (by simpa using h2)
 ·intro h
  refine ⟨?_,?_⟩
  ·cases e:Op.bytesLess x.toList p.toList with
   |false=>rfl
   |true=>have:=bl_trans _ _ _ h e;rw [bl_irrefl] at this;cases this
  ·have:=ltB_ne h
   rw [eqB_comm] at this;exact this
structure DefsOk (b:ByteArray) (ds:List PDef):Prop where
 one:∀d∈ds,nameB d.name=true∧(d.kind=1∨d.kind=2)∧ltB b d.name
 rise:ds.Pairwise fun d e=>ltB d.name e.name
theorem defE_ok {d:PDef} {b:ByteArray} (h:defE d b=0):nameB d.name=true∧(d.kind=1∨d.kind=2)∧ltB b d.name:=by
 unfold defE at h
 split at h
 ·simp at h
 ·rename_i h1
  split at h
  ·simp at h
  ·rename_i h2
   refine ⟨by simpa using h1,?_,leqB_false.1 (by simpa using h2)⟩
   split at h
   ·left;assumption
   ·split at h
    ·right;assumption
    ·simp at h
theorem defsE_ok:∀(ds:List PDef) (b:ByteArray),defsE b ds=0→DefsOk b ds
 | [],b,_=>⟨by simp, .nil⟩
 |d :: r,b,h=>by
  rw [defsE] at h
  split at h
  ·rename_i h1;exact absurd h h1
  ·rename_i h1
   obtain ⟨k1,k2,k3⟩:=defE_ok (by simpa using h1)
   have ih:=defsE_ok r d.name h
   refine ⟨fun e he=>?_,?_⟩
   ·rcases List.mem_cons.1 he with rfl|he
    ·exact ⟨k1,k2,k3⟩
    ·obtain ⟨i1,i2,i3⟩:=ih.one e he
     exact ⟨i1,i2,ltB_trans k3 i3⟩
   ·rw [List.pairwise_cons]
    exact ⟨fun e he=>(ih.one e he).2.2,ih.rise⟩
theorem checkE_ok {s:PSchema} (h:checkE s=0):DefsOk ByteArray.empty s.defs:=by
 unfold checkE at h
 split at h
 ·simp at h
 ·split at h
  ·simp at h
  ·exact defsE_ok _ _ h
theorem findI_get {ds:List PDef} {nm:ByteArray} (h:0≤findI ds nm):∃d,ds[(findI ds nm).toNat]? = some d:=by
 have:=idxB_lt (ds.map fun (d:PDef)=>eqB d.name nm) (by unfold findI at h;exact h)
 rw [List.length_map] at this
 have hlt:(findI ds nm).toNat < ds.length:=by unfold findI at h ⊢; omega
 exact ⟨_,List.getElem?_eq_getElem hlt⟩
theorem idxGo_true:∀(l:List Bool) (k:Int),idxGo l k ≠ -1→0≤k→l[(idxGo l k - k).toNat]? = some true
 | [],k,h,_=>by simp [idxGo] at h
 |b :: r,k,h,hk=>by
  rw [idxGo] at h ⊢
  cases b with
  |true=>simp
  |false=>
   simp only [Bool.false_eq_true,if_false] at h ⊢
   have ih:=idxGo_true r (k+1) h (by omega)
   have hb:=idxGo_bd r (k+1) (by omega)
   rcases hb with ⟨e,-⟩|⟨e,-,-⟩
   ·exact absurd e h
   ·rw [show (idxGo r (k+1) - k).toNat=(idxGo r (k+1) - (k+1)).toNat+1 by omega,List.getElem?_cons_succ]
    exact ih
theorem findI_name {ds:List PDef} {nm:ByteArray} (h:0≤findI ds nm) {d:PDef} (hd:ds[(findI ds nm).toNat]? = some d):eqB d.name nm=true:=by
 have:=idxGo_true (ds.map fun d=>eqB d.name nm) 0 (by unfold findI idxB at h;omega) (by omega)
 rw [Int.sub_zero] at this
 unfold findI idxB at hd
 rw [List.getElem?_map,hd] at this
 simpa using this
def one (ds:List PDef) (a:PAttr):Prop:=0≤findI ds a.name∧(match ds[(findI ds a.name).toNat]? with|some d=>valueE d a|none=>0)=0
theorem fits_first {b:ByteArray} {ds:List PDef} (hd:DefsOk b ds) (hb:b=ByteArray.empty) (l:List PAttr):fitsGo ds b false l=fitsGo ds b true l:=by
 cases l with
 |nil=>rfl
 |cons a r=>
  have:fitE ds b false a=fitE ds b true a:=by
   unfold fitE
   by_cases h1:findI ds a.name < 0
   ·rw [if_pos h1,if_pos h1]
   ·rw [if_neg h1,if_neg h1]
    obtain ⟨d,hd'⟩:=findI_get (show 0≤findI ds a.name by omega)
    have hn:=findI_name (by omega) hd'
    have hm:=(hd.one d (mem_of_get' hd')).2.2
    have e:d.name.toList=a.name.toList:=by simpa [eqB] using hn
    have:leqB a.name b=false:=leqB_false.2 (by unfold ltB at hm ⊢; rw [←e];exact hm)
    simp [this]
  rw [fitsGo,fitsGo,this]
where
 mem_of_get' {α:Type} {l:List α} {j:Nat} {c:α} (h:l[j]? = some c):c∈l:=List.mem_of_getElem? h
theorem entryA_E {s:PSchema} (h:checkE s=0) (e:PEntry):entryA s e=entryE s e:=by
 have hf:fitsGo s.defs ByteArray.empty false e.attrs=fitsE s e.attrs:=fits_first (checkE_ok h) rfl _
 have h1:idBad e=decide (e.id < 1∨1073741824 < e.id∨e.owner < 1∨1073741824 < e.owner∨e.ver < 1∨1073741824 < e.ver):=by
  simp only [idBad,Bool.decide_or]
 have h2:(fromBad e || (toBad e || bornBad e))=decide (e.filed < 0∨e.frm < e.filed∨e.to≤e.frm∨1048577 < e.to∨1048576 < e.frm∨e.born < 1∨1073741824 < e.born):=by
  rw [Bool.eq_iff_iff]
  simp only [fromBad,toBad,bornBad,Bool.or_eq_true,decide_eq_true_eq]
  constructor<;>intro h<;>omega
 have h3:vecBad s e=decide (validV e.vec=false∨(e.vec.length:Int)≠s.dims):=by
  rw [Bool.eq_iff_iff]
  simp only [vecBad,Bool.or_eq_true,bne_iff_ne,Bool.not_eq_true',decide_eq_true_eq]
  exact ⟨fun h=>h.symm,fun h=>h.symm⟩
 unfold entryA entR entryE
 rw [hf]
 simp only [firstE,h1,h3]
 by_cases g1:e.id < 1∨1073741824 < e.id∨e.owner < 1∨1073741824 < e.owner∨e.ver < 1∨1073741824 < e.ver
 ·simp [g1]
 ·rw [if_neg g1]
  simp only [g1,decide_false,Bool.false_eq_true,if_false]
  by_cases g2:e.filed < 0∨e.frm < e.filed∨e.to≤e.frm∨1048577 < e.to∨1048576 < e.frm∨e.born < 1∨1073741824 < e.born
  ·rw [if_pos g2]
   rw [decide_eq_true g2] at h2
   simp only [Bool.or_eq_true] at h2
   cases ha:fromBad e<;>cases hb:toBad e<;>cases hc:bornBad e<;>simp_all
  ·rw [if_neg g2]
   rw [decide_eq_false g2] at h2
   simp only [Bool.or_eq_false_iff] at h2
   simp only [h2.1,h2.2.1,h2.2.2,Bool.false_eq_true,if_false]
   by_cases g3:validV e.vec=false∨(e.vec.length:Int)≠s.dims
   ·simp [g3]
   ·simp [g3]
end
section
open Go.RowKit
set_option maxRecDepth 100000 in
set_option maxHeartbeats 1000000 in
theorem slicesCloneS (v:Value) (zs:List ByteArray) (w:World) (hv:Strs w v zs) (hl:zs.length≤1000000000):Calls Tryz.prog 124 #[v] w (MadeRow 9 w (zs.map Value.string)):=by
 have HV:=Lib.hid hv
 obtain ⟨a,cap,b,off,rfl,hcap,hm,ha,hc⟩:=hv.open
 clear hv hc
 cases a with
 |none=>
  have hz:zs = []:=List.eq_nil_of_length_eq_zero (by
   rcases Nat.eq_zero_or_pos zs.length with h|h
   ·exact h
   ·have:=ha h;cases this)
  subst hz
  clear ha
  have he:=fun (w:World)=>Lib.run_eql_slice_nil (P:=Tryz.prog) w 75 9 none 0 cap 0 0 (by kernel_rfl)
  go_enter Tryz.func124,Tryz.ntmps124
  simp only [Option.isNone_none] at he
  go_wp2
  go_ret
  exact ⟨_,rfl,Own.nil _ _ _,Below.refl _ _⟩
 |some ad=>
  clear ha
  have he:=fun (w:World)=>Lib.run_eql_slice_nil (P:=Tryz.prog) w 75 9 (some ad) zs.length cap 0 0 (by kernel_rfl)
  go_enter Tryz.func124,Tryz.ntmps124
  simp only [Option.isNone_some] at he
  have h0:=Lib.hid (show Own w.heap.size 9 (w.alloc (.cells #[] 9)) (.slice (some ⟨w.heap.size,0,none⟩) 0 0) [] from Own.lit w [] 9 w.heap.size (Nat.le_refl _) (by simp [maxLen]))
  have h1:=Lib.hid (show Rd (w.alloc (.cells #[] 9)) (.slice (some ad) zs.length cap) (zs.map Value.string) from HV.out.below ((Below.refl _ _).alloc (Nat.le_refl _) _))
  go_wp2_with (at_builtin;refine wp_appendR _ _ 75 9 16 _ elemStr rfl rfl (by kernel_rfl) w.heap.size _ _ [] (zs.map Value.string) rfl h0.out rfl h1.out (by intro c hc;obtain ⟨z,-,rfl⟩:=List.mem_map.1 hc;rfl) (by simp [maxLen];omega) (by simp;omega) (by simp) ?_;intro v' w' ho hb)
  go_ret
  exact ⟨_,rfl,by simpa using ho,((Below.refl _ _).alloc (Nat.le_refl _) _).trans hb⟩
theorem pcCloneS (l:List ByteArray) (hl:l.length≤1000000000):PCalls Tryz.prog 124 [pstrs l] (· = pstrs l):=
 pcalls1 (by kernel_rfl) fun Φ μ w v himm hr=>(slicesCloneS v l w (strs_of_rep himm hr) hl).mono (by
  rintro e w' ⟨u,rfl,ho,hb⟩
  obtain ⟨Φ',q1,q2,q3,-⟩:=own_rep himm (f:=Value.string) (fun _=>rfl) ho hb
  exact ⟨_,u,Φ',rfl,rfl,q3.bare,q1,q2,hb,fun n k cs E' e=>by cases e⟩)
end
end Go.Proofs.YtoamkpgaaanafaaGreat
