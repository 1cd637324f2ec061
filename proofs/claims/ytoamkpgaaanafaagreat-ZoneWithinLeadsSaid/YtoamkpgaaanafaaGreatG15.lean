/- Out of: AttrQ, Pa, Pc, Zb, Zh, Ze, PlainK. -/
import Derived.Test.YtoamkpgaaanafaaGreatRows
import Derived.WalkKit
import Derived.WalkSpells
import Derived.WalkLawsBesides
import Derived.Deep.QuietTactic
import Derived.BigQuiet
import Derived.RegionTactic
import GoSem.Step
import Derived.Laws.RangeAny
import Derived.Lib.OthersKept
import Derived.Outline
import Derived.Lib.Hide
import Derived.Laws.EntriesVeiled
import Derived.StillTailTactics
import Derived.Lib.AppendZeros
import Derived.Lib.AppendStr
import Derived.OrdersIn
import Derived.Laws.BytesString
import Derived.WideLaws
import Derived.RangeFuncRecord
import Derived.Orders
import Derived.KernelRfl
import Derived.Deep.Cut
import Derived.RangeFuncCalls
import Derived.Laws.Strings
import Derived.Test.YtoamkpgaaanafaaGreatG1
import Derived.Test.YtoamkpgaaanafaaGreatG3
import Derived.Test.YtoamkpgaaanafaaGreatG6
import Derived.Test.YtoamkpgaaanafaaGreatG7
import Derived.Test.YtoamkpgaaanafaaGreatG8
import Derived.Test.YtoamkpgaaanafaaGreatG9
import Derived.Test.YtoamkpgaaanafaaGreatG10
import Derived.Test.YtoamkpgaaanafaaGreatG11
import Derived.Test.YtoamkpgaaanafaaGreatG12
import Derived.Test.YtoamkpgaaanafaaGreatG13
import Derived.Test.YtoamkpgaaanafaaGreatG14
namespace Go.Proofs.YtoamkpgaaanafaaGreat
set_option linter.unusedSimpArgs false
set_option linter.unusedVariables false
set_option linter.unnecessarySimpa false
section
open Go.RowKit
def idBad (e:PEntry):Bool:=decide (e.id < 1) || (decide (1073741824 < e.id) || (decide (e.owner < 1) || (decide (1073741824 < e.owner) || (decide (e.ver < 1) || (decide (1073741824 < e.ver))))))
theorem entry1 (g:Nat) (e:PEntry) (vv av:Value) (w:World) (h:EntAt w g e vv av):Calls Tryz.prog 88 #[.pointer (some ⟨g,0,none⟩)] w (RetB w (idBad e)):=by
 obtain ⟨c0,c1,c2,c3,c4,c5,c6,c7,c8,-,-⟩:=h
 cases h0:decide (e.id < 1)
 case true=>
  go_enter Tryz.func88,Tryz.ntmps88
  go_wp2
  go_ret
  exact RetB.mk (by simp [idBad,h0]) (Below.refl _ _)
 cases h1:decide (1073741824 < e.id)
 case true=>
  go_enter Tryz.func88,Tryz.ntmps88
  go_wp2
  go_ret
  exact RetB.mk (by simp [idBad,h0,h1]) (Below.refl _ _)
 cases h2:decide (e.owner < 1)
 case true=>
  go_enter Tryz.func88,Tryz.ntmps88
  go_wp2
  go_ret
  exact RetB.mk (by simp [idBad,h0,h1,h2]) (Below.refl _ _)
 cases h3:decide (1073741824 < e.owner)
 case true=>
  go_enter Tryz.func88,Tryz.ntmps88
  go_wp2
  go_ret
  exact RetB.mk (by simp [idBad,h0,h1,h2,h3]) (Below.refl _ _)
 cases h4:decide (e.ver < 1)
 case true=>
  go_enter Tryz.func88,Tryz.ntmps88
  go_wp2
  go_ret
  exact RetB.mk (by simp [idBad,h0,h1,h2,h3,h4]) (Below.refl _ _)
 cases h5:decide (1073741824 < e.ver)
 case true=>
  go_enter Tryz.func88,Tryz.ntmps88
  go_wp2
  go_ret
  exact RetB.mk (by simp [idBad,h0,h1,h2,h3,h4,h5]) (Below.refl _ _)
 go_enter Tryz.func88,Tryz.ntmps88
 go_wp2
 go_ret
 exact RetB.mk (by simp [idBad,h0,h1,h2,h3,h4,h5]) (Below.refl _ _)
theorem cE1:CallOk 88:=fun _ _=>by kernel_rfl
def fromBad (e:PEntry):Bool:=decide (e.filed < 0) || (decide (e.frm < e.filed) || (decide (1048576 < e.frm)))
theorem entry2 (g:Nat) (e:PEntry) (vv av:Value) (w:World) (h:EntAt w g e vv av):Calls Tryz.prog 89 #[.pointer (some ⟨g,0,none⟩)] w (RetB w (fromBad e)):=by
 obtain ⟨c0,c1,c2,c3,c4,c5,c6,c7,c8,-,-⟩:=h
 cases h0:decide (e.filed < 0)
 case true=>
  go_enter Tryz.func89,Tryz.ntmps89
  go_wp2
  go_ret
  exact RetB.mk (by simp [fromBad,h0]) (Below.refl _ _)
 cases h1:decide (e.frm < e.filed)
 case true=>
  go_enter Tryz.func89,Tryz.ntmps89
  go_wp2
  go_ret
  exact RetB.mk (by simp [fromBad,h0,h1]) (Below.refl _ _)
 cases h2:decide (1048576 < e.frm)
 case true=>
  go_enter Tryz.func89,Tryz.ntmps89
  go_wp2
  go_ret
  exact RetB.mk (by simp [fromBad,h0,h1,h2]) (Below.refl _ _)
 go_enter Tryz.func89,Tryz.ntmps89
 go_wp2
 go_ret
 exact RetB.mk (by simp [fromBad,h0,h1,h2]) (Below.refl _ _)
theorem cE2:CallOk 89:=fun _ _=>by kernel_rfl
def toBad (e:PEntry):Bool:=decide (e.to≤e.frm) || (decide (1048577 < e.to))
theorem entry3 (g:Nat) (e:PEntry) (vv av:Value) (w:World) (h:EntAt w g e vv av):Calls Tryz.prog 90 #[.pointer (some ⟨g,0,none⟩)] w (RetB w (toBad e)):=by
 obtain ⟨c0,c1,c2,c3,c4,c5,c6,c7,c8,-,-⟩:=h
 cases h0:decide (e.to≤e.frm)
 case true=>
  go_enter Tryz.func90,Tryz.ntmps90
  go_wp2
  go_ret
  exact RetB.mk (by simp [toBad,h0]) (Below.refl _ _)
 cases h1:decide (1048577 < e.to)
 case true=>
  go_enter Tryz.func90,Tryz.ntmps90
  go_wp2
  go_ret
  exact RetB.mk (by simp [toBad,h0,h1]) (Below.refl _ _)
 go_enter Tryz.func90,Tryz.ntmps90
 go_wp2
 go_ret
 exact RetB.mk (by simp [toBad,h0,h1]) (Below.refl _ _)
theorem cE3:CallOk 90:=fun _ _=>by kernel_rfl
def bornBad (e:PEntry):Bool:=decide (e.born < 1) || (decide (1073741824 < e.born))
theorem entry4 (g:Nat) (e:PEntry) (vv av:Value) (w:World) (h:EntAt w g e vv av):Calls Tryz.prog 91 #[.pointer (some ⟨g,0,none⟩)] w (RetB w (bornBad e)):=by
 obtain ⟨c0,c1,c2,c3,c4,c5,c6,c7,c8,-,-⟩:=h
 cases h0:decide (e.born < 1)
 case true=>
  go_enter Tryz.func91,Tryz.ntmps91
  go_wp2
  go_ret
  exact RetB.mk (by simp [bornBad,h0]) (Below.refl _ _)
 cases h1:decide (1073741824 < e.born)
 case true=>
  go_enter Tryz.func91,Tryz.ntmps91
  go_wp2
  go_ret
  exact RetB.mk (by simp [bornBad,h0,h1]) (Below.refl _ _)
 go_enter Tryz.func91,Tryz.ntmps91
 go_wp2
 go_ret
 exact RetB.mk (by simp [bornBad,h0,h1]) (Below.refl _ _)
theorem cE4:CallOk 91:=fun _ _=>by kernel_rfl
def vecBad (s:PSchema) (e:PEntry):Bool:=((e.vec.length:Int) != s.dims) || !validV e.vec
theorem entry5 (g h:Nat) (e:PEntry) (vv av:Value) (s:PSchema) (dv:Value) (w:World) (he:EntAt w g e vv av) (hs:SchAt w h s dv) (hl:e.vec.length≤1000000) :
  Calls Tryz.prog 92 #[.pointer (some ⟨g,0,none⟩), .pointer (some ⟨h,0,none⟩)] w (RetB w (vecBad s e)):=by
 obtain ⟨c0,c1,c2,c3,c4,c5,c6,c7,c8,hi,-⟩:=he
 obtain ⟨s0,-,-,-⟩:=hs
 have HI:=Lib.hid hi
 obtain ⟨a,cap,b,off,rfl,-⟩:=hi.open
 clear hi
 cases h0:((e.vec.length:Int) != s.dims)
 ·go_enter Tryz.func92,Tryz.ntmps92
  go_wp2_with fail
  refine (vectorValid _ e.vec _ HI.out (by omega)).mono ?_
  rintro e w' ⟨rfl,rfl⟩
  go_wp2
  go_ret
  exact RetB.mk (by simp [vecBad,h0]) (Below.refl _ _)
 ·go_enter Tryz.func92,Tryz.ntmps92
  go_wp2
  go_ret
  exact RetB.mk (by simp [vecBad,h0]) (Below.refl _ _)
theorem cE5:CallOk 92:=fun _ _=>by kernel_rfl
def rulesE (s:PSchema) (e:PEntry) (g h:Nat):List Rule := [⟨88,#[.pointer (some ⟨g,0,none⟩)],idBad e,1⟩,⟨89,#[.pointer (some ⟨g,0,none⟩)],fromBad e,9⟩,
 ⟨90,#[.pointer (some ⟨g,0,none⟩)],toBad e,9⟩,⟨91,#[.pointer (some ⟨g,0,none⟩)],bornBad e,9⟩,⟨92,#[.pointer (some ⟨g,0,none⟩), .pointer (some ⟨h,0,none⟩)],vecBad s e,40⟩]
def entR (s:PSchema) (e:PEntry):List (Bool×Int) := [(idBad e,1),(fromBad e,9),(toBad e,9),(bornBad e,9),(vecBad s e,40)]
theorem runE {s:PSchema} {e:PEntry} {vv av dv:Value} {g h:Nat} {w:World} (he:EntAt w g e vv av) (hs:SchAt w h s dv) (hl:e.vec.length≤1000000) (v:Value) (hv:Rules w v (rulesE s e g h)) :
  Calls Tryz.prog 87 #[v] w (RetI w (firstE (entR s e))):=by
 refine attrFirst v (rulesE s e g h) w hv (Nat.le_of_ble_eq_true rfl) ?_ ?_
 ·intro r hr
  simp only [rulesE,List.mem_cons,List.not_mem_nil,or_false] at hr
  rcases hr with rfl|rfl|rfl|rfl|rfl
  ·exact cE1
  ·exact cE2
  ·exact cE3
  ·exact cE4
  ·exact cE5
 ·intro r hr w' hb
  have he':=he.below hb
  have hs':=hs.below hb
  simp only [rulesE,List.mem_cons,List.not_mem_nil,or_false] at hr
  rcases hr with rfl|rfl|rfl|rfl|rfl
  ·exact entry1 g e vv av w' he'
  ·exact entry2 g e vv av w' he'
  ·exact entry3 g e vv av w' he'
  ·exact entry4 g e vv av w' he'
  ·exact entry5 g h e vv av s dv w' he' hs' hl
def entryA (s:PSchema) (e:PEntry):Int:=if firstE (entR s e)≠0 then firstE (entR s e) else fitsGo s.defs ByteArray.empty false e.attrs
set_option maxRecDepth 100000 in
set_option maxHeartbeats 1000000 in
theorem attrEntry (v u:Value) (s:PSchema) (x:PEntry) (w:World) (hv:SchemaV w v s) (hu:EntryV w u x) (hsm:SmallS s) (hl:x.vec.length≤1000000) (hl2:x.attrs.length≤1000000) :
  Calls Tryz.prog 34 #[v,u] w (RetI w (entryA s x)):=by
 obtain ⟨dv,rfl,hd⟩:=hv
 obtain ⟨vv,av,rfl,hi,hatt⟩:=hu
 have HS:=Lib.hid (SchAt.box w s dv 24 hd)
 have hw0:Below w.heap.size w (w.alloc (.cells #[.int .i64 s.dims, .int .i64 s.metric,dv] 24)):=below_alloc _ _
 have HE:=Lib.hid (EntAt.box _ x vv av 50 (hi.below hw0) (hatt.below hw0))
 have hw1:=below_two w (.cells #[.int .i64 s.dims, .int .i64 s.metric,dv] 24) (.cells #[.int .i64 x.id, .int .i64 x.ver, .int .i64 x.owner, .int .i64 x.filed, .int .i64 x.frm, .int .i64 x.to, .int .i64 x.born,vv,av] 50)
 have HS2:=Lib.hid (HS.out.below (below_alloc _ (.cells #[.int .i64 x.id, .int .i64 x.ver, .int .i64 x.owner, .int .i64 x.filed, .int .i64 x.frm, .int .i64 x.to, .int .i64 x.born,vv,av] 50)))
 have hsz:Hid ((w.alloc (.cells #[.int .i64 s.dims, .int .i64 s.metric,dv] 24)).heap.size=w.heap.size+1):=by simp [Hid]
 have hsz2:Hid (((w.alloc (.cells #[.int .i64 s.dims, .int .i64 s.metric,dv] 24)).alloc (.cells #[.int .i64 x.id, .int .i64 x.ver, .int .i64 x.owner, .int .i64 x.filed, .int .i64 x.frm, .int .i64 x.to, .int .i64 x.born,vv,av] 50)).heap.size=w.heap.size+1+1):=by simp [Hid]
 rw [hsz.out] at HE
 have HSM:=Lib.hid hsm
 clear HS hw0 hi hatt hd hsm hsz
 unfold entryVal
 go_enter Tryz.func34,Tryz.ntmps34
 go_wp2_with fail
 generalize (w.alloc (.cells #[.int .i64 s.dims, .int .i64 s.metric,dv] 24)).alloc (.cells #[.int .i64 x.id, .int .i64 x.ver, .int .i64 x.owner, .int .i64 x.filed, .int .i64 x.frm, .int .i64 x.to, .int .i64 x.born,vv,av] 50)=w0 at *
 refine (runE (HE.out.below (below_alloc _ _)) (HS2.out.below (below_alloc _ _)) (by omega) _ (Rules.mk (rulesE s x _ _) (Nat.le_of_ble_eq_true rfl) (hsz2.out.symm) rfl rfl)).mono ?_
 rintro e w1 ⟨rfl,hb⟩
 have hb1:=blift (below_alloc _ _) hb
 have hb2:=blift hw1 hb1
 have HE1:=Lib.hid (HE.out.below hb1)
 have HS1:=Lib.hid (HS2.out.below hb1)
 obtain ⟨-,-,-,-,-,-,-,-,c8,-,-⟩:=HE1.out
 obtain ⟨s0,s1,s2,-⟩:=HS1.out
 clear hb hb1 HE HS2 hsz2
 by_cases hz:firstE (entR s x)=0
 ·have F:=Lib.hid (show entryA s x=fitsGo s.defs ByteArray.empty false x.attrs by rw [entryA,if_neg (by simp [hz])])
  rw [hz]
  go_wp2_with fail
  refine (attrFits _ _ s x.attrs w1 ⟨_,rfl,HS1.out.2.2.2⟩ HE1.out.2.2.2.2.2.2.2.2.2.2 HSM.out (by omega)).mono ?_
  rintro e w2 ⟨rfl,hb3⟩
  go_wp2
  go_ret
  exact RetI.mk F.out.symm (blift hb2 hb3)
 ·have F:=Lib.hid (show entryA s x=firstE (entR s x) by rw [entryA,if_pos hz])
  have hz' : (firstE (entR s x) != 0)=true:=by simp [hz]
  generalize firstE (entR s x)=y at *
  clear hz
  go_wp2
  go_ret
  exact RetI.mk F.out.symm hb2
theorem plain_int (k:IntKind) (z:Int):plainV (.int k z)=true:=rfl
theorem pcClone (zs:List Int) (hl:zs.length≤1000000000):PCalls Tryz.prog 137 [pints zs] (· = pintsO zs):=
 pcalls1 (by kernel_rfl) fun Φ μ w v himm hr=>(slicesCloneI v zs w (ints_of_rep himm hr) hl).mono (by
  rintro e w' ⟨u,rfl,ho,hb⟩
  exact post_own himm (plain_int _) ho hb)
theorem pcRefInts (zs:List Int) (hf:Fit zs) (hl:zs.length≤1000000000):PCalls Tryz.prog 128 [pints zs] (· = pbytesO (intsB zs)):=
 pcalls1 (by kernel_rfl) fun Φ μ w v himm hr=>(refInts v zs w (ints_of_rep himm hr) hf hl).mono (by
  rintro e w' ⟨u,rfl,ho,hb⟩
  exact post_own himm (plain_int _) ho hb)
theorem pcRefStrings (zs:List ByteArray) (hf:SmallStrs zs) (hl:zs.length≤1000000):PCalls Tryz.prog 129 [pstrs zs] (· = pbytesO (strsB zs)):=
 pcalls1 (by kernel_rfl) fun Φ μ w v himm hr=>(refStrings v zs w (strs_of_rep himm hr) hf hl).mono (by
  rintro e w' ⟨u,rfl,ho,hb⟩
  exact post_own himm (plain_int _) ho hb)
theorem pcCheck (s:PSchema) (hs:SmallS s):PCalls Tryz.prog 54 [pschema s] (· = pint (checkE s)):=
 pcalls1 (by kernel_rfl) fun Φ μ w v himm hr=>(attrCheck v s w (schema_of_rep himm hr) hs).mono (by
  rintro e w' ⟨rfl,hb⟩
  exact post_flat himm (.val _ rfl) rfl rfl hb)
theorem pcRefCheck (s:PSchema) (hs:SmallS s):PCalls Tryz.prog 18 [pschema s] (· = pint (checkE s)):=
 pcalls1 (by kernel_rfl) fun Φ μ w v himm hr=>(refCheck v s w (schema_of_rep himm hr) hs).mono (by
  rintro e w' ⟨rfl,hb⟩
  exact post_flat himm (.val _ rfl) rfl rfl hb)
theorem pcEntry (s:PSchema) (x:PEntry) (hs:SmallS s) (hl:x.vec.length≤1000000) (hl2:x.attrs.length≤1000000):PCalls Tryz.prog 34 [pschema s,pentry x] (· = pint (entryA s x)):=
 pcalls2 (by kernel_rfl) fun Φ μ w v u himm hr hr2=>(attrEntry v u s x w (schema_of_rep himm hr) (entry_of_rep himm hr2) hs hl hl2).mono (by
  rintro e w' ⟨rfl,hb⟩
  exact post_flat himm (.val _ rfl) rfl rfl hb)
theorem pcGet (l:List PAttr) (nm:ByteArray) (hl:l.length≤1000000):PCalls Tryz.prog 37 [pattrs l,pstr nm] (· = .tup [.agg (pattrL (getA l nm).1),pbool (getA l nm).2]):=
 pcalls2 (by kernel_rfl) fun Φ μ w v u himm hr hr2=>by
  obtain ⟨rfl,-⟩:=hr2.val_inv
  exact (attrGet v l nm w (attrs_of_rep himm hr) hl).mono (by
   rintro e w' ⟨rfl,hb⟩
   exact post_flat himm (RepL.cons (RepL.cons (.val _ rfl) (RepL.cons (.val _ rfl) (RepL.cons (.val _ rfl) (RepL.cons (.val _ rfl) RepL.nil)))).agg (RepL.cons (.val _ rfl) RepL.nil)).tup rfl rfl hb)
theorem ba_beq (a b:ByteArray):(a == b)=true↔a=b:=by
 obtain ⟨a⟩:=a
 obtain ⟨b⟩:=b
 have:((⟨a⟩:ByteArray) == ⟨b⟩)=(a == b):=rfl
 rw [this,ByteArray.mk.injEq,beq_iff_eq]
def eqAttrB (a b:PAttr):Bool:=a.name == b.name && (a.kind == b.kind && (a.n == b.n && (a.s == b.s && true)))
theorem eqAttrB_iff (a b:PAttr):eqAttrB a b=true↔a=b:=by
 obtain ⟨n1,k1,x1,s1⟩:=a
 obtain ⟨n2,k2,x2,s2⟩:=b
 simp [eqAttrB,ba_beq]
instance:DecidableEq PAttr:=fun a b=>decidable_of_iff _ (eqAttrB_iff a b)
structure PBox where
 lo:List Int
 hi:List Int
 deriving DecidableEq,Inhabited
def pboxL (b:PBox):List PV := [pints b.lo,pints b.hi]
def pbox (b:PBox):PV:=.agg (pboxL b)
theorem low_pboxL (b:PBox):∀c∈pboxL b,Low c:=by
 intro c hc
 simp only [pboxL,List.mem_cons,List.not_mem_nil,or_false] at hc
 rcases hc with rfl|rfl<;>exact (low_pints _).2 trivial
theorem low_pbox (b:PBox):Low (pbox b)↔True:=⟨fun _=>trivial,fun _=>.agg _ (low_pboxL b)⟩
def farB (n:Int):Bool:=decide (n < -1000) || decide (1000 < n)
def vecB (v:List Int):Bool:=decide (1≤v.length) && (decide (v.length≤32) && !v.any farB)
set_option maxRecDepth 10000 in
theorem pw_far (n:Int):PCalls Tryz.prog 225 [pint n] (· = pbool (farB n)):=by
 refine pcalls_of_pw typeTab_ok Tryz.func225 rfl (by kernel_rfl) (by simp [low_pint]) (by simp [pint,PV.ownB]) (by rw [Tryz.ntmps225];simp) ?_
 rw [Tryz.ntmps225,Tryz.results225]
 unfold farB
 by_cases h1:n < -1000
 ·refine wk ?_
  refine retP rfl (by exact lw) ?_
  simp [pbool,h1]
 ·by_cases h2:1000 < n
  ·refine wk ?_
   refine retP rfl (by exact lw) ?_
   simp [pbool,h2]
  ·refine wk ?_
   refine retP rfl (by exact lw) ?_
   simp [pbool,h1,h2]
set_option maxRecDepth 10000 in
theorem pw_isVector (v:List Int) (hl:v.length≤1000000000000):PCalls Tryz.prog 136 [pints v] (· = pbool (vecB v)):=by
 have h:=pw_anyI 225 [] farB v rfl hl (by simp) (fun k _=>pw_far _)
 refine pcalls_of_pw typeTab_ok Tryz.func136 rfl (by kernel_rfl) (by simp [low_pints]) (by simp [pints,PV.ownB]) (by rw [Tryz.ntmps136];simp) ?_
 rw [Tryz.ntmps136,Tryz.results136]
 unfold vecB
 by_cases h1:1≤v.length
 ·by_cases h2:v.length≤32
  ·refine wk ?_
   cases hb:v.any farB <;>
   ·rw [hb] at *
    refine wk ?_
    refine retP rfl (by exact lw) ?_
    simp [pbool,h1,h2]
  ·refine wk ?_
   refine retP rfl (by exact lw) ?_
   simp [pbool,h2]
 ·refine wk ?_
  refine retP rfl (by exact lw) ?_
  simp [pbool,h1]
def prsL (a b:List Int):List (List PV):=(List.range (min a.length b.length)).map fun k => [pint (a.getD k default),pint (b.getD k default)]
theorem prsL_len (a b:List Int):(prsL a b).length=min a.length b.length:=by simp [prsL]
theorem prsL_take {a b:List Int} {k:Nat} (h:k < min a.length b.length):(prsL a b).take (k+1)=(prsL a b).take k ++ [[pint (a.getD k default),pint (b.getD k default)]]:=by
 rw [List.take_add_one]
 congr 1
 simp [prsL,h]
def Part (xs pre:List (List PV)):Prop:=∃k,pre=xs.take k
set_option maxRecDepth 10000 in
set_option maxHeartbeats 1000000 in
theorem it_pairs (a b:List Int) (ha:a.length≤1000000000000) (hb:b.length≤1000000000000):ItSpec Tryz.prog 231 [.ep [pints a] 0, .ep [pints b] 0] (Part (prsL a b)) (· = prsL a b):=by
 refine itspec_of_pwj typeTab_ok Tryz.func231 rfl (by kernel_rfl) (by simp [low_ep,low_pints]) (by simp [PV.ownB]) (by rw [Tryz.ntmps231];simp) ?_
 intro E Φ0 W l hgiv hy hr
 rw [Tryz.ntmps231,Tryz.results231]
 refine jw0 ?_
 refine PWJ.of_pw ?_
 refine wk ?_
 refine jw0 ?_
 simp only [Bool.false_eq_true,if_false]
 rw [show (if (b.length:Int) < a.length then (b.length:Int) else a.length)=((min a.length b.length:Nat):Int) from by split<;>omega]
 obtain ⟨m,hm⟩:∃m,m=min a.length b.length:=⟨_,rfl⟩
 rw [←hm]
 refine PWJ.loop (fun k:Nat=>(((((bot.put 0 (.val (.func (.yield l) #[] #[]))).put 1 (.ep [pints a] 0)).put 2 (.ep [pints b] 0)).put 9 (pint m)).put 10 (pint k))) (fun k=>some ((prsL a b).take k)) (fun k=>k≤m) (fun k=>m - k) 0 (by omega) ?_ rfl ?_
 ·exact sb
 ·intro k hk
  by_cases hlt:k < m
  ·refine jw0 ?_
   refine PWJ.of_pw ?_
   refine wk ?_
   refine jw0 ?_
   refine PWJ.of_pw ?_
   refine wk ?_
   refine jw0 ?_
   refine PWJ.drawN 9 (x := [pint (a.getD k default),pint (b.getD k default)]) (d:=22) typeTab_ok (by kernel_rfl) hgiv hy hr (by kernel_rfl) (by kernel_rfl) (by rfl) (by rfl) ?_
   refine wk ?_
   refine ⟨⟨rfl,by decide,⟨_,_,rfl,rfl,rfl,rfl⟩,rfl,by simp [low_pint],⟨k+1,(prsL_take (by omega)).symm⟩,fun id bs e=>(by cases e),fun id es c e=>(by cases e)⟩,fun b' => ?_⟩
   cases b' with
   |true=>
    refine wk ?_
    refine jw0 ?_
    refine PWJ.of_pw ?_
    refine wk ?_
    refine jw0 ?_
    refine loopJ (k+1) (by omega) (by omega) ?_ ?_
    ·exact sb
    ·simp only [if_true];rw [prsL_take (by omega)]
   |false=>
    refine wk ?_
    refine jw0 ?_
    exact ⟨⟨_,rfl⟩,fun xs e=>by simp at e⟩
  ·refine jw0 ?_
   refine PWJ.of_pw ?_
   refine wk ?_
   refine jw0 ?_
   exact ⟨⟨_,rfl⟩,fun xs e=>by simp at e;rw [←e];exact List.take_of_length_le (by rw [prsL_len];omega)⟩
theorem part_x {a b:List Int} {pre:List (List PV)} {x:List PV} (h:Part (prsL a b) (pre ++ [x])):∃k,k < min a.length b.length∧x = [pint (a.getD k default),pint (b.getD k default)]∧pre=(prsL a b).take k:=by
 obtain ⟨k,hk⟩:=h
 have hl:pre.length+1=min k (prsL a b).length:=by
  have:=congrArg List.length hk
  simpa using this
 obtain ⟨j,rfl⟩:∃j,j=pre.length:=⟨_,rfl⟩
 have hj:pre.length < min a.length b.length:=by rw [prsL_len] at hl;omega
 refine ⟨pre.length,hj,?_,?_⟩
 ·have h1:(pre ++ [x])[pre.length]? = some x:=by simp
  rw [hk,List.getElem?_take,if_pos (by omega)] at h1
  simp only [prsL,List.getElem?_map,List.getElem?_range hj,Option.map_some,Option.some.injEq] at h1
  exact h1.symm
 ·have h1:pre=(pre ++ [x]).take pre.length:=by simp
  rw [hk,List.take_take] at h1
  rw [h1]
  congr 1
  simp;omega
set_option maxRecDepth 10000 in
theorem pw_pairs (a b:List Int):PCalls Tryz.prog 146 [pints a,pints b] (· = .fn 231 [.ep [pints a] 0, .ep [pints b] 0]):=by
 refine pcalls_of_pw typeTab_ok Tryz.func146 rfl (by kernel_rfl) (by simp [low_pints]) (by simp [pints,PV.ownB]) (by rw [Tryz.ntmps146];simp) ?_
 rw [Tryz.ntmps146,Tryz.results146]
 refine PW.seq ?_
 refine PW.region typeTab_ok (by kernel_rfl) ?_
 refine wg ?_
 refine PW.freezeP (id:=0) (s:=2) (off:=0) (σ':=(bot.setb 1 [pints b]).put 3 (.ptr 1 0)) rfl rfl (fun c hc=>by simp only [List.mem_cons,List.not_mem_nil,or_false] at hc;subst hc;exact (low_pints _).2 trivial) (by exact sbr0) rfl ?_
 refine PW.freezeP (id:=1) (s:=3) (off:=0) (σ':=bot.put 2 (.ep [pints a] 0)) rfl rfl (fun c hc=>by simp only [List.mem_cons,List.not_mem_nil,or_false] at hc;subst hc;exact (low_pints _).2 trivial) (by exact sbr0) rfl ?_
 refine wk ?_
 exact retP rfl (by simp [low_fn,low_ep,low_pints]) rfl
def boxB (b:PBox):Bool:=vecB b.lo && (vecB b.hi && (decide (b.lo.length=b.hi.length) && (List.range b.lo.length).all fun k=>decide (b.lo.getD k default≤b.hi.getD k default)))
set_option maxRecDepth 10000 in
set_option maxHeartbeats 1000000 in
theorem pw_boxValid (b:PBox) (h1:b.lo.length≤1000000000000) (h2:b.hi.length≤1000000000000):PCalls Tryz.prog 65 [pbox b] (· = pbool (boxB b)):=by
 have hv1:=pw_isVector b.lo h1
 have hv2:=pw_isVector b.hi h2
 have hp:=pw_pairs b.lo b.hi
 have hl1:=low_pboxL b
 refine pcalls_of_pw typeTab_ok Tryz.func65 rfl (by kernel_rfl) (by simp [low_pbox]) (by simp [pbox,PV.ownB]) (by rw [Tryz.ntmps65];simp) ?_
 rw [Tryz.ntmps65,Tryz.results65]
 unfold boxB pbox pboxL at *
 by_cases e1:vecB b.lo=true
 ·by_cases e2:vecB b.hi=true
  ·by_cases e3:b.lo.length=b.hi.length
   ·rw [e1] at hv1
    rw [e2] at hv2
    refine wk ?_
    refine PW.rangeFunc (A:=Part (prsL b.lo b.hi)) (S:=(· = prsL b.lo b.hi)) 3000000 [3000001] (fun _=>(bot.setb 3000001 [pbool false]).put 2 (.ptr 3000001 0)) (fun pre=>∀x∈pre,∃u v:Int,x = [pint u,pint v]∧u≤v) (by simp) rfl rfl (by simp [low_ep,low_pints]) (it_pairs _ _ h1 h2) (by exact sbr0) (fun pre=>by exact kn0) (by intro pre i hi;simp only [List.mem_cons,List.not_mem_nil,or_false] at hi;rcases hi with rfl|rfl|rfl|rfl|rfl<;>rfl) rfl (by decide) (fun pre=>by exact ow0) (by simp) ?_ ?_ ?_
    ·intro pre x hx
     obtain ⟨k,-,rfl,-⟩:=part_x hx
     refine ⟨rfl,fun p hp=>?_⟩
     simp only [List.mem_cons,List.not_mem_nil,or_false] at hp
     rcases hp with rfl|rfl<;>exact ⟨.val _,rfl⟩
    ·intro pre x hI hx
     obtain ⟨k,hk,rfl,-⟩:=part_x hx
     simp only [putps]
     refine wk ?_
     refine normP ?_
     by_cases hle:b.lo.getD k default≤b.hi.getD k default
     ·refine wk ?_
      refine roundP ?_ (by exact sb) (by exact lt0)
      intro y hy
      rcases List.mem_append.1 hy with hy|hy
      ·exact hI y hy
      ·simp only [List.mem_cons,List.not_mem_nil,or_false] at hy
       exact ⟨_,_,hy,hle⟩
     ·refine wk ?_
      refine roundP_ret ((bot.setb 3000001 [pbool false]).put 2 (.ptr 3000001 0)) ((bot.setb 1 [pbool false]).put 2 (.ptr 1 0)) (by exact lt0) (by exact sb) (by exact kn0) (by exact sbr0) ?_
      refine blockP_ret (thenP_ret (retP rfl (by exact lw) ?_))
      have:((List.range b.lo.length).all fun k=>decide (b.lo.getD k default≤b.hi.getD k default))=false:=by
       rw [List.all_eq_false]
       exact ⟨k,by simp;omega,by simpa using hle⟩
      rw [this,e1,e2]
      simp [pbool]
    ·intro xs hxs hI
     subst hxs
     refine ⟨(bot.setb 1 [pbool false]).put 2 (.ptr 1 0),by exact sbr0,?_⟩
     refine wk ?_
     refine retP rfl (by exact lw) ?_
     have:((List.range b.lo.length).all fun k=>decide (b.lo.getD k default≤b.hi.getD k default))=true:=by
      rw [List.all_eq_true]
      intro k hk
      have hk' : k < b.lo.length:=by simpa using hk
      obtain ⟨u,v,h1,h2⟩:=hI [pint (b.lo.getD k default),pint (b.hi.getD k default)] (List.mem_map.2 ⟨k,by simp;omega,rfl⟩)
      simp only [List.cons.injEq,pint,PV.val.injEq,Value.int.injEq,true_and,and_true] at h1
      rw [decide_eq_true_eq,h1.1,h1.2]
      exact h2
     rw [this,e1,e2]
     simp [pbool,e3]
   ·rw [e1] at hv1
    rw [e2] at hv2
    refine wk ?_
    refine retP rfl (by exact lw) ?_
    simp [pbool,e3]
  ·simp only [Bool.not_eq_true] at e2
   rw [e1] at hv1
   rw [e2] at hv2
   refine wk ?_
   refine retP rfl (by exact lw) ?_
   simp [pbool,e2]
 ·simp only [Bool.not_eq_true] at e1
  rw [e1] at hv1
  refine wk ?_
  refine retP rfl (by exact lw) ?_
  simp [pbool,e1]
def inB (x:Int):Bool:=decide (-1000≤x) && decide (x≤1000)
set_option maxRecDepth 10000 in
theorem pw_valid1 (s:Bool) (x:Int):PCalls Tryz.prog 100 [pbool s,pint x] (· = pbool (s && inB x)):=by
 refine pcalls_of_pw typeTab_ok Tryz.func100 rfl (by kernel_rfl) (by simp [low_pint,low_pbool]) (by simp [pint,pbool,PV.ownB]) (by rw [Tryz.ntmps100];simp) ?_
 rw [Tryz.ntmps100,Tryz.results100]
 cases s
 ·refine wk ?_
  exact retP rfl (by exact lw) rfl
 ·by_cases h1 : -1000≤x
  ·by_cases h2:x≤1000
   ·refine wk ?_
    exact retP rfl (by exact lw) (by simp [pbool,inB,h1,h2])
   ·refine wk ?_
    exact retP rfl (by exact lw) (by simp [pbool,inB,h2])
  ·refine wk ?_
   exact retP rfl (by exact lw) (by simp [pbool,inB,h1])
theorem foldl_take {α β:Type} [Inhabited β] (g:α→β→α) (n:α) (v:List β) {k:Nat} (h:k < v.length):(v.take (k+1)).foldl g n=g ((v.take k).foldl g n) (v.getD k default):=by
 rw [List.take_add_one,List.getElem?_eq_getElem h,List.foldl_append,List.getD_eq_getElem?_getD,List.getElem?_eq_getElem h]
 rfl
set_option maxRecDepth 10000 in
set_option maxHeartbeats 1000000 in
theorem pw_foldB (f:Nat) (g:Bool→Int→Bool) (v:List Int) (n:Bool) (hf:Nat.blt f 1000000=true) (hl:v.length≤1000000) (hp:∀k,k < v.length→PCalls Tryz.prog f [pbool ((v.take k).foldl g n),pint (v.getD k default)] (· = pbool (g ((v.take k).foldl g n) (v.getD k default)))):PCalls Tryz.prog 99 [pints v,pbool n, .fn f []] (· = pbool (v.foldl g n)):=by
 have hlow1:Low (.fn f []):=.fn f [] (by simp)
 refine pcalls_of_pw typeTab_ok Tryz.func99 rfl (by kernel_rfl) (by simp [low_pints,low_pbool,hlow1]) (by simp [pints,pbool,PV.ownB]) (by rw [Tryz.ntmps99];simp) ?_
 rw [Tryz.ntmps99,Tryz.results99]
 refine wk ?_
 refine PW.loop (fun k:Nat=>(((((bot.put 1 (pbool ((v.take k).foldl g n))).put 2 (.fn f [])).put 9 (pints v)).put 10 (pint v.length)).put 11 (pint k))) (fun k=>k≤v.length) (fun k=>v.length - k) 0 (by omega) ?_ ?_
 ·exact sb
 ·intro k hk
  by_cases hlt:k < v.length
  ·refine wk ?_
   refine PWops.callV hf (hp k hlt) rfl rfl rfl rfl rfl rfl ?_
   refine wk ?_
   refine loopP (k+1) (by omega) (by omega) ?_
   simp only [foldl_take g n v hlt]
   exact sb
  ·refine wk ?_
   refine retP rfl (by exact lw) ?_
   rw [List.take_of_length_le (by omega)];rfl
set_option maxRecDepth 10000 in
set_option maxHeartbeats 1000000 in
theorem pw_foldI (f:Nat) (g:Int→Int→Int) (v:List Int) (n:Int) (hf:Nat.blt f 1000000=true) (hl:v.length≤1000000) (hp:∀k,k < v.length→PCalls Tryz.prog f [pint ((v.take k).foldl g n),pint (v.getD k default)] (· = pint (g ((v.take k).foldl g n) (v.getD k default)))):PCalls Tryz.prog 190 [pints v,pint n, .fn f []] (· = pint (v.foldl g n)):=by
 have hlow1:Low (.fn f []):=.fn f [] (by simp)
 refine pcalls_of_pw typeTab_ok Tryz.func190 rfl (by kernel_rfl) (by simp [low_pints,low_pint,hlow1]) (by simp [pints,pint,PV.ownB]) (by rw [Tryz.ntmps190];simp) ?_
 rw [Tryz.ntmps190,Tryz.results190]
 refine wk ?_
 refine PW.loop (fun k:Nat=>(((((bot.put 1 (pint ((v.take k).foldl g n))).put 2 (.fn f [])).put 9 (pints v)).put 10 (pint v.length)).put 11 (pint k))) (fun k=>k≤v.length) (fun k=>v.length - k) 0 (by omega) ?_ ?_
 ·exact sb
 ·intro k hk
  by_cases hlt:k < v.length
  ·refine wk ?_
   refine PWops.callV hf (hp k hlt) rfl rfl rfl rfl rfl rfl ?_
   refine wk ?_
   refine loopP (k+1) (by omega) (by omega) ?_
   simp only [foldl_take g n v hlt]
   exact sb
  ·refine wk ?_
   refine retP rfl (by exact lw) ?_
   rw [List.take_of_length_le (by omega)];rfl
theorem vecB_fold (v:List Int):(v.foldl (fun s x=>s && inB x) true) = !v.any farB:=by
 have:∀(v:List Int) (s:Bool),v.foldl (fun s x=>s && inB x) s=(s && !v.any farB):=by
  intro v
  induction v with
  |nil=>intro s;simp
  |cons x v ih=>
   intro s
   rw [List.foldl_cons,ih,List.any_cons]
   have:inB x = !farB x:=by
    simp only [inB,farB,Bool.not_or]
    congr 1<;>rw [←decide_not]<;>congr 1<;>simp
   rw [this]
   cases s<;>cases farB x<;>simp
 simpa using this v true
set_option maxRecDepth 10000 in
theorem pw_vecValid (v:List Int) (hl:v.length≤1000000):PCalls Tryz.prog 38 [pints v] (· = pbool (vecB v)):=by
 have h:=pw_foldB 100 (fun s x=>s && inB x) v true rfl hl (fun k _=>pw_valid1 _ _)
 rw [vecB_fold] at h
 refine pcalls_of_pw typeTab_ok Tryz.func38 rfl (by kernel_rfl) (by simp [low_pints]) (by simp [pints,PV.ownB]) (by rw [Tryz.ntmps38];simp) ?_
 rw [Tryz.ntmps38,Tryz.results38]
 unfold vecB
 cases hb:v.any farB with
 |true=>
  rw [hb] at h
  refine wk ?_
  exact retP rfl (by exact lw) (by simp [pbool])
 |false=>
  rw [hb] at h
  by_cases h1:1≤v.length
  ·by_cases h2:v.length≤32
   ·refine wk ?_
    exact retP rfl (by exact lw) (by simp [pbool,h1,h2])
   ·refine wk ?_
    exact retP rfl (by exact lw) (by simp [pbool,h2])
  ·refine wk ?_
   exact retP rfl (by exact lw) (by simp [pbool,h1])
def mesL (g:Int→Int→Int→Int) (b:PBox) (v:List Int):List (List PV):=(List.range v.length).map fun k => [pint (g (b.lo.getD k default) (b.hi.getD k default) (v.getD k default))]
theorem mesL_len (g:Int→Int→Int→Int) (b:PBox) (v:List Int):(mesL g b v).length=v.length:=by simp [mesL]
theorem mesL_take {g:Int→Int→Int→Int} {b:PBox} {v:List Int} {k:Nat} (h:k < v.length):(mesL g b v).take (k+1)=(mesL g b v).take k ++ [[pint (g (b.lo.getD k default) (b.hi.getD k default) (v.getD k default))]]:=by
 rw [List.take_add_one]
 congr 1
 simp [mesL,h]
set_option maxRecDepth 10000 in
set_option maxHeartbeats 1000000 in
theorem it_measure (f:Nat) (g:Int→Int→Int→Int) (b:PBox) (v:List Int) (hf:Nat.blt f 1000000=true) (h1:v.length≤1000000) (h2:v.length≤b.lo.length) (h3:v.length≤b.hi.length) (h4:b.lo.length≤1000000000000) (h5:b.hi.length≤1000000000000) (hg:∀k,k < v.length→PCalls Tryz.prog f [pint (b.lo.getD k default),pint (b.hi.getD k default),pint (v.getD k default)] (· = pint (g (b.lo.getD k default) (b.hi.getD k default) (v.getD k default)))) :
  ItSpec Tryz.prog 233 [.ep [pints v] 0, .ep [.fn f []] 0, .ep [pints b.lo,pints b.hi] 0] (Part (mesL g b v)) (· = mesL g b v):=by
 have hlow1:Low (.ep [.fn f []] 0):=.ep _ _ (by intro c hc;simp only [List.mem_cons,List.not_mem_nil,or_false] at hc;subst hc;exact .fn f [] (by simp))
 have hlow2:Low (.ep [pints b.lo,pints b.hi] 0):=.ep _ _ (low_pboxL b)
 refine itspec_of_pwj typeTab_ok Tryz.func233 rfl (by kernel_rfl) (by simp [low_ep,low_pints,low_fn]) (by simp [PV.ownB]) (by rw [Tryz.ntmps233];simp) ?_
 intro E Φ0 W l hgiv hy hr
 rw [Tryz.ntmps233,Tryz.results233]
 refine jw0 ?_
 refine PWJ.of_pw ?_
 refine wk ?_
 refine jw0 ?_
 refine PWJ.loop (fun k:Nat=>(((((((bot.put 0 (.val (.func (.yield l) #[] #[]))).put 1 (.ep [pints v] 0)).put 2 (.ep [.fn f []] 0)).put 3 (.ep [pints b.lo,pints b.hi] 0)).put 7 (pints v)).put 8 (pint v.length)).put 9 (pint k))) (fun k=>some ((mesL g b v).take k)) (fun k=>k≤v.length) (fun k=>v.length - k) 0 (by omega) ?_ rfl ?_
 ·exact sb
 ·intro k hk
  by_cases hlt:k < v.length
  ·refine jw0 ?_
   refine PWJ.of_pw ?_
   refine wk ?_
   refine jw0 ?_
   refine PWJ.of_pw ?_
   refine wk ?_
   refine jw0 ?_
   refine PWJ.drawN 14 (x := [pint (g (b.lo.getD k default) (b.hi.getD k default) (v.getD k default))]) (d:=28) typeTab_ok (by kernel_rfl) hgiv hy hr (by kernel_rfl) (by kernel_rfl) (by rfl) (by rfl) ?_
   refine wk ?_
   refine PWops.callV hf (hg k hlt) rfl rfl rfl rfl rfl rfl ?_
   refine wk ?_
   refine ⟨⟨rfl,by decide,⟨_,_,rfl,rfl,rfl,rfl⟩,rfl,by simp [low_pint],⟨k+1,(mesL_take hlt).symm⟩,fun id bs e=>(by cases e),fun id es c e=>(by cases e)⟩,fun b' => ?_⟩
   cases b' with
   |true=>
    refine wk ?_
    refine jw0 ?_
    refine PWJ.of_pw ?_
    refine wk ?_
    refine jw0 ?_
    refine loopJ (k+1) (by omega) (by omega) ?_ ?_
    ·exact sb
    ·simp only [if_true];rw [mesL_take hlt]
   |false=>
    refine wk ?_
    refine jw0 ?_
    exact ⟨⟨_,rfl⟩,fun xs e=>by simp at e⟩
  ·refine jw0 ?_
   refine PWJ.of_pw ?_
   refine wk ?_
   refine jw0 ?_
   exact ⟨⟨_,rfl⟩,fun xs e=>by simp at e;rw [←e];exact List.take_of_length_le (by rw [mesL_len];omega)⟩
def addM (m n d:Int):Int:=if m=1 then n+d else if m=2 then n+d * d else max n d
def keyD (m:Int) (l:List Int):Int:=l.foldl (addM m) 0
def keyB (m:Int):Bool:=decide (1≤m) && decide (m≤3)
end
section
open Go Go.RowKit
theorem bl_irrefl:∀a:List UInt8,Op.bytesLess a a=false
 | []=>rfl
 |a :: x=>by simp [Op.bytesLess,bl_irrefl x]
theorem bl_trans:∀a b c:List UInt8,Op.bytesLess a b=true→Op.bytesLess b c=true→Op.bytesLess a c=true
 |_,[],c,h,_=>by cases ‹List UInt8› <;> simp [Op.bytesLess] at h
 |_,b :: y,[],_,h=>by simp [Op.bytesLess] at h
 | [],b :: y,c :: z,_,_=>by simp [Op.bytesLess]
 |a :: x,b :: y,c :: z,h,k=>by
  simp only [Op.bytesLess,Bool.or_eq_true,Bool.and_eq_true,decide_eq_true_eq,beq_iff_eq] at h k ⊢
  rcases h with h|⟨rfl,h⟩
  ·rcases k with k|⟨rfl,k⟩
   ·exact .inl (UInt8.lt_trans h k)
   ·exact .inl h
  ·rcases k with k|⟨rfl,k⟩
   ·exact .inl k
   ·exact .inr ⟨rfl,bl_trans x y z h k⟩
theorem bl_total:∀a b:List UInt8,Op.bytesLess a b=false→a≠b→Op.bytesLess b a=true
 | [],[],_,h=>absurd rfl h
 | [],b :: y,h,_=>by simp [Op.bytesLess] at h
 |a :: x,[],_,_=>by simp [Op.bytesLess]
 |a :: x,b :: y,h,hne=>by
  simp only [Op.bytesLess,Bool.or_eq_false_iff,decide_eq_false_iff_not,Bool.and_eq_false_iff,Bool.or_eq_true,Bool.and_eq_true,decide_eq_true_eq,beq_iff_eq] at h ⊢
  by_cases e:a=b
  ·subst e
   refine .inr ⟨rfl,bl_total x y ?_ (fun e=>hne (e ▸ rfl))⟩
   rcases h.2 with h2|h2
   ·simp at h2
   ·exact h2
  ·left
   have:=h.1
   have h3:¬a.toNat=b.toNat:=fun h=>e (UInt8.toNat_inj.1 h)
   rw [UInt8.lt_iff_toNat_lt] at this ⊢
   omega
def ltB (a b:ByteArray):Prop:=Op.bytesLess a.toList b.toList=true
theorem ltB_trans {a b c:ByteArray} (h:ltB a b) (k:ltB b c):ltB a c:=bl_trans _ _ _ h k
theorem ltB_ne {a b:ByteArray} (h:ltB a b):eqB a b=false:=by
 cases e:eqB a b with
 |false=>rfl
 |true=>
  simp only [eqB,beq_iff_eq] at e
  unfold ltB at h
  rw [e,bl_irrefl] at h;cases h
theorem eqB_self (a:ByteArray):eqB a a=true:=by simp [eqB]
theorem leqB_false {x p:ByteArray} : leqB x p=false↔ltB p x:=by
 unfold leqB ltB
 rw [Bool.or_eq_false_iff]
 constructor
 ·rintro ⟨h1,h2⟩
  exact bl_total _ _ h1 (by simpa using h2)
 ·intro h
  refine ⟨?_,?_⟩
  ·cases e:Op.bytesLess x.toList p.toList with
   |false=>rfl
   |true=>have:=bl_trans _ _ _ h e;rw [bl_irrefl] at this;cases this
  ·have:=ltB_ne h
   rw [eqB_comm] at this;exact this
structure DefsOk (b:ByteArray) (ds:List PDef):Prop where
 one:∀d∈ds,nameB d.name=true∧(d.kind=1∨d.kind=2)∧ltB b d.name
 rise:ds.Pairwise fun d e=>ltB d.name e.name
theorem defE_ok {d:PDef} {b:ByteArray} (h:defE d b=0):nameB d.name=true∧(d.kind=1∨d.kind=2)∧ltB b d.name:=by
 unfold defE at h
 split at h
 ·simp at h
 ·rename_i h1
  split at h
  ·simp at h
  ·rename_i h2
   refine ⟨by simpa using h1,?_,leqB_false.1 (by simpa using h2)⟩
   split at h
   ·left;assumption
   ·split at h
    ·right;assumption
    ·simp at h
theorem defsE_ok:∀(ds:List PDef) (b:ByteArray),defsE b ds=0→DefsOk b ds
 | [],b,_=>⟨by simp, .nil⟩
 |d :: r,b,h=>by
  rw [defsE] at h
  split at h
  ·rename_i h1;exact absurd h h1
  ·rename_i h1
   obtain ⟨k1,k2,k3⟩:=defE_ok (by simpa using h1)
   have ih:=defsE_ok r d.name h
   refine ⟨fun e he=>?_,?_⟩
   ·rcases List.mem_cons.1 he with rfl|he
    ·exact ⟨k1,k2,k3⟩
    ·obtain ⟨i1,i2,i3⟩:=ih.one e he
     exact ⟨i1,i2,ltB_trans k3 i3⟩
   ·rw [List.pairwise_cons]
    exact ⟨fun e he=>(ih.one e he).2.2,ih.rise⟩
theorem checkE_ok {s:PSchema} (h:checkE s=0):DefsOk ByteArray.empty s.defs:=by
 unfold checkE at h
 split at h
 ·simp at h
 ·split at h
  ·simp at h
  ·exact defsE_ok _ _ h
theorem findI_get {ds:List PDef} {nm:ByteArray} (h:0≤findI ds nm):∃d,ds[(findI ds nm).toNat]? = some d:=by
 have:=idxB_lt (ds.map fun (d:PDef)=>eqB d.name nm) (by unfold findI at h;exact h)
 rw [List.length_map] at this
 have hlt:(findI ds nm).toNat < ds.length:=by unfold findI at h ⊢; omega
 exact ⟨_,List.getElem?_eq_getElem hlt⟩
theorem idxGo_true:∀(l:List Bool) (k:Int),idxGo l k ≠ -1→0≤k→l[(idxGo l k - k).toNat]? = some true
 | [],k,h,_=>by simp [idxGo] at h
 |b :: r,k,h,hk=>by
  rw [idxGo] at h ⊢
  cases b with
  |true=>simp
  |false=>
   simp only [Bool.false_eq_true,if_false] at h ⊢
   have ih:=idxGo_true r (k+1) h (by omega)
   have hb:=idxGo_bd r (k+1) (by omega)
   rcases hb with ⟨e,-⟩|⟨e,-,-⟩
   ·exact absurd e h
   ·rw [show (idxGo r (k+1) - k).toNat=(idxGo r (k+1) - (k+1)).toNat+1 by omega,List.getElem?_cons_succ]
    exact ih
theorem findI_name {ds:List PDef} {nm:ByteArray} (h:0≤findI ds nm) {d:PDef} (hd:ds[(findI ds nm).toNat]? = some d):eqB d.name nm=true:=by
 have:=idxGo_true (ds.map fun d=>eqB d.name nm) 0 (by unfold findI idxB at h;omega) (by omega)
 rw [Int.sub_zero] at this
 unfold findI idxB at hd
 rw [List.getElem?_map,hd] at this
 simpa using this
def one (ds:List PDef) (a:PAttr):Prop:=0≤findI ds a.name∧(match ds[(findI ds a.name).toNat]? with|some d=>valueE d a|none=>0)=0
theorem fits_first {b:ByteArray} {ds:List PDef} (hd:DefsOk b ds) (hb:b=ByteArray.empty) (l:List PAttr):fitsGo ds b false l=fitsGo ds b true l:=by
 cases l with
 |nil=>rfl
 |cons a r=>
  have:fitE ds b false a=fitE ds b true a:=by
   unfold fitE
   by_cases h1:findI ds a.name < 0
   ·rw [if_pos h1,if_pos h1]
   ·rw [if_neg h1,if_neg h1]
    obtain ⟨d,hd'⟩:=findI_get (show 0≤findI ds a.name by omega)
    have hn:=findI_name (by omega) hd'
    have hm:=(hd.one d (mem_of_get' hd')).2.2
    have e:d.name.toList=a.name.toList:=by simpa [eqB] using hn
    have:leqB a.name b=false:=leqB_false.2 (by unfold ltB at hm ⊢; rw [←e];exact hm)
    simp [this]
  rw [fitsGo,fitsGo,this]
where
 mem_of_get' {α:Type} {l:List α} {j:Nat} {c:α} (h:l[j]? = some c):c∈l:=List.mem_of_getElem? h
theorem entryA_E {s:PSchema} (h:checkE s=0) (e:PEntry):entryA s e=entryE s e:=by
 have hf:fitsGo s.defs ByteArray.empty false e.attrs=fitsE s e.attrs:=fits_first (checkE_ok h) rfl _
 have h1:idBad e=decide (e.id < 1∨1073741824 < e.id∨e.owner < 1∨1073741824 < e.owner∨e.ver < 1∨1073741824 < e.ver):=by
  simp only [idBad,Bool.decide_or]
 have h2:(fromBad e || (toBad e || bornBad e))=decide (e.filed < 0∨e.frm < e.filed∨e.to≤e.frm∨1048577 < e.to∨1048576 < e.frm∨e.born < 1∨1073741824 < e.born):=by
  rw [Bool.eq_iff_iff]
  simp only [fromBad,toBad,bornBad,Bool.or_eq_true,decide_eq_true_eq]
  constructor<;>intro h<;>omega
 have h3:vecBad s e=decide (validV e.vec=false∨(e.vec.length:Int)≠s.dims):=by
  rw [Bool.eq_iff_iff]
  simp only [vecBad,Bool.or_eq_true,bne_iff_ne,Bool.not_eq_true',decide_eq_true_eq]
  exact ⟨fun h=>h.symm,fun h=>h.symm⟩
 unfold entryA entR entryE
 rw [hf]
 simp only [firstE,h1,h3]
 by_cases g1:e.id < 1∨1073741824 < e.id∨e.owner < 1∨1073741824 < e.owner∨e.ver < 1∨1073741824 < e.ver
 ·simp [g1]
 ·rw [if_neg g1]
  simp only [g1,decide_false,Bool.false_eq_true,if_false]
  by_cases g2:e.filed < 0∨e.frm < e.filed∨e.to≤e.frm∨1048577 < e.to∨1048576 < e.frm∨e.born < 1∨1073741824 < e.born
  ·rw [if_pos g2]
   rw [decide_eq_true g2] at h2
   simp only [Bool.or_eq_true] at h2
   cases ha:fromBad e<;>cases hb:toBad e<;>cases hc:bornBad e<;>simp_all
  ·rw [if_neg g2]
   rw [decide_eq_false g2] at h2
   simp only [Bool.or_eq_false_iff] at h2
   simp only [h2.1,h2.2.1,h2.2.2,Bool.false_eq_true,if_false]
   by_cases g3:validV e.vec=false∨(e.vec.length:Int)≠s.dims
   ·simp [g3]
   ·simp [g3]
end
end Go.Proofs.YtoamkpgaaanafaaGreat
