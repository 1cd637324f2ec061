/- Merged: PlainV, Pa, Pb, Pf, Iter, Pc, PwX2, PwIt, PwIt2. -/
import Derived.Shelf.SlIter.Nil
import Derived.Shelf.SortM.Plain
import Derived.Shelf.SortM.SortNone
import Derived.Ground.GgzProg
import Derived.Ground.SlgmProg
import Derived.Test.YtoamkpgaaanafaaGreatProg
import Derived.RangeFuncCalls
import Derived.Test.YtoamkpgaaanafaaGreatS8
import Derived.Test.YtoamkpgaaanafaaGreatS10
import Derived.Test.YtoamkpgaaanafaaGreatS11
import Derived.Test.YtoamkpgaaanafaaGreatS12
import Derived.Test.YtoamkpgaaanafaaGreatS14
import Derived.Test.YtoamkpgaaanafaaGreatS15
/- Plain: an entry, decoded. -/
namespace Go.Proofs.YtoamkpgaaanafaaGreat
set_option linter.unusedSimpArgs false
set_option linter.unusedVariables false
set_option linter.unnecessarySimpa false
end Go.Proofs.YtoamkpgaaanafaaGreat

/- Contracts over pure values: wire, slices, attr and the specification. -/
namespace Go.Proofs.YtoamkpgaaanafaaGreat
set_option linter.unusedSimpArgs false
set_option linter.unusedVariables false
set_option linter.unnecessarySimpa false
open Go.RowKit
theorem plain_int (k:IntKind) (z:Int):plainV (.int k z)=true:=rfl
theorem pcClone (zs:List Int) (hl:zs.length≤1000000000):PCalls Tryz.prog 137 [pints zs] (· = pintsO zs):=
 pcalls1 (by kernel_rfl) fun Φ μ w v himm hr=>(slicesCloneI v zs w (ints_of_rep himm hr) hl).mono (by
  rintro e w' ⟨u,rfl,ho,hb⟩
  exact post_own himm (plain_int _) ho hb)
theorem pcRefInts (zs:List Int) (hf:Fit zs) (hl:zs.length≤1000000000):PCalls Tryz.prog 128 [pints zs] (· = pbytesO (intsB zs)):=
 pcalls1 (by kernel_rfl) fun Φ μ w v himm hr=>(refInts v zs w (ints_of_rep himm hr) hf hl).mono (by
  rintro e w' ⟨u,rfl,ho,hb⟩
  exact post_own himm (plain_int _) ho hb)
theorem pcRefStrings (zs:List ByteArray) (hf:SmallStrs zs) (hl:zs.length≤1000000):PCalls Tryz.prog 129 [pstrs zs] (· = pbytesO (strsB zs)):=
 pcalls1 (by kernel_rfl) fun Φ μ w v himm hr=>(refStrings v zs w (strs_of_rep himm hr) hf hl).mono (by
  rintro e w' ⟨u,rfl,ho,hb⟩
  exact post_own himm (plain_int _) ho hb)
theorem pcCheck (s:PSchema) (hs:SmallS s):PCalls Tryz.prog 54 [pschema s] (· = pint (checkE s)):=
 pcalls1 (by kernel_rfl) fun Φ μ w v himm hr=>(attrCheck v s w (schema_of_rep himm hr) hs).mono (by
  rintro e w' ⟨rfl,hb⟩
  exact post_flat himm (.val _ rfl) rfl rfl hb)
theorem pcRefCheck (s:PSchema) (hs:SmallS s):PCalls Tryz.prog 18 [pschema s] (· = pint (checkE s)):=
 pcalls1 (by kernel_rfl) fun Φ μ w v himm hr=>(refCheck v s w (schema_of_rep himm hr) hs).mono (by
  rintro e w' ⟨rfl,hb⟩
  exact post_flat himm (.val _ rfl) rfl rfl hb)
theorem pcEntry (s:PSchema) (x:PEntry) (hs:SmallS s) (hl:x.vec.length≤1000000) (hl2:x.attrs.length≤1000000):PCalls Tryz.prog 34 [pschema s,pentry x] (· = pint (entryA s x)):=
 pcalls2 (by kernel_rfl) fun Φ μ w v u himm hr hr2=>(attrEntry v u s x w (schema_of_rep himm hr) (entry_of_rep himm hr2) hs hl hl2).mono (by
  rintro e w' ⟨rfl,hb⟩
  exact post_flat himm (.val _ rfl) rfl rfl hb)
theorem pcRefEntry (s:PSchema) (x:PEntry) (hs:SmallS s) (hl:x.vec.length≤1000000) (hl2:x.attrs.length≤1000000):PCalls Tryz.prog 40 [pschema s,pentry x] (· = pint (entryE s x)):=
 pcalls2 (by kernel_rfl) fun Φ μ w v u himm hr hr2=>(refEntry v u s x w (schema_of_rep himm hr) (entry_of_rep himm hr2) hs hl hl2).mono (by
  rintro e w' ⟨rfl,hb⟩
  exact post_flat himm (.val _ rfl) rfl rfl hb)
theorem pcRefHas (l:List ByteArray) (s:ByteArray) (hl:l.length≤1000000000):PCalls Tryz.prog 86 [pstrs l,pstr s] (· = pbool (hasB l s)):=
 pcalls2 (by kernel_rfl) fun Φ μ w v u himm hr hr2=>by
  obtain ⟨rfl,-⟩:=hr2.val_inv
  exact (refHasS v l s w (strs_of_rep himm hr) hl).mono (by
   rintro e w' ⟨rfl,hb⟩
   exact post_flat himm (.val _ rfl) rfl rfl (by first|exact hb|exact hb.below _|(subst hb;exact Below.refl _ _)))
theorem pcGet (l:List PAttr) (nm:ByteArray) (hl:l.length≤1000000):PCalls Tryz.prog 37 [pattrs l,pstr nm] (· = .tup [.agg (pattrL (getA l nm).1),pbool (getA l nm).2]):=
 pcalls2 (by kernel_rfl) fun Φ μ w v u himm hr hr2=>by
  obtain ⟨rfl,-⟩:=hr2.val_inv
  exact (attrGet v l nm w (attrs_of_rep himm hr) hl).mono (by
   rintro e w' ⟨rfl,hb⟩
   exact post_flat himm (RepL.cons (RepL.cons (.val _ rfl) (RepL.cons (.val _ rfl) (RepL.cons (.val _ rfl) (RepL.cons (.val _ rfl) RepL.nil)))).agg (RepL.cons (.val _ rfl) RepL.nil)).tup rfl rfl hb)
theorem pcRefGet (l:List PAttr) (nm:ByteArray) (hl:l.length≤1000000):PCalls Tryz.prog 143 [pattrs l,pstr nm] (· = .agg (pattrL (getA l nm).1 ++ [pbool (getA l nm).2])):=
 pcalls2 (by kernel_rfl) fun Φ μ w v u himm hr hr2=>by
  obtain ⟨rfl,-⟩:=hr2.val_inv
  exact (refGet v l nm w (attrs_of_rep himm hr) hl).mono (by
   rintro e w' ⟨rfl,hb⟩
   exact post_flat himm (RepL.cons (.val _ rfl) (RepL.cons (.val _ rfl) (RepL.cons (.val _ rfl) (RepL.cons (.val _ rfl) (RepL.cons (.val _ rfl) RepL.nil))))).agg rfl rfl hb)
end Go.Proofs.YtoamkpgaaanafaaGreat

/- Pure walks: Few. -/
namespace Go.Proofs.YtoamkpgaaanafaaGreat
set_option linter.unusedSimpArgs false
set_option linter.unusedVariables false
set_option linter.unnecessarySimpa false
open Go.RowKit
def smallA (a:PAttr):Bool:=decide (a.name.size≤300) && decide (a.s.size≤300)
def fewB (e:PEntry):Bool:=(e.attrs.take 21).all smallA && (decide (e.vec.length≤40) && decide (e.attrs.length≤20))
def entCellsP (e:PEntry):List PV := [pint e.id,pint e.ver,pint e.owner,pint e.filed,pint e.frm,pint e.to,pint e.born,pints e.vec,pattrs e.attrs]
theorem low_entCells (e:PEntry):∀c∈entCellsP e,Low c:=low_agg.1 ((low_pentry e).2 trivial)
theorem attr_cell {l:List PAttr} {k:Nat} {a:PAttr} (h:l[k]? = some a):(l.flatMap pattrL)[k * 4+0]? = some (pstr a.name)∧(l.flatMap pattrL)[k * 4+1]? = some (pint a.kind)∧(l.flatMap pattrL)[k * 4+2]? = some (pint a.n)∧(l.flatMap pattrL)[k * 4+3]? = some (pstr a.s):=
 ⟨flatMap_get (f:=pattrL) (k:=4) (fun _=>rfl) h rfl,flatMap_get (f:=pattrL) (k:=4) (fun _=>rfl) h rfl,flatMap_get (f:=pattrL) (k:=4) (fun _=>rfl) h rfl,flatMap_get (f:=pattrL) (k:=4) (fun _=>rfl) h rfl⟩
set_option maxRecDepth 10000 in
set_option maxHeartbeats 1000000 in
theorem pw_few (e:PEntry) (hl:e.attrs.length≤20000000000000) (hv:e.vec.length≤20000000000000):PCalls Tryz.prog 33 [pentry e] (· = pbool (fewB e)):=by
 refine pcalls_of_pw typeTab_ok Tryz.func33 rfl (by kernel_rfl) (by exact lw) (by simp [pentry,PV.ownB]) (by rw [Tryz.ntmps33];simp) ?_
 rw [Tryz.ntmps33,Tryz.results33]
 refine wk ?_
 refine PW.loop (fun k:Nat=>(((bot.setb 0 (entCellsP e)).put 1 (.ptr 0 0)).put 2 (pbool false)).put 3 (pint k)) (fun k=>k≤e.attrs.length∧k≤21∧(e.attrs.take k).all smallA=true) (fun k=>e.attrs.length - k) 0 ⟨by omega,by omega,by simp⟩ ?_ ?_
 ·exact sb
 ·rintro k ⟨hk,hk2,hall⟩
  by_cases hlt:k < e.attrs.length
  ·by_cases h20:k≤20
   ·obtain ⟨a,ha⟩:=ints_get e.attrs k hlt
    obtain ⟨c0,c1,c2,c3⟩:=attr_cell ha
    have hbad:smallA a=false→fewB e=false:=by
     intro hs
     have:(e.attrs.take 21).all smallA=false:=by
      rw [List.all_eq_false]
      exact ⟨a,by rw [List.mem_take_iff_getElem];obtain ⟨h3,h4⟩:=List.getElem?_eq_some_iff.1 ha;exact ⟨k,by omega,h4⟩,by simp [hs]⟩
     simp [fewB,this]
    by_cases h1:300 < a.name.size
    ·refine wk ?_
     refine retP rfl (by exact lw) ?_
     rw [hbad (by simp [smallA];omega)];rfl
    ·by_cases h2:300 < a.s.size
     ·refine wk ?_
      refine retP rfl (by exact lw) ?_
      rw [hbad (by simp [smallA];omega)];rfl
     ·refine wk ?_
      refine loopP (k+1) ⟨by omega,by omega,?_⟩ (by omega) ?_
      ·rw [List.take_add_one,List.all_append,hall,ha]
       simp [smallA];omega
      ·exact sb
   ·have e21:(e.attrs.take 21).all smallA=true:=by rw [show k=21 by omega] at hall;exact hall
    have hr:fewB e=false:=by simp [fewB];omega
    by_cases hv40:e.vec.length≤40
    ·have:¬e.attrs.length≤20:=by omega
     refine wk ?_
     refine retP rfl (by exact lw) ?_
     rw [hr];rfl
    ·refine wk ?_
     refine retP rfl (by exact lw) ?_
     rw [hr];rfl
  ·have e21:(e.attrs.take 21).all smallA=true:=by
    rw [List.take_of_length_le (by omega)] at hall
    rw [List.all_eq_true] at hall ⊢
    exact fun x hx=>hall x (List.mem_of_mem_take hx)
   by_cases hv40:e.vec.length≤40
   ·by_cases ha20:e.attrs.length≤20
    ·refine wk ?_
     refine retP rfl (by exact lw) ?_
     simp [fewB,e21,hv40,ha20,pbool]
    ·refine wk ?_
     refine retP rfl (by exact lw) ?_
     simp [fewB,ha20,pbool]
   ·refine wk ?_
    refine retP rfl (by exact lw) ?_
    simp [fewB,hv40,pbool]
end Go.Proofs.YtoamkpgaaanafaaGreat

/- Pure walks: FewDefs. -/
namespace Go.Proofs.YtoamkpgaaanafaaGreat
set_option linter.unusedSimpArgs false
set_option linter.unusedVariables false
set_option linter.unnecessarySimpa false
open Go.RowKit
def smallDefB (d:PDef):Bool:=decide (d.words.length≤60) && (decide (d.name.size≤100) && d.words.all (fun s=>decide (s.size≤100)))
def fewDefsB (s:PSchema):Bool:=(s.defs.take 21).all smallDefB && decide (s.defs.length≤20)
def schCellsP (s:PSchema):List PV := [pint s.dims,pint s.metric,pdefs s.defs]
theorem low_schCells (s:PSchema):∀c∈schCellsP s,Low c:=low_agg.1 ((low_pschema s).2 trivial)
theorem fewDefsB_few {s:PSchema} (h:fewDefsB s=true):FewS s:=by
 simp only [fewDefsB,Bool.and_eq_true,decide_eq_true_eq,List.all_eq_true] at h
 obtain ⟨h1,h2⟩:=h
 refine ⟨h2,fun d hd=>?_⟩
 rw [List.take_of_length_le (by omega)] at h1
 have:=h1 d hd
 simpa [smallDefB,FewD] using this
end Go.Proofs.YtoamkpgaaanafaaGreat

/-
  DERIVED: THE SHELF's CONTRACTS AT THIS DUMP, IN PLAIN WORDS (tools/lay-plain.mjs out of 'TryzIter.lean', which tools/lay-shelf.mjs wrote): THE SAME DECLARATIONS UNDER THE SAME NAMES: 'import', 'namespace', 'open', 'def', 'theorem' AND NOTHING ELSE: no command of the shelf's: FOR A HAND-IN. Each laying: the table of numbers ('.._ren') and one theorem, a field a fact of the dump's own or the kernel's comparison; each contract: ONE APPLICATION.
-/
namespace Go.Proofs
open Go.Shelf
def Tryz.keys195_ren:Go.Shelf.Ren:=⟨fun|7=>195|10=>252|n=>n,fun|23=>164|26=>9|3=>4|28=>232|0=>0|27=>231|33=>157|4=>4|n=>n,fun|n=>n⟩
theorem Tryz.keys195:Go.Proofs.SlLaysZ.n7 Tryz.prog Tryz.keys195_ren:={
 mixed:=by kernel_rfl
 f7:=⟨Tryz.f195.name,by decide,Tryz.func195.trans (congrArg some (by kernel_rfl))⟩
 f10:=⟨Tryz.f252.name,by decide,Tryz.func252.trans (congrArg some (by kernel_rfl))⟩
 t0:=Tryz.underlying0
 a0:=Tryz.isAgg0
 z0:=Tryz.sizeOf0
 v0:=Tryz.zeroValue0
 t4:=Tryz.underlying4
 a4:=Tryz.isAgg4
 z4:=Tryz.sizeOf4
 v4:=Tryz.zeroValue4
 t23:=Tryz.underlying164
 a23:=Tryz.isAgg164
 z23:=Tryz.sizeOf164
 v23:=Tryz.zeroValue164
 t26:=Tryz.underlying9
 a26:=Tryz.isAgg9
 z26:=Tryz.sizeOf9
 v26:=Tryz.zeroValue9
 t27:=Tryz.underlying231
 a27:=Tryz.isAgg231
 z27:=Tryz.sizeOf231
 v27:=Tryz.zeroValue231
 t28:=Tryz.underlying232
 a28:=Tryz.isAgg232
 z28:=Tryz.sizeOf232
 v28:=Tryz.zeroValue232
 t33:=Tryz.underlying157
 a33:=Tryz.isAgg157
 z33:=Tryz.sizeOf157
 v33:=Tryz.zeroValue157 }
def Tryz.sorted194_ren:Go.Shelf.Ren:=⟨fun|6=>194|8=>250|9=>251|11=>265|13=>267|12=>266|23=>280|24=>281|14=>271|15=>272|16=>273|17=>274|18=>275|19=>276|20=>277|21=>278|22=>279|25=>287|26=>288|27=>289|28=>290|29=>291|30=>292|31=>293|n=>n,fun|26=>9|28=>232|24=>75|0=>0|3=>3|37=>262|48=>85|50=>261|4=>4|40=>278|39=>277|45=>255|5=>5|9=>9|51=>287|55=>291|57=>293|58=>294|33=>157|n=>n,fun|n=>n⟩
theorem Tryz.sorted194:Go.Proofs.SlLaysZ.n6 Tryz.prog Tryz.sorted194_ren:={
 mixed:=by kernel_rfl
 f6:=⟨Tryz.f194.name,by decide,Tryz.func194.trans (congrArg some (by kernel_rfl))⟩
 f8:=⟨Tryz.f250.name,by decide,Tryz.func250.trans (congrArg some (by kernel_rfl))⟩
 f11:=⟨Tryz.f265.name,by decide,Tryz.func265.trans (congrArg some (by kernel_rfl))⟩
 t0:=Tryz.underlying0
 a0:=Tryz.isAgg0
 z0:=Tryz.sizeOf0
 v0:=Tryz.zeroValue0
 t24:=Tryz.underlying75
 a24:=Tryz.isAgg75
 z24:=Tryz.sizeOf75
 v24:=Tryz.zeroValue75
 t26:=Tryz.underlying9
 a26:=Tryz.isAgg9
 z26:=Tryz.sizeOf9
 v26:=Tryz.zeroValue9
 t28:=Tryz.underlying232
 a28:=Tryz.isAgg232
 z28:=Tryz.sizeOf232
 v28:=Tryz.zeroValue232
 i26:=by kernel_rfl }
def Tryz.sort251_ren:Go.Shelf.Ren:=⟨fun|6=>251|8=>267|9=>266|19=>280|20=>281|21=>271|22=>272|23=>273|24=>274|25=>275|26=>276|27=>277|28=>278|29=>279|36=>287|31=>288|32=>289|37=>290|38=>291|39=>292|41=>293|n=>n,fun|27=>75|29=>9|3=>3|32=>262|26=>75|0=>0|44=>85|46=>261|4=>4|36=>278|35=>277|41=>255|5=>5|9=>9|53=>287|57=>291|63=>293|64=>294|n=>n,fun|n=>n⟩
theorem Tryz.sort251:Go.Proofs.SlLaysM.n6 Tryz.prog Tryz.sort251_ren:={
 mixed:=by kernel_rfl
 f6:=⟨Tryz.f251.name,by decide,Tryz.func251.trans (congrArg some (by kernel_rfl))⟩
 f8:=Tryz.func267.trans (congrArg some (by kernel_rfl))
 f9:=⟨Tryz.f266.name,by decide,Tryz.func266.trans (congrArg some (by kernel_rfl))⟩
 f19:=Tryz.func280.trans (congrArg some (by kernel_rfl))
 f20:=Tryz.func281.trans (congrArg some (by kernel_rfl))
 f21:=⟨Tryz.f271.name,by decide,Tryz.func271.trans (congrArg some (by kernel_rfl))⟩
 f22:=⟨Tryz.f272.name,by decide,Tryz.func272.trans (congrArg some (by kernel_rfl))⟩
 f23:=⟨Tryz.f273.name,by decide,Tryz.func273.trans (congrArg some (by kernel_rfl))⟩
 f24:=⟨Tryz.f274.name,by decide,Tryz.func274.trans (congrArg some (by kernel_rfl))⟩
 f25:=⟨Tryz.f275.name,by decide,Tryz.func275.trans (congrArg some (by kernel_rfl))⟩
 f26:=⟨Tryz.f276.name,by decide,Tryz.func276.trans (congrArg some (by kernel_rfl))⟩
 f27:=⟨Tryz.f277.name,by decide,Tryz.func277.trans (congrArg some (by kernel_rfl))⟩
 f28:=⟨Tryz.f278.name,by decide,Tryz.func278.trans (congrArg some (by kernel_rfl))⟩
 f29:=⟨Tryz.f279.name,by decide,Tryz.func279.trans (congrArg some (by kernel_rfl))⟩
 f31:=Tryz.func288.trans (congrArg some (by kernel_rfl))
 f32:=Tryz.func289.trans (congrArg some (by kernel_rfl))
 f36:=⟨Tryz.f287.name,by decide,Tryz.func287.trans (congrArg some (by kernel_rfl))⟩
 f37:=⟨Tryz.f290.name,by decide,Tryz.func290.trans (congrArg some (by kernel_rfl))⟩
 f38:=⟨Tryz.f291.name,by decide,Tryz.func291.trans (congrArg some (by kernel_rfl))⟩
 f39:=⟨Tryz.f292.name,by decide,Tryz.func292.trans (congrArg some (by kernel_rfl))⟩
 f41:=⟨Tryz.f293.name,by decide,Tryz.func293.trans (congrArg some (by kernel_rfl))⟩
 t0:=Tryz.underlying0
 a0:=Tryz.isAgg0
 z0:=Tryz.sizeOf0
 v0:=Tryz.zeroValue0
 t3:=Tryz.underlying3
 a3:=Tryz.isAgg3
 z3:=Tryz.sizeOf3
 v3:=Tryz.zeroValue3
 t4:=Tryz.underlying4
 a4:=Tryz.isAgg4
 z4:=Tryz.sizeOf4
 v4:=Tryz.zeroValue4
 t5:=Tryz.underlying5
 a5:=Tryz.isAgg5
 z5:=Tryz.sizeOf5
 v5:=Tryz.zeroValue5
 t9:=Tryz.underlying9
 a9:=Tryz.isAgg9
 z9:=Tryz.sizeOf9
 v9:=Tryz.zeroValue9
 t26:=Tryz.underlying75
 a26:=Tryz.isAgg75
 z26:=Tryz.sizeOf75
 v26:=Tryz.zeroValue75
 t27:=Tryz.underlying75
 a27:=Tryz.isAgg75
 z27:=Tryz.sizeOf75
 v27:=Tryz.zeroValue75
 t29:=Tryz.underlying9
 a29:=Tryz.isAgg9
 z29:=Tryz.sizeOf9
 v29:=Tryz.zeroValue9
 t32:=Tryz.underlying262
 a32:=Tryz.isAgg262
 z32:=Tryz.sizeOf262
 v32:=Tryz.zeroValue262
 t35:=Tryz.underlying277
 a35:=Tryz.isAgg277
 z35:=Tryz.sizeOf277
 v35:=Tryz.zeroValue277
 t36:=Tryz.underlying278
 a36:=Tryz.isAgg278
 z36:=Tryz.sizeOf278
 v36:=Tryz.zeroValue278
 t41:=Tryz.underlying255
 a41:=Tryz.isAgg255
 z41:=Tryz.sizeOf255
 v41:=Tryz.zeroValue255
 t44:=Tryz.underlying85
 a44:=Tryz.isAgg85
 z44:=Tryz.sizeOf85
 v44:=Tryz.zeroValue85
 t46:=Tryz.underlying261
 a46:=Tryz.isAgg261
 z46:=Tryz.sizeOf261
 v46:=Tryz.zeroValue261
 t53:=Tryz.underlying287
 a53:=Tryz.isAgg287
 z53:=Tryz.sizeOf287
 v53:=Tryz.zeroValue287
 t57:=Tryz.underlying291
 a57:=Tryz.isAgg291
 z57:=Tryz.sizeOf291
 v57:=Tryz.zeroValue291
 t63:=Tryz.underlying293
 a63:=Tryz.isAgg293
 z63:=Tryz.sizeOf293
 v63:=Tryz.zeroValue293
 t64:=Tryz.underlying294
 a64:=Tryz.isAgg294
 z64:=Tryz.sizeOf294
 v64:=Tryz.zeroValue294 }
open Go.RowKit Go.Maps Go.Sort in
theorem Tryz.sorts194 (m : Nat) : AnyZ.SortsIn Tryz.prog Tryz.sorted194_ren Fence.wide m :=
  ⟨fun blk off cap ss W hH hblk hsz => callsIn_wide.2 (AnyM.slices_Sort_string Tryz.sort251 blk off cap ss W hH hblk hsz),
   fun p cap W => callsIn_wide.2 (AnyM.slices_Sort_string_none Tryz.sort251 p cap W)⟩
open Go.RowKit Go.Maps Go.Sort in
theorem Tryz.maps_Keys_195 (mb:Option Nat) (W:World):CallsIn Fence.wide 5 Tryz.prog 195 #[.map mb] W fun e w' => e = .returned (.func (.func 252) #[] #[.pointer (some ⟨W.heap.size,0,none⟩)])∧w' = W.alloc (.cells #[.map mb] 164):=
 AnyZ.keys_in Tryz.keys195 Fence.wide 5 trivial rfl mb W
open Go.RowKit Go.Maps Go.Sort in
theorem Tryz.slices_Sorted_keys_194_195 {H:Type} (b nn:Nat) (D0:DataW H) (R:Value→Option (DataW H×List MemPlace)) (w:World) (hown:w.ownsMap Tryz.prog 9 R b nn D0) (hmax:Maps.size D0≤maxLen) (hbytes:Maps.size D0 * 16≤140737488355328) :
  CallsIn Fence.wide 5 Tryz.prog 194 #[.func (.func 252) #[] #[.pointer (some ⟨w.heap.size,0,none⟩)]] (w.alloc (.cells #[.map (some b)] 164)) fun e w' => ∃(v:Value) (ss:List (List UInt8)),e = .returned v∧ss.Perm (strKeys D0) ∧
   w'.ownsRow (w.alloc (.cells #[.map (some b)] 164)).heap.size 9 1 v ss.length ((ss.mergeSort (fun x y=>decide (x≤y))).map encStr)∧(v = .slice none 0 0↔ss = [])∧Below (w.alloc (.cells #[.map (some b)] 164)).heap.size (w.alloc (.cells #[.map (some b)] 164)) w':=by
 have hbl:=hown.lt
 have hseq:SeqGives Fence.wide 2 Tryz.prog 252 #[.pointer (some ⟨w.heap.size,0,none⟩)] encStr (fun ss=>ss.Perm (strKeys D0)) (Maps.size D0) (w.alloc (.cells #[.map (some b)] 164)):=
  AnyZ.keys_gives (ρ:=Tryz.keys195_ren) { Tryz.keys195 with } Fence.wide _ trivial rfl (by omega) w.heap.size b nn D0 _ (by simp) (by simp) (by
   obtain ⟨es,clock,hb,Ft,hs,hD⟩:=hown
   exact ⟨es,clock,(Below.heap_alloc _ _ b hbl).trans hb,Ft,hs,hD⟩)
 exact AnyZ.sorted_in Tryz.sorted194 Fence.wide 5 trivial trivial trivial trivial rfl (by omega) (Tryz.sorts194 _) (enters_of Tryz.func251 (by kernel_rfl) rfl) 252 #[.pointer (some ⟨w.heap.size,0,none⟩)] trivial (enters_of Tryz.func252 (by kernel_rfl) rfl) _ _ hmax hbytes _ hseq
end Go.Proofs

/- Pure walks: Compare and Same of vectors, equal of entries. -/
namespace Go.Proofs.YtoamkpgaaanafaaGreat
set_option linter.unusedSimpArgs false
set_option linter.unusedVariables false
set_option linter.unnecessarySimpa false
open Go.RowKit
theorem ba_beq (a b:ByteArray):(a == b)=true↔a=b:=by
 obtain ⟨a⟩:=a
 obtain ⟨b⟩:=b
 have:((⟨a⟩:ByteArray) == ⟨b⟩)=(a == b):=rfl
 rw [this,ByteArray.mk.injEq,beq_iff_eq]
def eqAttrB (a b:PAttr):Bool:=a.name == b.name && (a.kind == b.kind && (a.n == b.n && (a.s == b.s && true)))
theorem eqAttrB_iff (a b:PAttr):eqAttrB a b=true↔a=b:=by
 obtain ⟨n1,k1,x1,s1⟩:=a
 obtain ⟨n2,k2,x2,s2⟩:=b
 simp [eqAttrB,ba_beq]
instance:DecidableEq PAttr:=fun a b=>decidable_of_iff _ (eqAttrB_iff a b)
end Go.Proofs.YtoamkpgaaanafaaGreat

/- Regions that draw their order, where an operation is told what it does not look at. -/
namespace Go.Proofs.YtoamkpgaaanafaaGreat
set_option linter.unusedSimpArgs false
set_option linter.unusedVariables false
set_option linter.unnecessarySimpa false
open Go.RowKit
def okF (env:Nat→Option Nat) (ban:Nat→Nat→Bool) (ops:List Oper) (base i id:Nat):Bool:=okD (clos ops) base ops.length i id && ((match (ops[i]?).bind (tgtOf env base ops) with|some k=>Nat.beq id k|none=>true) && !ban i id)
def sepF (env:Nat→Option Nat) (ban:Nat→Nat→Bool) (base:Nat) (ops:List Oper) (iy ix:Nat) (y x:Oper):Bool:=
 (match tgtOf env base ops y with|some k => !okF env ban ops base ix k|none=>false) || (match tgtOf env base ops x with|some k => !okF env ban ops base iy k|none=>false)
theorem sepF_ok {env:Nat→Option Nat} {ban:Nat→Nat→Bool} {ops:List Oper} {base iy ix:Nat} {y x:Oper} (hy:ops[iy]? = some y) (hx:ops[ix]? = some x) (hs:sepF env ban base ops iy ix y x=true) (j:Nat) (h1:okF env ban ops base iy j=true) (h2:okF env ban ops base ix j=true):False:=by
 have res:∀(i:Nat) o k,ops[i]? = some o→okF env ban ops base i j=true→tgtOf env base ops o=some k→j=k:=by
  intro i o k ho h hr
  simp only [okF,ho,Option.bind_some,hr,Bool.and_eq_true] at h
  exact Nat.eq_of_beq_eq_true h.2.1
 simp only [sepF,Bool.or_eq_true] at hs
 rcases hs with hs|hs
 ·cases hr:tgtOf env base ops y with
  |none=>rw [hr] at hs;cases hs
  |some k=>
   rw [hr] at hs
   have e:=res iy y k hy h1 hr
   subst e
   simp [h2] at hs
 ·cases hr:tgtOf env base ops x with
  |none=>rw [hr] at hs;cases hs
  |some k=>
   rw [hr] at hs
   have e:=res ix x k hx h2 hr
   subst e
   simp [h1] at hs
def indF (env:Nat→Option Nat) (ban:Nat→Nat→Bool) (base:Nat) (ops:Array Oper) (iy ix:Nat) (y x:Oper):Bool:=
 (match y.dst,x.dst with|some a,some b=>a != b|_,_=>true) &&
 (match y.dst with|some a => !(tmpsOf x.op.operands.toList).contains a && !(guardT ops x).contains a|none=>true) &&
 (match x.dst with|some b => !(tmpsOf y.op.operands.toList).contains b && !(guardT ops y).contains b|none=>true) &&
 (takesB (headB ops y.dst) y).all (fun s => !(takesB (headB ops x.dst) x).contains s) &&
 (!(mapW (headB ops y.dst) y && mapU x) && !(mapW (headB ops x.dst) x && mapU y)) &&
 ((!(storeB y && usesBox x) && !(storeB x && usesBox y) && !(isStore (headB ops y.dst) y && isStore (headB ops x.dst) x)) || sepF env ban base ops.toList iy ix y x)
def drawF (env:Nat→Option Nat) (ban:Nat→Nat→Bool) (base:Nat) (ops:List Oper):Bool:=
 let cl:=clos ops
 (indexed 0 ops).all fun x=>x.2.after.toList.all (fun e => !Region.binds .any e || decide (e.on < x.1)) &&
  (indexed 0 ops).all fun y => !decide (y.1 < x.1) || (cl.getD x.1 []).contains y.1 || indF env ban base ops.toArray y.1 x.1 y.2 x.2
section
variable {P:Program} {T:Tab} {σ:PS} {ops:Array Oper} {base:Nat} {ok:Nat→Nat→Bool}
theorem ind_partsF {env:Nat→Option Nat} {ban:Nat→Nat→Bool} {eb:Nat} {iy ix:Nat} {y x:Oper} (h:indF env ban eb ops iy ix y x=true):Ind ops (sepF env ban eb ops.toList iy ix y x=true) y x:=by
 simp only [indF,Bool.and_eq_true,Bool.not_eq_true',Bool.or_eq_true (_ && _) (sepF _ _ _ _ _ _ _ _)] at h
 obtain ⟨⟨⟨⟨⟨h1,h2⟩,h3⟩,h4⟩,h6⟩,h5⟩:=h
 refine ⟨?_,?_,?_,?_,?_,?_,?_,?_,?_⟩
 ·intro a b ea eb
  rw [ea,eb] at h1
  simpa using h1
 ·intro a ea
  rw [ea] at h2
  simpa using h2
 ·intro a ea
  rw [ea] at h3
  simpa using h3
 ·intro s hs
  have:=List.all_eq_true.1 h4 s hs
  simpa using this
 ·intro e1 e2
  rcases h5 with h5|h5
  ·simp only [e1,e2,Bool.and_eq_true,Bool.not_eq_true',Bool.and_true,Bool.true_and] at h5
   simp at h5
  ·exact h5
 ·intro e1 e2
  rcases h5 with h5|h5
  ·simp only [e1,e2,Bool.and_eq_true,Bool.not_eq_true',Bool.and_true,Bool.true_and] at h5
   simp at h5
  ·exact h5
 ·intro e1 e2
  rcases h5 with h5|h5
  ·simp only [e1,e2,Bool.and_eq_true,Bool.not_eq_true',Bool.and_true,Bool.true_and] at h5
   simp at h5
  ·exact h5
 ·intro e1 e2
  have:=h6.1
  rw [e1,e2] at this;cases this
 ·intro e1 e2
  have:=h6.2
  rw [e1,e2] at this;cases this
end
theorem PWops.bubbleF {P:Program} {T:Tab} {ops:Array Oper} {base:Nat} {ok:Nat→Nat→Bool} {env:Nat→Option Nat} {ban:Nat→Nat→Bool} {eb:Nat} {ix:Nat} {x:Oper} {post:List (Nat×Oper)} {Q:PS→Prop} : ∀(pre:List (Nat×Oper)) (σ:PS),(∀y∈pre,(indF env ban eb ops y.1 ix y.2 x=true∧(sepF env ban eb ops.toList y.1 ix y.2 x=true→∀j,ok y.1 j=true→ok ix j=true→False))∧y.1≠ix∧ok ix (base+y.1)=false∧ok y.1 (base+ix)=false) →
  PWops P T ops base ok (pre ++ (ix,x) :: post) Q σ→PWops P T ops base ok ((ix,x) :: (pre ++ post)) Q σ
 | [],σ,_,h=>h
 |(iy,y) :: pre,σ,hall,h=>by
  obtain ⟨h1,h2,h3,h4⟩:=hall (iy,y) (by simp)
  have ih:=PWops.bubbleF (P:=P) (T:=T) (ops:=ops) (base:=base) (ok:=ok) (env:=env) (ban:=ban) (eb:=eb) (ix:=ix) (x:=x) (post:=post) (Q:=Q) pre
  have:PWop P T ops base ok iy y (PWop P T ops base ok ix x (PWops P T ops base ok (pre ++ post) Q)) σ:=
   PWop.mono (fun σ' h' => ih σ' (fun z hz=>hall z (by simp [hz])) h') h
  exact PWop.swap (ind_partsF h1.1) h1.2 h2 h3 h4 this
theorem draw_partsF {env:Nat→Option Nat} {ban:Nat→Nat→Bool} {eb:Nat} {ops:List Oper} (h:drawF env ban eb ops=true):(∀(i:Nat) o,ops[i]? = some o→∀e∈o.after.toList,Region.binds .any e=true→e.on < i) ∧
  (∀(i j:Nat) x y,ops[i]? = some x→ops[j]? = some y→j < i→j∈(clos ops).getD i []∨indF env ban eb ops.toArray j i y x=true):=by
 have hm:∀(i:Nat) o,ops[i]? = some o→(i,o)∈indexed 0 ops:=by
  have:∀(l:List Oper) (k i:Nat) o,l[i]? = some o→(k+i,o)∈indexed k l:=by
   intro l
   induction l with
   |nil=>intro k i o h;simp at h
   |cons p l ih=>
    intro k i o h
    cases i with
    |zero=>simp at h;subst h;simp [indexed]
    |succ i=>
     simp at h
     have:=ih (k+1) i o h
     simp only [indexed,List.mem_cons]
     right
     rw [show k+(i+1)=k+1+i by omega];exact this
  intro i o h
  have:=this ops 0 i o h
  rwa [Nat.zero_add] at this
 simp only [drawF] at h
 have h':=List.all_eq_true.1 h
 refine ⟨fun i o ho e he hb=>?_,fun i j x y hx hy hji=>?_⟩
 ·have:=h' _ (hm i o ho)
  simp only [Bool.and_eq_true] at this
  have:=List.all_eq_true.1 this.1 e he
  simpa [hb] using this
 ·have:=h' _ (hm i x hx)
  simp only [Bool.and_eq_true] at this
  have:=List.all_eq_true.1 this.2 _ (hm j y hy)
  simp only [hji,decide_true,Bool.not_true,Bool.false_or,Bool.or_eq_true,List.contains_iff_mem] at this
  exact this
section
variable {Φ0:Ent} {W:World} {M:Nat} {P:Program} {T:Tab} {ops:List Oper} {base:Nat} {env:Nat→Option Nat} {ban:Nat→Nat→Bool}
theorem any_soundF (hT:T=tabOf P) (hbase:base+ops.toArray.size≤1000000) (hall:∀(j:Nat) o,ops.toArray[j]? = some o→dstB M o=true) (hdraw:drawF env ban base ops=true) {Q:PS→Prop} {Q' : Exit→Act→World→Prop} (hQ:∀σ a w,Q σ→Rel Φ0 W M σ a w→Q' .normal a w) {r:Option Nat} :
  ∀(fuel:Nat) (listed:Array Bool) (σ:PS) (a:Act) (w:World),unlisted listed≤fuel→listed.size=ops.length→(∀(i:Nat) o,ops[i]? = some o→listed.getD i false=true→∀j,depO o j=true→listed.getD j false=true) →
   PWops P T ops.toArray base (okF env ban ops base) ((indexed 0 ops).filter fun x => !listed.getD x.1 false) Q σ→Rel Φ0 W M σ a w→wpAnyIn (FW r) 0 P .any ops.toArray Q' fuel listed a w:=by
 obtain ⟨hE,hI⟩:=draw_partsF hdraw
 have hsz:∀listed:Array Bool,listed.size=ops.length→listed.size=ops.toArray.size:=fun l h=>by simpa using h
 have fin:∀(listed:Array Bool) (σ:PS) (a:Act) (w:World),listed.size=ops.length→(∀i,i < ops.length→listed.getD i false=true) →
   PWops P T ops.toArray base (okF env ban ops base) ((indexed 0 ops).filter fun x => !listed.getD x.1 false) Q σ→Rel Φ0 W M σ a w→Q' .normal a w:=by
  intro listed σ a w hs hl h hr
  have:((indexed 0 ops).filter fun x => !listed.getD x.1 false) = []:=by
   rw [List.filter_eq_nil_iff]
   intro x hx
   obtain ⟨-,h2⟩:=indexed_mem 0 ops x hx
   have:x.1 < ops.length:=by have:=(List.getElem?_eq_some_iff.1 h2).1;omega
   simp [hl x.1 this]
  rw [this] at h
  exact hQ σ a w h hr
 have alls:∀listed:Array Bool,listed.size=ops.length→Region.ready .any ops.toArray listed = []→∀i,i < ops.length→listed.getD i false=true:=by
  intro listed hs hr i
  induction i using Nat.strongRecOn with
  |_ i ih=>
   intro hi
   have ho:ops.toArray[i]? = some ops[i]:=by simp [hi]
   cases hl:listed.getD i false with
   |true=>rfl
   |false=>
    have:i∈Region.ready .any ops.toArray listed:=(mem_ready (hsz listed hs)).2 ⟨ops[i],ho,hl,fun j hj=>by
     obtain ⟨e,he,hb,rfl⟩:=depO_iff.1 hj
     have:=hE i ops[i] (by simp [hi]) e he hb
     exact ih e.on this (by omega)⟩
    rw [hr] at this;cases this
 intro fuel
 induction fuel with
 |zero=>
  intro listed σ a w hu hs hcl h hr
  have hl:=unlisted_zero (Nat.le_zero.1 hu)
  rw [hs] at hl
  refine ⟨?_,fin listed σ a w hs hl h hr⟩
  apply List.eq_nil_iff_forall_not_mem.2
  intro i hi
  obtain ⟨o,ho,h1,_⟩:=(mem_ready (hsz listed hs)).1 hi
  rw [hl i (by have:=(Array.getElem?_eq_some_iff.1 ho).1;simpa using this)] at h1
  cases h1
 |succ fuel ih=>
  intro listed σ a w hu hs hcl h hr
  refine ⟨fun hrd=>fin listed σ a w hs (alls listed hs hrd) h hr,fun i hi=>?_⟩
  obtain ⟨o,ho,h1,h2⟩:=(mem_ready (hsz listed hs)).1 hi
  have ho' : ops[i]? = some o:=by simpa using ho
  have hil:i < ops.length:=(List.getElem?_eq_some_iff.1 ho').1
  have hmem:(i,o)∈(indexed 0 ops).filter fun x => !listed.getD x.1 false:=by
   rw [List.mem_filter]
   refine ⟨?_,by simp [h1]⟩
   have:∀(l:List Oper) (k i:Nat) o,l[i]? = some o→(k+i,o)∈indexed k l:=by
    intro l
    induction l with
    |nil=>intro k i o h;simp at h
    |cons p l ih=>
     intro k i o h
     cases i with
     |zero=>simp at h;subst h;simp [indexed]
     |succ i=>
      simp at h
      have:=ih (k+1) i o h
      simp only [indexed,List.mem_cons]
      right
      rw [show k+(i+1)=k+1+i by omega];exact this
   have:=this ops 0 i o ho'
   rwa [Nat.zero_add] at this
  obtain ⟨pre,post,hL⟩:=List.append_of_mem hmem
  have hsort:((indexed 0 ops).filter fun x => !listed.getD x.1 false).Pairwise (fun a b=>a.1 < b.1):=(indexed_sorted 0 ops).filter _
  rw [hL] at h hsort
  rw [List.pairwise_append] at hsort
  obtain ⟨-,hs2,hs3⟩:=hsort
  rw [List.pairwise_cons] at hs2
  have hpre:∀y∈pre,y.1 < i:=fun y hy=>hs3 y hy (i,o) (by simp)
  have hpost:∀y∈post,i < y.1:=fun y hy=>hs2.1 y hy
  have hprem:∀y∈pre,ops[y.1]? = some y.2∧listed.getD y.1 false=false:=by
   intro y hy
   have:y∈(indexed 0 ops).filter fun x => !listed.getD x.1 false:=by rw [hL];simp [hy]
   rw [List.mem_filter] at this
   obtain ⟨-,q⟩:=indexed_mem 0 ops y this.1
   exact ⟨by simpa using q,by simpa using this.2⟩
  have hb:=PWops.bubbleF (P:=P) (T:=T) (base:=base) (ok:=okF env ban ops base) (env:=env) (ban:=ban) (eb:=base) (ix:=i) (x:=o) (post:=post) (Q:=Q) pre σ (by
   intro y hy
   obtain ⟨q1,q2⟩:=hprem y hy
   have hlt:=hpre y hy
   have hnc:y.1∉(clos ops).getD i []:=fun hc=>by
    rw [clos_listed hE hcl i o ho' h2 y.1 hc] at q2;cases q2
   have hyl:y.1 < ops.length:=(List.getElem?_eq_some_iff.1 q1).1
   refine ⟨⟨by simpa using (hI i y.1 o y.2 ho' q1 hlt).resolve_left hnc,fun hs j hj1 hj2=>sepF_ok (ops:=ops) q1 ho' (by simpa using hs) j hj1 hj2⟩,by omega,?_,?_⟩
   ·rw [okF,Bool.and_eq_false_iff];left
    simp only [okD,Bool.or_eq_false_iff,decide_eq_false_iff_not]
    refine ⟨⟨by omega,by omega⟩,?_⟩
    rw [Nat.add_sub_cancel_left]
    simpa using hnc
   ·rw [okF,Bool.and_eq_false_iff];left
    simp only [okD,Bool.or_eq_false_iff,decide_eq_false_iff_not]
    refine ⟨⟨by omega,by omega⟩,?_⟩
    rw [Nat.add_sub_cancel_left]
    have:i∉(clos ops).getD y.1 []:=fun hc=>by have:=clos_lt hE y.1 y.2 q1 i hc;omega
    simpa using this) h
  have hset:listed.getD i false=false:=h1
  have hlt:i < listed.size:=by rw [hs];exact hil
  have hrem:pre ++ post=(indexed 0 ops).filter fun x => !(listed.setIfInBounds i true).getD x.1 false:=by
   have e1:((indexed 0 ops).filter fun x => !(listed.setIfInBounds i true).getD x.1 false)=((indexed 0 ops).filter fun x => !listed.getD x.1 false).filter (fun x => !decide (x.1=i)):=by
    rw [List.filter_filter]
    congr 1
    funext x
    rw [getD_set _ _ _ hlt]
    cases listed.getD x.1 false<;>simp
   rw [e1,hL,List.filter_append,List.filter_cons]
   have e2:pre.filter (fun x => !decide (x.1=i))=pre:=List.filter_eq_self.2 (fun y hy=>by have:=hpre y hy;simp;omega)
   have e3:post.filter (fun x => !decide (x.1=i))=post:=List.filter_eq_self.2 (fun y hy=>by have:=hpost y hy;simp;omega)
   rw [e2,e3]
   simp
  have hcl' : ∀(k:Nat) p,ops[k]? = some p→(listed.setIfInBounds i true).getD k false=true→∀j,depO p j=true→(listed.setIfInBounds i true).getD j false=true:=by
   intro k p hp hk j hj
   rw [getD_set _ _ _ hlt] at hk ⊢
   simp only [Bool.or_eq_true,decide_eq_true_eq] at hk ⊢
   rcases hk with rfl|hk
   ·rw [ho'] at hp;cases hp;exact .inr (h2 j hj)
   ·exact .inr (hcl k p hp hk j hj)
  have hstep:=op_sound (Φ0:=Φ0) (W:=W) (M:=M) hT hall (base:=base) hbase ho (K':=wpAnyIn (FW r) 0 P .any ops.toArray Q' fuel (listed.setIfInBounds i true)) (Q':=Q') (fun σ' a' w' hk hr' => ih (listed.setIfInBounds i true) σ' a' w' (by have:=unlisted_set listed i hlt hset;omega) (by simpa using hs) hcl' (by rw [←hrem];exact hk) hr') hb hr
  unfold wpOpIn
  rw [ho]
  simp only
  split
  ·rename_i hw;rw [if_pos hw] at hstep;exact wpIn_of_wp (dstB_defer (hall i o ho)) hstep
  ·rename_i hw;rw [if_neg hw] at hstep;exact ⟨fun _ _=>trivial,hstep⟩
theorem PW.drawF (ban:Nat→Nat→Bool) {Q:Exit→PS→Prop} {σ:PS} (hT:T=tabOf P) (hm:P.follows .mixedOrders=true) {id:Nat} (hall2:(ops.all (dstB M) && Nat.ble (1000 * id+ops.length) 1000000)=true) (hd:drawF (envOf σ) ban (1000 * id) ops=true)
  (h:PWops P T ops.toArray (1000 * id) (okF (envOf σ) ban ops (1000 * id)) (indexed 0 ops) (Q .normal) σ):PW P M (.region id ops.toArray true) Q σ:=by
 intro Φ0 W a w hr
 have hall2':=hall2
 simp only [Bool.and_eq_true] at hall2'
 obtain ⟨hall,hb0⟩:=hall2'
 have hbase:=Nat.le_of_ble_eq_true hb0
 refine wpIn_region_any hm ?_
 obtain ⟨Φ,μ,ω,hg⟩:=hr
 refine any_soundF (Φ0:=Φ0) (W:=W) (M:=M) (base:=1000 * id) (env:=envOf σ) (ban:=ban) (Q:=Q .normal) hT (by simpa using hbase) (by
  intro j o hj
  exact List.all_eq_true.1 hall o (mem_of_get (by simpa using hj))) hd (fun σ a w hq hrel=>⟨_,Φ0,W,hq,Later.refl _ _,hrel⟩) _ _ σ a _ ?_ (by simp) ?_ ?_ ⟨Φ,μ,ω,hg.drew⟩
 ·unfold unlisted
  exact Nat.le_trans List.countP_le_length (by simp)
 ·intro i o ho hl
  simp [Array.getD_eq_getD_getElem?,Array.getElem?_replicate] at hl
  split at hl<;>simp_all
 ·have:((indexed 0 ops).filter fun x => !(Array.replicate ops.toArray.size false).getD x.1 false)=indexed 0 ops:=by
   rw [List.filter_eq_self]
   intro x _
   simp [Array.getD_eq_getD_getElem?,Array.getElem?_replicate]
   split<;>rfl
  rw [this]
  exact h
end
end Go.Proofs.YtoamkpgaaanafaaGreat

/- Pure walks: a state seen from a later world. -/
namespace Go.Proofs.YtoamkpgaaanafaaGreat
set_option linter.unusedSimpArgs false
set_option linter.unusedVariables false
set_option linter.unnecessarySimpa false
open Go.RowKit
open Classical in
noncomputable def freshI (I0 Φ:Imm) (ω:Nat→Option Who):Imm:=fun b o=>if ∃p,ω b=some p then I0 b o else Φ b o
theorem freshI_eq {I0 Φ:Imm} {ω:Nat→Option Who} {b o:Nat} (h:∀p,ω b≠some p):freshI I0 Φ ω b o=Φ b o:=by
 unfold freshI
 rw [if_neg]
 rintro ⟨p,e⟩
 exact h p e
theorem freshI_own {I0 Φ:Imm} {ω:Nat→Option Who} {b o:Nat} (h:∃p,ω b=some p):freshI I0 Φ ω b o=I0 b o:=by
 unfold freshI
 rw [if_pos h]
section
variable {Φ0:Ent} {W:World} {M:Nat} {Φ:Imm} {μ:Nat→Option Nat} {ω:Nat→Option Who} {σ:PS} {a:Act} {w:World} {P:Program}
theorem RelG.freshSub (h:RelG Φ0 W M Φ μ ω σ a w) {b o:Nat} {u:Value} (e:freshI Φ0.imm Φ ω b o=some u):Φ b o=some u:=by
 unfold freshI at e
 split at e
 ·exact (h.ext b o u e).1
 ·exact e
theorem RelG.freshGlob (h:RelG Φ0 W M Φ μ ω σ a w):GlobOK (freshI Φ0.imm Φ ω):=by
 intro x hx j z e
 unfold freshI
 split
 ·exact Φ0.glob x hx j z e
 ·exact h.glob x hx j z e
theorem RelG.freshMix (h:RelG Φ0 W M Φ μ ω σ a w) {g:Nat} (hg:∃p,ω g=some p):Mix (freshI Φ0.imm Φ ω) g:=by
 have hm:Mix Φ0.imm g:=by
  obtain ⟨p,e⟩:=hg
  rcases h.mine g p e with h' | h'
  ·intro o u e'; have:=(h.ext g o u e').2;omega
  ·exact Φ0.fl g h'
 intro o u e
 rw [freshI_own hg] at e
 obtain ⟨o',u',e1,e2⟩:=hm o u e
 exact ⟨o',u',by rw [freshI_own hg];exact e1,e2⟩
noncomputable def RelG.freshE (h:RelG Φ0 W M Φ μ ω σ a w) (mu:Nat→Option Nat):Ent:=
 ⟨freshI Φ0.imm Φ ω,fun g=>∃p,ω g=some p,mu,h.freshGlob,fun _ hg=>h.freshMix hg,Φ0.marks,Φ0.round⟩
theorem RelG.rebase (h:RelG Φ0 W M Φ μ ω σ a w) {Φ1:Ent} {W1:World} (hb:Kept (Old Φ1 W1) W1 w) (hd:a.defers=Φ1.marks.map collD∧RndOK Φ1 W1) (ho:∀b o,Old Φ1 W1 b→Φ b o=Φ1.imm b o)
  (hg:∀id g,Φ1.mu id=some g→1000000≤id) (hk:∀id g,Φ1.mu id=some g→(σ.b id≠none∨σ.m id≠none)→μ id=some g) (he:∀b o u,Φ1.imm b o=some u→Φ b o=some u∧b < W1.heap.size) (hm:∀g p,ω g=some p→Mine Φ1 W1 g):RelG Φ1 W1 M Φ μ ω σ a w:=
 ⟨hb,hd,h.size,h.imm,ho,h.tmps,fun t n k cs E e=>(h.own t n k cs E e).inB (fun g e=>hm g _ e),fun id bs e=>(h.box id bs e).inB (fun g q _ e=>hm g q e),h.gone,h.lt,hg,hk,he,fun id X e=>(h.map id X e).inB (fun g q _ e=>hm g q e),hm⟩
theorem RelG.noOld (h:RelG Φ0 W M Φ μ ω σ a w) {b:Nat} (hb:Old Φ0 W b):∀p,ω b≠some p:=fun p e=>(h.mine b p e).ne hb rfl
theorem RelG.rnd (h:RelG Φ0 W M Φ μ ω σ a w) {l:Nat} (e:Φ0.round=some l):l < w.heap.size∧(∀p,ω l≠some p)∧∃r,w.heap[l]? = some (.loop r):=by
 obtain ⟨h1,r,h2⟩:=h.defers.2 l e
 exact ⟨Nat.lt_of_lt_of_le h1.1 h.below.size,h.noOld h1,r,(h.below.block l h1).trans h2⟩
theorem RelG.fresh0 (h:RelG Φ0 W M Φ μ ω σ a w) {mu:Nat→Option Nat} (hg:∀id g,mu id=some g→1000000≤id) (hk:∀id g,mu id=some g→(σ.b id≠none∨σ.m id≠none)→μ id=some g):RelG (h.freshE mu) w M Φ μ ω σ a w:=by
 refine h.rebase (Kept.refl _ _) ⟨h.defers.1,fun l e=>?_⟩ (fun b o hb=>(freshI_eq fun p e=>hb.2 ⟨p,e⟩).symm) hg hk (fun b o u e=>⟨h.freshSub e,RelG.fresh h (h.freshSub e)⟩) (fun g p e=>.inr ⟨p,e⟩)
 obtain ⟨h1,h2,h3⟩:=h.rnd e
 exact ⟨⟨h1,fun ⟨p,hp⟩=>h2 p hp⟩,h3⟩
structure Since (Φ:Imm) (ω:Nat→Option Who) (w:World) (Φ' : Imm) (ω' : Nat→Option Who) (w' : World):Prop where
 kept:Kept (fun b=>b < w.heap.size∧∀p,ω b≠some p) w w'
 own:∀g p,ω' g=some p→(∃q,ω g=some q)∨w.heap.size≤g
 imm:∀b o,b < w.heap.size→(∀p,ω b≠some p)→Φ' b o=Φ b o
theorem RelG.since (h:RelG Φ0 W M Φ μ ω σ a w) {mu:Nat→Option Nat} {Φ2:Ent} {W2:World} (hl:Later (h.freshE mu) w Φ2 W2) {M' : Nat} {Φ' : Imm} {μ' : Nat→Option Nat} {ω' : Nat→Option Who} {σ' : PS} {a' : Act} {w' : World} (k:RelG Φ2 W2 M' Φ' μ' ω' σ' a' w'):Since Φ ω w Φ' ω' w':=by
 have hold:∀b,b < w.heap.size→(∀p,ω b≠some p)→Old (h.freshE mu) w b:=fun b h1 h2=>⟨h1,fun ⟨p,e⟩=>h2 p e⟩
 refine ⟨(hl.kept.trans (k.below.mono hl.old)).mono fun b hb=>hold b hb.1 hb.2,fun g p e=>?_,fun b o h1 h2=>?_⟩
 ·rcases hl.mine g (k.mine g p e) with h|h
  ·exact .inr h
  ·exact .inl h
 ·rw [k.old b o (hl.old b (hold b h1 h2)),hl.imm]
  exact freshI_eq h2
theorem RelG.unfresh (h:RelG Φ0 W M Φ μ ω σ a w) {Φ2:Ent} {W2:World} (hl:Later (h.freshE Φ0.mu) w Φ2 W2) {Φ' : Imm} {μ' : Nat→Option Nat} {ω' : Nat→Option Who} {σ' : PS} {a' : Act} {w' : World} (k:RelG Φ2 W2 M Φ' μ' ω' σ' a' w') :
  ∃Φ3 W3,Later Φ0 W Φ3 W3∧Φ3.marks=Φ2.marks∧RelG Φ3 W3 M Φ' μ' ω' σ' a' w':=by
 have hs:=h.since hl k
 obtain ⟨ms,e1,n1,h1⟩:=hl.marks
 have hsz:w.heap.size≤W2.heap.size:=hl.kept.size
 have hWw:=h.below.size
 have hext:∀b o u,Φ0.imm b o=some u→b < W.heap.size:=fun b o u e=>(h.ext b o u e).2
 have hmine2:∀g,Mine Φ2 W2 g→Mine Φ0 W g:=fun g hg=>by
  rcases hl.mine g hg with h' | ⟨p,h'⟩
  ·exact .inl (Nat.le_trans hWw h')
  ·exact h.mine g p h'
 let Φ3:Ent:=⟨Φ0.imm,fun g=>Mine Φ0 W g∧g < W2.heap.size∧g∉ms,Φ0.mu,Φ0.glob,fun g hg=>by
  rcases hg.1 with h' | h'
  ·intro o u e;have:=hext g o u e;omega
  ·exact Φ0.fl g h',Φ2.marks,Φ0.round⟩
 have holdc:∀b,Old Φ3 W2 b→Old Φ0 W b∨b∈ms:=by
  rintro b ⟨hb1,hb2⟩
  by_cases hm:b∈ms
  ·exact .inr hm
  ·left
   by_cases hmi:Mine Φ0 W b
   ·exact absurd ⟨hmi,hb1,hm⟩ hb2
   ·exact ⟨Nat.lt_of_not_le fun hh=>hmi (.inl hh),fun hh=>hmi (.inr hh)⟩
 have hold0:∀b,Old Φ0 W b→b < w.heap.size∧∀p,ω b≠some p:=fun b hb=>⟨Nat.lt_of_lt_of_le hb.1 hWw,h.noOld hb⟩
 have hold3:∀b,Old Φ0 W b→Old Φ3 W2 b:=fun b hb=>⟨Nat.lt_of_lt_of_le (hold0 b hb).1 hsz,fun hh=>hh.1.ne hb rfl⟩
 have holdf:∀b,Old Φ0 W b→Old Φ2 W2 b:=fun b hb=>hl.old b ⟨(hold0 b hb).1,fun ⟨p,e⟩=>(hold0 b hb).2 p e⟩
 have hkW2:Kept (Old Φ0 W) W W2:=h.below.trans (hl.kept.mono fun b hb=>⟨(hold0 b hb).1,fun ⟨p,e⟩=>(hold0 b hb).2 p e⟩)
 have hms:∀m∈ms,Old Φ3 W2 m:=fun m hm=>⟨(h1 m hm).2.1.1,fun hh=>hh.2.2 hm⟩
 have hlat:Later Φ0 W Φ3 W2:=by
  refine ⟨rfl,rfl,rfl,hkW2,hold3,fun g hg=>?_,fun b hb=>(holdc b hb).imp id (fun h=>by show b∈Φ2.marks;rw [e1];exact List.mem_append.2 (.inl h)),fun _=>hext,ms,e1,n1,fun m hm=>⟨Nat.le_trans hWw (h1 m hm).1,hms m hm,(h1 m hm).2.2⟩⟩
  rcases hg with h' | h'
  ·exact .inl (Nat.le_trans hkW2.size h')
  ·exact h'.1
 refine ⟨Φ3,W2,hlat,rfl,k.rebase (k.below.mono fun b hb=>?_) ⟨k.defers.1,fun l e=>?_⟩ (fun b o hb=>?_) h.gmu (fun i g e hi=>?_) (fun b o u e=>?_) (fun g p e=>?_)⟩
 ·rcases holdc b hb with h' | h'
  ·exact holdf b h'
  ·exact (h1 b h').2.1
 ·obtain ⟨q1,r,q2⟩:=h.defers.2 l e
  exact ⟨hold3 l q1,r,(hkW2.block l q1).trans q2⟩
 ·rcases holdc b hb with h' | h'
  ·rw [hs.imm b o (hold0 b h').1 (hold0 b h').2]
   exact h.old b o h'
  ·have e1:Φ' b o=none:=by
    cases hh:Φ' b o with
    |none=>rfl
    |some u=>
     have:=k.imm b o u hh
     have hd:=(k.below.block b (h1 b h').2.1).trans (h1 b h').2.2
     simp only [World.cell?,hd] at this
     cases this
   have e2:Φ0.imm b o=none:=by
    cases hh:Φ0.imm b o with
    |none=>rfl
    |some u=>have:=hext b o u hh;have:=(h1 b h').1;omega
   show _=Φ0.imm b o
   rw [e1,e2]
 ·exact k.kmu i g (by rw [hl.mu];exact e) hi
 ·have h3:=h.ext b o u e
  refine ⟨?_,Nat.lt_of_lt_of_le h3.2 hkW2.size⟩
  by_cases hω:∃p,ω b=some p
  ·refine (k.ext b o u ?_).1
   rw [hl.imm]
   exact (freshI_own hω).trans e
  ·rw [hs.imm b o (Nat.lt_of_lt_of_le h3.2 hWw) (fun p e=>hω ⟨p,e⟩)]
   exact h3.1
 ·have hm:=k.mine g p e
  by_cases hlt:g < W2.heap.size
  ·refine .inr ⟨hmine2 g hm,hlt,fun hh=>?_⟩
   exact hm.ne (h1 g hh).2.1 rfl
  ·exact .inl (Nat.le_of_not_lt hlt)
end
end Go.Proofs.YtoamkpgaaanafaaGreat

/- Pure walks: iterators. -/
namespace Go.Proofs.YtoamkpgaaanafaaGreat
set_option linter.unusedSimpArgs false
set_option linter.unusedVariables false
set_option linter.unnecessarySimpa false
open Go.RowKit
abbrev Come:=Option (List (List PV))
noncomputable def offI (Φ:Imm) (ω:Nat→Option Who):Imm:=freshI (fun _ _=>none) Φ ω
theorem offI_some {Φ:Imm} {ω:Nat→Option Who} {b o:Nat} {u:Value} : offI Φ ω b o=some u↔(∀p,ω b≠some p)∧Φ b o=some u:=by
 unfold offI
 constructor
 ·intro h
  by_cases hh:∃p,ω b=some p
  ·rw [freshI_own hh] at h;cases h
  ·have:∀p,ω b≠some p:=fun p e=>hh ⟨p,e⟩
   rw [freshI_eq this] at h
   exact ⟨this,h⟩
 ·rintro ⟨h1,h2⟩
  rw [freshI_eq h1];exact h2
structure ItEnv where
 J:Come→(Nat→Prop)→Imm→World→Prop
 step:∀{κ:Come} {I I' : Nat→Prop} {K K' : Imm} {w w' : World},J κ I K w→Kept (fun b=>b < w.heap.size∧¬I b) w w'→(∀g,I' g→I g∨w.heap.size≤g)→(∀b o u,K b o=some u→I b→K' b o=some u)→(∀b o u,K' b o=some u→w'.cell? ⟨b,o,none⟩=some u)→J κ I' K' w'
def YOK (P:Program) (E:ItEnv) (l:Nat) (A:List (List PV)→Prop) (Φe:Imm) (B0:Nat):Prop:=
 ∀(pre:List (List PV)) (x:List PV) (I:Nat→Prop) (K:Imm) (w1:World) (vs:List Value),A (pre ++ [x])→E.J (some pre) I K w1→(∀g,I g→B0≤g∧g < w1.heap.size)→(∀b o u,K b o=some u→w1.cell? ⟨b,o,none⟩=some u)→(∀b o,b < B0→K b o=Φe b o)→(∀b o u,B0≤b→K b o=some u→I b) →
  GlobOK K→RepL K mu0 x vs→YieldAt (FW none) 0 P l vs.toArray w1 fun e w2=>∃b:Bool,e = .returned (.bool b)∧E.J (if b then some (pre ++ [x]) else none) I K w2∧Kept (fun g=>I g∨(g < B0∧¬Mix Φe g)) w1 w2∧(∀b o u,K b o=some u→w2.cell? ⟨b,o,none⟩=some u)
def ItSpec (P:Program) (f:FuncId) (caps:List PV) (A S:List (List PV)→Prop):Prop:=
 callB P f=true∧∀(E:ItEnv) (l:Nat) (Φe:Imm) (w:World) (vs:List Value),(∀b o u,Φe b o=some u→w.cell? ⟨b,o,none⟩=some u)→GlobOK Φe→RepL Φe mu0 caps vs→YOK P E l A Φe w.heap.size→E.J (some []) (fun _=>False) Φe w →
  Calls P f (#[.func (.yield l) #[] #[]] ++ vs.toArray) w fun e w' => ∃v κ K,e = .returned v∧(∀xs,κ=some xs→S xs)∧E.J κ (fun _=>False) K w'
def RelJ (E:ItEnv) (Φ0:Ent) (W:World) (M:Nat) (κ:Come) (σ:PS) (a:Act) (w:World):Prop:=
 ∃Φ1 W1 Φ μ ω I,Later Φ0 W Φ1 W1∧RelG Φ1 W1 M Φ μ ω σ a w∧E.J κ I (offI Φ ω) w∧(∀g,I g→W.heap.size≤g∧g < w.heap.size)∧(∀g p,ω g=some p→I g)∧(∀b o u,W.heap.size≤b→Φ b o=some u→I b)∧(∀b o,b < W.heap.size→Φ b o=Φ0.imm b o)∧(∀m∈Φ1.marks,I m)
section
variable {E:ItEnv} {Φ0:Ent} {W:World} {M:Nat} {κ:Come} {σ:PS} {a:Act} {w:World} {P:Program} {T:Tab}
theorem RelJ.go (h:RelJ E Φ0 W M κ σ a w):∃Φf:Ent,Φf.round=Φ0.round∧Rel Φf w M σ a w∧∀Φ2 W2 σ' a' w',Later Φf w Φ2 W2→Rel Φ2 W2 M σ' a' w'→RelJ E Φ0 W M κ σ' a' w':=by
 obtain ⟨Φ1,W1,Φ,μ,ω,I,hl,hg,hJ,h1,h2,h3,h4,h5⟩:=h
 refine ⟨hg.freshE Φ1.mu,hl.round,⟨Φ,μ,ω,hg.fresh0 hg.gmu hg.kmu⟩,?_⟩
 rintro Φ2 W2 σ' a' w' hl2 ⟨Φ',μ',ω',k⟩
 have hs:=hg.since hl2 k
 obtain ⟨Φ3,W3,hl3,em,k3⟩:=hg.unfresh hl2 k
 have hWw:W.heap.size≤w.heap.size:=Nat.le_trans hl.kept.size hg.below.size
 have hww:w.heap.size≤w'.heap.size:=hs.kept.size
 have hωn:∀b,b < W.heap.size→∀p,ω b≠some p:=fun b hb p e=>by have:=(h1 b (h2 b p e)).1;omega
 refine ⟨Φ3,W3,Φ',μ',ω',fun g=>I g∨(w.heap.size≤g∧g < w'.heap.size),hl.trans hl3,k3,?_,fun g hg' => ?_,fun g p e=>?_,fun b o u hb e=>?_,fun b o hb=>?_,fun m hm=>?_⟩
 ·refine E.step hJ (hs.kept.mono fun b hb=>⟨hb.1,fun p e=>hb.2 (h2 b p e)⟩) (fun g hg' => hg'.imp id (fun h=>h.1)) (fun b o u e hI=>?_) (fun b o u e=>k.imm b o u (offI_some.1 e).2)
  obtain ⟨e1,e2⟩:=offI_some.1 e
  have hb:=(h1 b hI).2
  refine offI_some.2 ⟨fun p ep=>?_,by rw [hs.imm b o hb e1];exact e2⟩
  rcases hs.own b p ep with ⟨q,hq⟩|hq
  ·exact e1 q hq
  ·omega
 ·rcases hg' with h' | h'
  ·exact ⟨(h1 g h').1,Nat.lt_of_lt_of_le (h1 g h').2 hww⟩
  ·exact ⟨Nat.le_trans hWw h'.1,h'.2⟩
 ·rcases hs.own g p e with ⟨q,hq⟩|hq
  ·exact .inl (h2 g q hq)
  ·exact .inr ⟨hq,k.lt g p e⟩
 ·by_cases hlt:b < w.heap.size
  ·left
   by_cases hω:∃p,ω b=some p
   ·obtain ⟨p,hp⟩:=hω;exact h2 b p hp
   ·rw [hs.imm b o hlt (fun p e=>hω ⟨p,e⟩)] at e
    exact h3 b o u hb e
  ·exact .inr ⟨Nat.le_of_not_lt hlt,RelG.fresh k e⟩
 ·rw [hs.imm b o (Nat.lt_of_lt_of_le hb hWw) (hωn b hb)]
  exact h4 b o hb
 ·rw [em] at hm
  obtain ⟨ms,e1,-,k1⟩:=hl2.marks
  rw [e1] at hm
  rcases List.mem_append.1 hm with hm|hm
  ·exact .inr ⟨(k1 m hm).1,Nat.lt_of_lt_of_le (k1 m hm).2.1.1 k.below.size⟩
  ·exact .inl (h5 m hm)
theorem RelJ.sub {σ' : PS} (h:RelJ E Φ0 W M κ σ a w) (hs:Sub M σ σ'):RelJ E Φ0 W M κ σ' a w:=by
 obtain ⟨Φf,-,hr,k⟩:=h.go
 exact k Φf w σ' a w (Later.refl _ _) (hs _ _ _ _ hr)
theorem RelJ.ev (h:RelJ E Φ0 W M κ σ a w) {c:Operand} {v:Value} (hc:pev σ c = .val v):a.eval c=v:=by
 obtain ⟨Φ1,W1,Φ,μ,ω,I,hl,hg,-⟩:=h
 have:=hg.ev c
 rw [hc] at this
 exact this.val_inv.1
def PWJ (E:ItEnv) (Φ0:Ent) (W:World) (P:Program) (M:Nat) (c:Code) (Q:Exit→PS→Come→Prop) (σ:PS) (κ:Come):Prop:=
 ∀a w,RelJ E Φ0 W M κ σ a w→c.wpIn (FW Φ0.round) 0 P (fun e a' w' => ∃σ' κ',Q e σ' κ'∧RelJ E Φ0 W M κ' σ' a' w') a w
variable {Q:Exit→PS→Come→Prop}
theorem PWJ.of_pw {c:Code} (h:PW P M c (fun e σ' => Q e σ' κ) σ):PWJ E Φ0 W P M c Q σ κ:=by
 intro a w hr
 obtain ⟨Φf,e1,hr',k⟩:=hr.go
 have:=h Φf w a w hr'
 rw [e1] at this
 exact wpIn_mono this fun e a' w' ⟨σ',Φ2,W2,hq,hl,hr2⟩=>⟨σ',κ,hq,k Φ2 W2 σ' a' w' hl hr2⟩
theorem PWJ.sub {c:Code} {σ' : PS} (h:PWJ E Φ0 W P M c Q σ' κ) (hs:Sub M σ σ'):PWJ E Φ0 W P M c Q σ κ:=fun a w hr=>h a w (hr.sub hs)
def ThenJ (E:ItEnv) (Φ0:Ent) (W:World) (P:Program) (M:Nat) (y:Code) (Q:Exit→PS→Come→Prop):Exit→PS→Come→Prop
 | .normal,σ,κ=>PWJ E Φ0 W P M y Q σ κ
 |e,σ,κ=>Q e σ κ
theorem PWJ.seq {x y:Code} (h:PWJ E Φ0 W P M x (ThenJ E Φ0 W P M y Q) σ κ):PWJ E Φ0 W P M (.seq x y) Q σ κ:=by
 intro a w hr
 refine wpIn_seq (wpIn_mono (h a w hr) ?_)
 rintro e a' w' ⟨σ',κ',hq,hr'⟩
 cases e with
 |normal=>exact hq a' w' hr'
 |_=>exact ⟨σ',κ',hq,hr'⟩
def BlockJ (id:Nat) (Q:Exit→PS→Come→Prop):Exit→PS→Come→Prop
 | .exit i,σ,κ=>if i=id then Q .normal σ κ else Q (.exit i) σ κ
 |e,σ,κ=>Q e σ κ
theorem PWJ.block {id:Nat} {c:Code} (h:PWJ E Φ0 W P M c (BlockJ id Q) σ κ):PWJ E Φ0 W P M (.block id c) Q σ κ:=by
 intro a w hr
 refine wpIn_block (wpIn_mono (h a w hr) ?_)
 rintro e a' w' ⟨σ',κ',h1,h2⟩
 cases e with
 |exit i=>
  simp only [BlockJ] at h1
  simp only [Exit.inBlock]
  split at h1
  ·rename_i e;simp only [e,if_true];exact ⟨σ',κ',h1,h2⟩
  ·rename_i e;simp only [e,if_false];exact ⟨σ',κ',h1,h2⟩
 |_=>exact ⟨σ',κ',h1,h2⟩
theorem PWJ.cond {c:Operand} {x y:Code} {b:Bool} (hc:pev σ c = .val (.bool b)) (h:PWJ E Φ0 W P M (if b then x else y) Q σ κ):PWJ E Φ0 W P M (.cond c x y) Q σ κ:=
 fun a w hr=>wpIn_cond (hr.ev hc) (h a w hr)
theorem PWJ.skip (h:Q .normal σ κ):PWJ E Φ0 W P M .skip Q σ κ:=PWJ.of_pw (PW.skip h)
theorem PWJ.ret (h:Q .ret σ κ):PWJ E Φ0 W P M .ret Q σ κ:=PWJ.of_pw (PW.ret h)
theorem PWJ.exit {i:Nat} (h:Q (.exit i) σ κ):PWJ E Φ0 W P M (.exit i) Q σ κ:=PWJ.of_pw (PW.exit h)
def LoopJ {α:Type} (M:Nat) (st:α→PS) (kf:α→Come) (I:α→Prop) (m:α→Nat) (x:α) (Q:Exit→PS→Come→Prop):Exit→PS→Come→Prop
 | .normal,σ,κ=>∃y,I y∧m y < m x∧Sub M σ (st y)∧κ=kf y
 |e,σ,κ=>Q e σ κ
theorem PWJ.loop {α:Type} {c:Code} (st:α→PS) (kf:α→Come) (I:α→Prop) (m:α→Nat) (x0:α) (hi:I x0) (h0:Sub M σ (st x0)) (hk:κ=kf x0) (round:∀x,I x→PWJ E Φ0 W P M c (LoopJ M st kf I m x Q) (st x) (kf x)):PWJ E Φ0 W P M (.loop c) Q σ κ:=by
 intro a w hr b k cs hro hb hroom
 have key:∀n x a w,m x=n→I x→RelJ E Φ0 W M (kf x) (st x) a w→∃e a' w',(∃σ' κ',Q e σ' κ'∧RelJ E Φ0 W M κ' σ' a' w')∧ArrivesIn (Machine.fenced P (FW Φ0.round)) P (lone (b.atR a (.code c :: .inLoop c :: k)) cs w) b k cs e a' w':=by
  intro n
  induction n using Nat.strongRecOn with
  |_ n ih=>
   intro x a w hn hi' hI
   obtain ⟨e,a₁,w₁,⟨σ₁,κ₁,hq,hrel⟩,harr⟩:=round x hi' a w hI b (.inLoop c :: k) cs hro hb hroom
   cases e with
   |normal=>
    obtain ⟨y,hy,hlt,hsub,rfl⟩:=hq
    obtain ⟨e₂,a₂,w₂,hq₂,harr₂⟩:=ih (m y) (hn ▸ hlt) y a₁ w₁ rfl hy (hrel.sub hsub)
    exact ⟨e₂,a₂,w₂,hq₂, .of_steps (StepsIn.trans harr (.one (fenced_calm hb hroom rfl) stepR_inLoop)) harr₂⟩
   |exit id=>exact ⟨_,a₁,w₁,⟨σ₁,κ₁,hq,hrel⟩, .pass (x:=.inLoop c) rfl (fun _ _=>.inl (by simp)) harr⟩
   |goto l=>exact ⟨_,a₁,w₁,⟨σ₁,κ₁,hq,hrel⟩, .pass (x:=.inLoop c) rfl (fun _ _=>.inl (by simp)) harr⟩
   |ret=>exact ⟨_,a₁,w₁,⟨σ₁,κ₁,hq,hrel⟩, .pass (x:=.inLoop c) rfl (fun _ _=>.inl (by simp)) harr⟩
   |panic ch=>exact ⟨_,a₁,w₁,⟨σ₁,κ₁,hq,hrel⟩, .pass (x:=.inLoop c) rfl (fun _ _=>.inl (by simp)) harr⟩
   |outgrown=>exact ⟨_,a₁,w₁,⟨σ₁,κ₁,hq,hrel⟩, .pass (x:=.inLoop c) rfl (fun _ _=>.inl (by simp)) harr⟩
 subst hk
 obtain ⟨e,a',w',hq,harr⟩:=key _ x0 a w rfl hi (hr.sub h0)
 exact ⟨e,a',w',hq, .of_steps (.one (fenced_calm hb hroom rfl) stepR_loop) harr⟩
structure YAt (l:Nat) (A:List (List PV)→Prop) (M:Nat) (pre:List (List PV)) (x:List PV) (o:Oper) (d:Nat) (σ:PS):Prop where
 dst:o.dst=some d
 lt:d < M
 op:∃c y,o.op = .call c∧c.callee = .value y∧pev σ y = .val (.func (.yield l) #[] #[])∧c.args.toList.map (pev σ)=x
 guard:o.guard=none
 low:∀p∈x,Low p
 here:A (pre ++ [x])
 box:∀id bs,σ.b id=some bs→∀c∈bs,c.ownB=false
 map:∀id es c,σ.m id=some (.map es c)→∀e∈es,e.2.2.ownB=false
def ybehind (σ:PS) (d:Nat) (b:Bool):PS:={ t:=upd (fun t=>(σ.t t).bare) d (.val (.bool b)),b:=σ.b,m:=σ.m }
theorem run_ycall {l:Nat} {o:Oper} {c:Call} {y:Operand} (hop:o.op = .call c) (hcal:c.callee = .value y) (hv:a.eval y = .func (.yield l) #[] #[]):(execOp a.eval o).run P w=(Instr.yield l (c.args.toList.map a.eval).toArray).run P w:=by
 have e:(#[]:Array Value) ++ c.args.map a.eval=(c.args.toList.map a.eval).toArray:=by
  apply Array.ext'
  simp
 simp only [execOp,hop,resolve,hcal,hv,Deferred.ofValue,Sem.run_bind,Sem.run_pure,Result.andThen_ok,invoke]
 rw [e]
open Classical in
theorem yield_sound {l d:Nat} {A:List (List PV)→Prop} {pre:List (List PV)} {x:List PV} {o:Oper} (hgiv:∀b,Old Φ0 W b→¬Mix Φ0.imm b) (hy:YOK P E l A Φ0.imm W.heap.size) (hr:Φ0.round=none) (h:RelJ E Φ0 W M (some pre) σ a w) (ha:YAt l A M pre x o d σ)
  {K:Act→World→Prop} {Q' : Exit→Act→World→Prop} (hK:∀(b:Bool) a' w',RelJ E Φ0 W M (if b then some (pre ++ [x]) else none) (ybehind σ d b) a' w'→K a' w'):o.wpIn (FW Φ0.round) 0 P a w K Q':=by
 obtain ⟨Φ1,W1,Φ,μ,ω,I,hl,hg0,hJ,h1,h2,h3,h4,h5⟩:=h
 obtain ⟨c,y,hop,hcal,hyv,hargs⟩:=ha.op
 -- the marks of one's own are given away
 let σ1:PS:={ σ with t:=fun t=>(σ.t t).bare }
 have hg1:RelG Φ1 W1 M Φ μ ω σ1 a w:=hg0.forget _ (fun t=>.inr (.inr (.inl rfl)))
 let ω1:Nat→Option Who:=fun g=>if ∃i,ω g=some (.box i)∧μ i=some g∧(σ.b i≠none∨σ.m i≠none) then ω g else none
 have hω1:∀i g,ω g=some (.box i)→μ i=some g→(σ.b i≠none∨σ.m i≠none)→ω1 g=some (.box i):=fun i g e1 e2 e3=>by
  show (if _ then _ else _)=_
  rw [if_pos ⟨i,e1,e2,e3⟩];exact e1
 have hω2:∀g p,ω1 g=some p→ω g=some p∧∃i,ω g=some (.box i)∧μ i=some g∧(σ.b i≠none∨σ.m i≠none):=by
  intro g p e
  have e' : (if ∃i,ω g=some (.box i)∧μ i=some g∧(σ.b i≠none∨σ.m i≠none) then ω g else none)=some p:=e
  split at e'
  ·rename_i hh;exact ⟨e',hh⟩
  ·cases e'
 have hno1:∀t n k cs E',σ1.t t≠.sl n k cs (some E'):=by
  intro t n k cs E' e
  have h':=PV.bare_own (σ.t t)
  have e' : (σ.t t).bare = .sl n k cs (some E'):=e
  rw [e'] at h'
  simp [PV.ownB] at h'
 have hg:RelG Φ1 W1 M Φ μ ω1 σ1 a w:=by
  refine ⟨hg1.below,hg1.defers,hg1.size,hg1.imm,hg1.old,hg1.tmps,fun t n k cs E' e=>absurd e (hno1 t n k cs E'),fun id bs e=>?_,hg1.gone,fun g p e=>hg1.lt g p (hω2 g p e).1,hg1.gmu,hg1.kmu,hg1.ext,fun id X e=>?_,fun g p e=>hg1.mine g p (hω2 g p e).1⟩
  ·obtain ⟨g,cur,Ty,k1,k2,k3,k4,k5,k6,k7⟩:=hg1.box id bs e
   refine ⟨g,cur,Ty,k1,k2,k3,hω1 id g k4 k1 (.inl (by have e' : σ.b id=some bs:=e;rw [e'];simp)),k5,k6,fun j c' hc=>?_⟩
   obtain ⟨u,r1,r2,r3,-⟩:=k7 j c' hc
   refine ⟨u,r1,r2,r3,fun n k cs E' e' => ?_⟩
   have:=ha.box id bs e c' (mem_of_get hc)
   rw [e'] at this
   simp [PV.ownB] at this
  ·obtain ⟨g,k1,k2,k3,k4,k5⟩:=hg1.map id X e
   refine ⟨g,k1,k2,hω1 id g k3 k1 (.inr (by have e' : σ.m id=some X:=e;rw [e'];simp)),k4,?_⟩
   cases X with
   |map es clock=>
    obtain ⟨e0,ents,e1,e2,e3⟩:=k5
    refine ⟨e0,ents,e1,e2,fun j s k c' hj=>?_⟩
    obtain ⟨en,f1,f2,f3,f4,-⟩:=e3 j s k c' hj
    refine ⟨en,f1,f2,f3,f4,fun n kk cs E' ec=>?_⟩
    have:=ha.map id es clock e _ (mem_of_get hj)
    simp only [ec] at this
    simp [PV.ownB] at this
   |iter=>exact k5
 have hoff:∀g p,ω1 g=some p→∀j,Φ g j=none:=by
  intro g p e j
  obtain ⟨-,i,e1,e2,e3⟩:=hω2 g p e
  rcases e3 with e3|e3
  ·obtain ⟨bs,hbs⟩:=Option.ne_none_iff_exists'.1 e3
   obtain ⟨g',cur,Ty,k1,k2,k3,k4,k5,-⟩:=hg1.box i bs hbs
   rw [e2] at k1;cases k1
   exact k5 j
  ·obtain ⟨X,hX⟩:=Option.ne_none_iff_exists'.1 e3
   obtain ⟨g',k1,k2,k3,k4,-⟩:=hg1.map i X hX
   rw [e2] at k1;cases k1
   exact k4 j
 have hoffI:offI Φ ω1=Φ:=by
  funext b o'
  by_cases hh:∃p,ω1 b=some p
  ·obtain ⟨p,hp⟩:=hh
   rw [hoff b p hp o']
   exact freshI_own ⟨p,hp⟩
  ·exact freshI_eq fun p e=>hh ⟨p,e⟩
 have hJ1:E.J (some pre) I Φ w:=E.step hJ (Kept.refl _ _) (fun g hg' => .inl hg') (fun b o' u e _=>(offI_some.1 e).2) hg.imm
 have hrep:RepL Φ mu0 x (c.args.toList.map a.eval):=by
  refine ⟨by rw [←hargs];simp,fun j p u hp hu=>?_⟩
  have hl':=ha.low p (mem_of_get hp)
  rw [←hargs,List.getElem?_map] at hp
  rw [List.getElem?_map] at hu
  cases hj:c.args.toList[j]? with
  |none=>rw [hj] at hp;cases hp
  |some z=>
   rw [hj] at hp hu
   cases hp;cases hu
   exact (hg0.ev z).low hl'
 have hglob:GlobOK Φ:=hg.glob
 obtain ⟨fn,tmps,assign,body,hrun,hround⟩:=hy pre x I Φ w _ ha.here hJ1 h1 hg.imm h4 h3 hglob hrep
 have hvy:a.eval y = .func (.yield l) #[] #[]:=by
  have:=hg0.ev y
  rw [hyv] at this
  exact this.val_inv.1
 unfold Oper.wpIn
 refine ⟨fun _ _=>trivial,?_⟩
 rw [Oper.semAt_eq _ _ _ (fun c' e=>by rw [hop] at e;cases e),run_ycall hop hcal hvy,hrun]
 refine ⟨(fun e=>by cases e),?_⟩
 rw [hr]
 refine hround.mono ?_
 rintro e w2 ⟨b,rfl,hJ2,hk2,him2⟩
 simp only
 have hWw:W.heap.size≤w.heap.size:=Nat.le_trans hl.kept.size hg.below.size
 have hg2:RelG Φ1 W1 M Φ μ ω1 σ1 a w2:=by
  refine hg.grow (hg.below.trans (hk2.mono fun g hg' => ?_)) him2 (fun _ _ _=>rfl) (fun _ _ _ e=>e) (fun g p e=>⟨hk2.block g (.inl (h2 g p (hω2 g p e).1)),fun _=>rfl⟩) hk2.size
  rcases hl.only g hg' with h' | h'
  ·exact .inr ⟨h'.1,hgiv g h'⟩
  ·exact .inl (h5 g h')
 have hg3:=hg2.put (d:=d) ha.lt (p:=.val (.bool b)) (v:=.bool b) (.val _ rfl) rfl
 rw [ha.dst]
 refine hK b _ _ ⟨Φ1,W1,Φ,μ,ω1,I,hl,hg3,by rw [hoffI];exact hJ2,fun g hg' => ⟨(h1 g hg').1,Nat.lt_of_lt_of_le (h1 g hg').2 hk2.size⟩,fun g p e=>h2 g p (hω2 g p e).1,h3,h4,h5⟩
end
section
variable {M:Nat} {P:Program} {T:Tab} {ops:List Oper} {base:Nat}
theorem any_soundR {R:PS→Act→World→Prop} (hR:∀σ a w,R σ a w→∃Φ0 W,Rel Φ0 W M σ a w∧∀σ' a' w',Rel Φ0 W M σ' a' w'→R σ' a' w') (hT:T=tabOf P) (hbase:base+ops.toArray.size≤1000000) (hall:∀(j:Nat) o,ops.toArray[j]? = some o→dstB M o=true) (hdraw:drawB ops=true) {Q:PS→Prop} {Q' : Exit→Act→World→Prop} (hQ:∀σ a w,Q σ→R σ a w→Q' .normal a w) {r:Option Nat} :
  ∀(fuel:Nat) (listed:Array Bool) (σ:PS) (a:Act) (w:World),unlisted listed≤fuel→listed.size=ops.length→(∀(i:Nat) o,ops[i]? = some o→listed.getD i false=true→∀j,depO o j=true→listed.getD j false=true) →
   PWops P T ops.toArray base (okR ops base) ((indexed 0 ops).filter fun x => !listed.getD x.1 false) Q σ→R σ a w→wpAnyIn (FW r) 0 P .any ops.toArray Q' fuel listed a w:=by
 obtain ⟨hE,hI⟩:=draw_parts hdraw
 have hsz:∀listed:Array Bool,listed.size=ops.length→listed.size=ops.toArray.size:=fun l h=>by simpa using h
 have fin:∀(listed:Array Bool) (σ:PS) (a:Act) (w:World),listed.size=ops.length→(∀i,i < ops.length→listed.getD i false=true) →
   PWops P T ops.toArray base (okR ops base) ((indexed 0 ops).filter fun x => !listed.getD x.1 false) Q σ→R σ a w→Q' .normal a w:=by
  intro listed σ a w hs hl h hr
  have:((indexed 0 ops).filter fun x => !listed.getD x.1 false) = []:=by
   rw [List.filter_eq_nil_iff]
   intro x hx
   obtain ⟨-,h2⟩:=indexed_mem 0 ops x hx
   have:x.1 < ops.length:=by have:=(List.getElem?_eq_some_iff.1 h2).1;omega
   simp [hl x.1 this]
  rw [this] at h
  exact hQ σ a w h hr
 have alls:∀listed:Array Bool,listed.size=ops.length→Region.ready .any ops.toArray listed = []→∀i,i < ops.length→listed.getD i false=true:=by
  intro listed hs hr i
  induction i using Nat.strongRecOn with
  |_ i ih=>
   intro hi
   have ho:ops.toArray[i]? = some ops[i]:=by simp [hi]
   cases hl:listed.getD i false with
   |true=>rfl
   |false=>
    have:i∈Region.ready .any ops.toArray listed:=(mem_ready (hsz listed hs)).2 ⟨ops[i],ho,hl,fun j hj=>by
     obtain ⟨e,he,hb,rfl⟩:=depO_iff.1 hj
     have:=hE i ops[i] (by simp [hi]) e he hb
     exact ih e.on this (by omega)⟩
    rw [hr] at this;cases this
 intro fuel
 induction fuel with
 |zero=>
  intro listed σ a w hu hs hcl h hr
  have hl:=unlisted_zero (Nat.le_zero.1 hu)
  rw [hs] at hl
  refine ⟨?_,fin listed σ a w hs hl h hr⟩
  apply List.eq_nil_iff_forall_not_mem.2
  intro i hi
  obtain ⟨o,ho,h1,_⟩:=(mem_ready (hsz listed hs)).1 hi
  rw [hl i (by have:=(Array.getElem?_eq_some_iff.1 ho).1;simpa using this)] at h1
  cases h1
 |succ fuel ih=>
  intro listed σ a w hu hs hcl h hr
  refine ⟨fun hrd=>fin listed σ a w hs (alls listed hs hrd) h hr,fun i hi=>?_⟩
  obtain ⟨o,ho,h1,h2⟩:=(mem_ready (hsz listed hs)).1 hi
  have ho' : ops[i]? = some o:=by simpa using ho
  have hil:i < ops.length:=(List.getElem?_eq_some_iff.1 ho').1
  have hmem:(i,o)∈(indexed 0 ops).filter fun x => !listed.getD x.1 false:=by
   rw [List.mem_filter]
   refine ⟨?_,by simp [h1]⟩
   have:∀(l:List Oper) (k i:Nat) o,l[i]? = some o→(k+i,o)∈indexed k l:=by
    intro l
    induction l with
    |nil=>intro k i o h;simp at h
    |cons p l ih=>
     intro k i o h
     cases i with
     |zero=>simp at h;subst h;simp [indexed]
     |succ i=>
      simp at h
      have:=ih (k+1) i o h
      simp only [indexed,List.mem_cons]
      right
      rw [show k+(i+1)=k+1+i by omega];exact this
   have:=this ops 0 i o ho'
   rwa [Nat.zero_add] at this
  obtain ⟨pre,post,hL⟩:=List.append_of_mem hmem
  have hsort:((indexed 0 ops).filter fun x => !listed.getD x.1 false).Pairwise (fun a b=>a.1 < b.1):=(indexed_sorted 0 ops).filter _
  rw [hL] at h hsort
  rw [List.pairwise_append] at hsort
  obtain ⟨-,hs2,hs3⟩:=hsort
  rw [List.pairwise_cons] at hs2
  have hpre:∀y∈pre,y.1 < i:=fun y hy=>hs3 y hy (i,o) (by simp)
  have hpost:∀y∈post,i < y.1:=fun y hy=>hs2.1 y hy
  have hprem:∀y∈pre,ops[y.1]? = some y.2∧listed.getD y.1 false=false:=by
   intro y hy
   have:y∈(indexed 0 ops).filter fun x => !listed.getD x.1 false:=by rw [hL];simp [hy]
   rw [List.mem_filter] at this
   obtain ⟨-,q⟩:=indexed_mem 0 ops y this.1
   exact ⟨by simpa using q,by simpa using this.2⟩
  have hb:=PWops.bubble (P:=P) (T:=T) (base:=base) (ok:=okR ops base) (cl:=clos ops) (ix:=i) (x:=o) (post:=post) (Q:=Q) pre σ (by
   intro y hy
   obtain ⟨q1,q2⟩:=hprem y hy
   have hlt:=hpre y hy
   have hnc:y.1∉(clos ops).getD i []:=fun hc=>by
    rw [clos_listed hE hcl i o ho' h2 y.1 hc] at q2;cases q2
   have hyl:y.1 < ops.length:=(List.getElem?_eq_some_iff.1 q1).1
   refine ⟨⟨by simpa using (hI i y.1 o y.2 ho' q1 hlt).resolve_left hnc,fun hs j hj1 hj2=>sep_ok (ops:=ops) q1 ho' (by simpa using hs) j hj1 hj2⟩,by omega,?_,?_⟩
   ·rw [okR,Bool.and_eq_false_iff];left
    simp only [okD,Bool.or_eq_false_iff,decide_eq_false_iff_not]
    refine ⟨⟨by omega,by omega⟩,?_⟩
    rw [Nat.add_sub_cancel_left]
    simpa using hnc
   ·rw [okR,Bool.and_eq_false_iff];left
    simp only [okD,Bool.or_eq_false_iff,decide_eq_false_iff_not]
    refine ⟨⟨by omega,by omega⟩,?_⟩
    rw [Nat.add_sub_cancel_left]
    have:i∉(clos ops).getD y.1 []:=fun hc=>by have:=clos_lt hE y.1 y.2 q1 i hc;omega
    simpa using this) h
  have hset:listed.getD i false=false:=h1
  have hlt:i < listed.size:=by rw [hs];exact hil
  have hrem:pre ++ post=(indexed 0 ops).filter fun x => !(listed.setIfInBounds i true).getD x.1 false:=by
   have e1:((indexed 0 ops).filter fun x => !(listed.setIfInBounds i true).getD x.1 false)=((indexed 0 ops).filter fun x => !listed.getD x.1 false).filter (fun x => !decide (x.1=i)):=by
    rw [List.filter_filter]
    congr 1
    funext x
    rw [getD_set _ _ _ hlt]
    cases listed.getD x.1 false<;>simp
   rw [e1,hL,List.filter_append,List.filter_cons]
   have e2:pre.filter (fun x => !decide (x.1=i))=pre:=List.filter_eq_self.2 (fun y hy=>by have:=hpre y hy;simp;omega)
   have e3:post.filter (fun x => !decide (x.1=i))=post:=List.filter_eq_self.2 (fun y hy=>by have:=hpost y hy;simp;omega)
   rw [e2,e3]
   simp
  have hcl' : ∀(k:Nat) p,ops[k]? = some p→(listed.setIfInBounds i true).getD k false=true→∀j,depO p j=true→(listed.setIfInBounds i true).getD j false=true:=by
   intro k p hp hk j hj
   rw [getD_set _ _ _ hlt] at hk ⊢
   simp only [Bool.or_eq_true,decide_eq_true_eq] at hk ⊢
   rcases hk with rfl|hk
   ·rw [ho'] at hp;cases hp;exact .inr (h2 j hj)
   ·exact .inr (hcl k p hp hk j hj)
  obtain ⟨Φ0,W,hrel,hbk⟩:=hR σ a w hr
  have hstep:=op_sound (Φ0:=Φ0) (W:=W) (M:=M) hT hall (base:=base) hbase ho (K':=wpAnyIn (FW r) 0 P .any ops.toArray Q' fuel (listed.setIfInBounds i true)) (Q':=Q') (fun σ' a' w' hk hr' => ih (listed.setIfInBounds i true) σ' a' w' (by have:=unlisted_set listed i hlt hset;omega) (by simpa using hs) hcl' (by rw [←hrem];exact hk) (hbk _ _ _ hr')) hb hrel
  unfold wpOpIn
  rw [ho]
  simp only
  split
  ·rename_i hw;rw [if_pos hw] at hstep;exact wpIn_of_wp (dstB_defer (hall i o ho)) hstep
  ·rename_i hw;rw [if_neg hw] at hstep;exact ⟨fun _ _=>trivial,hstep⟩
theorem opsR_sound {R:PS→Act→World→Prop} (hR:∀σ a w,R σ a w→∃Φ0 W,Rel Φ0 W M σ a w∧∀σ' a' w',Rel Φ0 W M σ' a' w'→R σ' a' w') (hT:T=tabOf P) {ops:Array Oper} (hall:∀(j:Nat) o,ops[j]? = some o→dstB M o=true) {base:Nat} (hbase:base+ops.size≤1000000) {ok:Nat→Nat→Bool} {r:Option Nat} {Q:PS→Prop} {Q' : Exit→Act→World→Prop} {tail:List Nat} (hQ:∀σ a w,Q σ→R σ a w→wpOpsIn (FW r) 0 P ops Q' tail a w) :
  ∀(l:List (Nat×Oper)),(∀x∈l,ops[x.1]? = some x.2)→∀(σ:PS) (a:Act) (w:World),PWops P T ops base ok l Q σ→R σ a w→wpOpsIn (FW r) 0 P ops Q' (l.map (·.1) ++ tail) a w
 | [],_,σ,a,w,h,hr=>hQ σ a w h hr
 |(i,o) :: rest,hl,σ,a,w,h,hr=>by
  have hio:ops[i]? = some o:=hl (i,o) (by simp)
  have ih:=opsR_sound hR hT hall hbase (ok:=ok) (r:=r) hQ rest (fun x hx=>hl x (by simp [hx]))
  simp only [List.map_cons,List.cons_append,wpOpsIn,hio]
  obtain ⟨Φ0,W,hrel,hbk⟩:=hR σ a w hr
  have:=op_sound hT hall hbase hio (K':=wpOpsIn (FW r) 0 P ops Q' (rest.map (·.1) ++ tail)) (Q':=Q') (fun σ' a' w' hk hr' => ih σ' a' w' hk (hbk _ _ _ hr')) h hrel
  split
  ·rename_i hw;rw [if_pos hw] at this;exact wpIn_of_wp (dstB_defer (hall i o hio)) this
  ·rename_i hw;rw [if_neg hw] at this;exact ⟨fun _ _=>trivial,this⟩
theorem indexed_len:∀(k:Nat) (l:List Oper),(indexed k l).length=l.length
 |_,[]=>rfl
 |k,o :: r=>by simp [indexed,indexed_len (k+1) r]
end
section
variable {E:ItEnv} {Φ0:Ent} {W:World} {M:Nat} {κ:Come} {σ:PS} {a:Act} {w:World} {P:Program} {T:Tab} {Q:Exit→PS→Come→Prop}
theorem relJ_R:∀σ a w,RelJ E Φ0 W M κ σ a w→∃Φf W',Rel Φf W' M σ a w∧∀σ' a' w',Rel Φf W' M σ' a' w'→RelJ E Φ0 W M κ σ' a' w':=by
 intro σ a w h
 obtain ⟨Φf,-,h1,h2⟩:=h.go
 exact ⟨Φf,w,h1,fun σ' a' w' h3=>h2 Φf w σ' a' w' (Later.refl _ _) h3⟩
theorem RelJ.drew (h:RelJ E Φ0 W M κ σ a w):RelJ E Φ0 W M κ σ a w.drew:=by
 obtain ⟨Φf,-,⟨Φ,μ,ω,h1⟩,h2⟩:=h.go
 exact h2 Φf w σ a w.drew (Later.refl _ _) ⟨Φ,μ,ω,h1.drew⟩
theorem PWJ.region (hT:T=tabOf P) {l d:Nat} {A:List (List PV)→Prop} (hgiv:∀b,Old Φ0 W b→¬Mix Φ0.imm b) (hy:YOK P E l A Φ0.imm W.heap.size) (hr:Φ0.round=none) {id:Nat} {ops:List Oper} (hall2:(ops.all (dstB M) && Nat.ble (1000 * id+ops.length) 1000000)=true)
  {before after:List (Nat×Oper)} {n0:Nat} {y:Oper} (hsp:indexed 0 ops=before ++ (n0,y) :: after) {pre:List (List PV)} {x:List PV} (hk:κ=some pre)
  (h:PWops P T ops.toArray (1000 * id) (fun _ _=>true) before (fun σ' => YAt l A M pre x y d σ'∧∀b:Bool,PWops P T ops.toArray (1000 * id) (fun _ _=>true) after (fun σ'' => Q .normal σ'' (if b then some (pre ++ [x]) else none)) (ybehind σ' d b)) σ) :
  PWJ E Φ0 W P M (.region id ops.toArray false) Q σ κ:=by
 intro a w hrel
 subst hk
 have hall2':=hall2
 simp only [Bool.and_eq_true] at hall2'
 obtain ⟨hall,hb0⟩:=hall2'
 have hbase:=Nat.le_of_ble_eq_true hb0
 have hall' : ∀(j:Nat) o,ops.toArray[j]? = some o→dstB M o=true:=by
  intro j o hj
  exact List.all_eq_true.1 hall o (mem_of_get (by simpa using hj))
 have hmem:∀z∈indexed 0 ops,ops.toArray[z.1]? = some z.2:=by
  intro z hz
  obtain ⟨-,h2⟩:=indexed_mem 0 ops z hz
  simpa using h2
 refine wpIn_region ?_
 have hidx:List.range ops.toArray.size=before.map (·.1) ++ (n0 :: after.map (·.1)):=by
  rw [List.range_eq_range',List.size_toArray,←indexed_fst,hsp]
  simp
 rw [hidx]
 refine opsR_sound (R:=RelJ E Φ0 W M (some pre)) relJ_R hT hall' (by simpa using hbase) (fun σ' a' w' hq hr' => ?_) before (fun z hz=>hmem z (by rw [hsp];exact List.mem_append.2 (.inl hz))) σ a w h hrel
 obtain ⟨hya,haf⟩:=hq
 have hn0:ops.toArray[n0]? = some y:=hmem (n0,y) (by rw [hsp];exact List.mem_append.2 (.inr List.mem_cons_self))
 simp only [wpOpsIn,hn0]
 have hw:Region.wanted y (yielded ops.toArray a'.tmps)=true:=by simp [Region.wanted,hya.guard]
 rw [if_pos hw]
 refine yield_sound hgiv hy hr hr' hya (fun b a2 w2 hr2=>?_)
 have:=opsR_sound (R:=RelJ E Φ0 W M (if b then some (pre ++ [x]) else none)) (r:=Φ0.round) (Q':=fun e a' w' => ∃σ' κ',Q e σ' κ'∧RelJ E Φ0 W M κ' σ' a' w') (tail := []) relJ_R hT hall' (by simpa using hbase) (fun σ'' a3 w3 hq hr3=>⟨σ'',_,hq,hr3⟩) after (fun z hz=>hmem z (by rw [hsp];exact List.mem_append.2 (.inr (List.mem_cons_of_mem _ hz)))) _ a2 w2 (haf b) hr2
 simpa using this
end
end Go.Proofs.YtoamkpgaaanafaaGreat
