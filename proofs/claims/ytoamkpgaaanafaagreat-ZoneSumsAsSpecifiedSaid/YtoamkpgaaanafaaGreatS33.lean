/- Merged: Sm, Sn, Zv, PlainK, Sw, Ya. -/
import Derived.Laws.Strings
import Derived.Test.YtoamkpgaaanafaaGreatS8
import Derived.Test.YtoamkpgaaanafaaGreatS10
import Derived.Test.YtoamkpgaaanafaaGreatS14
import Derived.Test.YtoamkpgaaanafaaGreatS16
import Derived.Test.YtoamkpgaaanafaaGreatS32
/- Sets of strings as maps; their sorted keys. -/
namespace Go.Proofs.YtoamkpgaaanafaaGreat
set_option linter.unusedSimpArgs false
set_option linter.unusedVariables false
set_option linter.unnecessarySimpa false
open Go.RowKit
section
def sIdx (s:ByteArray):List ByteArray→Nat→Option Nat
 | [],_=>none
 |k :: l,n=>if s == k then some n else sIdx s l (n+1)
theorem sIdx_some {s:ByteArray} : ∀{l:List ByteArray} {n j:Nat},sIdx s l n=some j→n≤j∧l[j - n]? = some s
 | [],n,j,h=>by cases h
 |k :: l,n,j,h=>by
  simp only [sIdx] at h
  split at h
  ·rename_i e
   cases h
   exact ⟨Nat.le_refl _,by simp [(ba_beq s k).1 e]⟩
  ·obtain ⟨h1,h2⟩:=sIdx_some h
   exact ⟨by omega,by rw [show j - n=(j - (n+1))+1 by omega];simpa using h2⟩
theorem sIdx_none {s:ByteArray} : ∀{l:List ByteArray} {n:Nat},sIdx s l n=none→s∉l
 | [],n,h=>by simp
 |k :: l,n,h=>by
  simp only [sIdx] at h
  split at h
  ·cases h
  ·rename_i e
   have:=sIdx_none h
   simp only [List.mem_cons,not_or]
   exact ⟨fun e2=>e ((ba_beq s k).2 e2),this⟩
theorem mfind_str (s:ByteArray):∀(l:List (Nat×ByteArray)) (n:Nat),mfind .str (.string s) (l.map fun e=>(e.1,pstr e.2,pbool true)) n=some (sIdx s (l.map (·.2)) n)
 | [],n=>rfl
 |(i,k) :: l,n=>by
  simp only [List.map_cons,pstr,mfind,veq,sIdx]
  cases h:s == k with
  |true=>simp
  |false=>
   simp only [Bool.false_eq_true,if_false]
   exact mfind_str s l (n+1)
def smI (ks:List ByteArray):List (Nat×ByteArray):=(List.range ks.length).map fun i=>(i,ks.getD i default)
def smE (ks:List ByteArray):List (Nat×PV×PV):=(smI ks).map fun e=>(e.1,pstr e.2,pbool true)
def smL (ks:List ByteArray):PMap:=.map (smE ks) ks.length
theorem smI_snd (ks:List ByteArray):(smI ks).map (·.2)=ks:=by
 apply List.ext_getElem?
 intro i
 simp only [smI,List.map_map,List.getElem?_map]
 by_cases h:i < ks.length
 ·simp [List.getElem?_range h,h]
 ·rw [List.getElem?_eq_none (by simpa using h),List.getElem?_eq_none (by simpa using h)];rfl
theorem smE_len (ks:List ByteArray):(smE ks).length=ks.length:=by simp [smE,smI]
theorem smE_get {ks:List ByteArray} {i:Nat} {k:ByteArray} (h:ks[i]? = some k):(smE ks)[i]? = some (i,pstr k,pbool true):=by
 obtain ⟨hi,rfl⟩:=List.getElem?_eq_some_iff.1 h
 simp [smE,smI,List.getElem?_range hi,hi]
theorem smE_app (ks:List ByteArray) (s:ByteArray):smE (ks ++ [s])=smE ks ++ [(ks.length,pstr s,pbool true)]:=by
 simp only [smE,smI,List.length_append,List.length_singleton,List.range_succ,List.map_append,List.map_cons,List.map_nil]
 congr 1
 ·rw [List.map_map,List.map_map]
  apply List.map_congr_left
  intro i hi
  have hi' : i < ks.length:=by simpa using hi
  simp [List.getElem?_append_left hi']
 ·simp
open Classical in
noncomputable def addK (ks:List ByteArray) (s:ByteArray):List ByteArray:=if s∈ks then ks else ks ++ [s]
theorem addK_mem {ks:List ByteArray} {s x:ByteArray} : x∈addK ks s↔x∈ks∨x=s:=by
 unfold addK
 split
 ·constructor
  ·exact .inl
  ·rintro (h|rfl)
   ·exact h
   ·assumption
 ·simp
theorem addK_nodup {ks:List ByteArray} (s:ByteArray) (h:ks.Nodup):(addK ks s).Nodup:=by
 unfold addK
 split
 ·exact h
 ·rename_i hs
  rw [List.nodup_append]
  exact ⟨h,by simp,fun a ha b hb=>by simp at hb;subst hb;rintro rfl;exact hs ha⟩
theorem addK_len (ks:List ByteArray) (s:ByteArray):(addK ks s).length≤ks.length+1:=by
 unfold addK;split<;>simp
theorem sm_mput (ks:List ByteArray) (s:ByteArray) {ki:TyI} (hk:ki.kind = .str):mput ki (smE ks) ks.length (.string s) (pbool true)=some (smL (addK ks s)):=by
 unfold mput addK
 simp only [hk,keyOK,skT,if_true,smE,mfind_str,smI_snd]
 cases h:sIdx s ks 0 with
 |none=>
  rw [if_neg (sIdx_none h)]
  simp only [smL,smE_app,List.length_append,List.length_singleton]
  rfl
 |some j=>
  obtain ⟨-,h2⟩:=sIdx_some h
  rw [Nat.sub_zero] at h2
  have h3:=smE_get h2
  have hm:s∈ks:=List.mem_of_getElem? h2
  rw [if_pos hm]
  have h4:((smI ks).map fun e=>(e.1,pstr e.2,pbool true))[j]? = some (j,pstr s,pbool true):=h3
  simp only [h4]
  simp only [smL,smE]
  congr 2
  obtain ⟨hj,h5⟩:=List.getElem?_eq_some_iff.1 h4
  have:(j,PV.val (.string s),pbool true)=((smI ks).map fun e=>(e.1,pstr e.2,pbool true))[j]:=h5.symm
  rw [this,List.set_getElem_self]
def sortS (ks:List ByteArray):List ByteArray:=((ks.map fun k=>k.data.toList).mergeSort leB).map fun x=>⟨x.toArray⟩
theorem sortS_perm (ks:List ByteArray):(sortS ks).Perm ks:=by
 have h:=(List.mergeSort_perm (ks.map fun k=>k.data.toList) leB).map fun x:List UInt8=>(⟨x.toArray⟩:ByteArray)
 rw [List.map_map] at h
 have e:((fun x:List UInt8=>(⟨x.toArray⟩:ByteArray)) ∘ fun k:ByteArray=>k.data.toList)=id:=by funext k;rfl
 rw [e,List.map_id] at h
 exact h
end
end Go.Proofs.YtoamkpgaaanafaaGreat

/- zone.sorted of a set of strings. -/
namespace Go.Proofs.YtoamkpgaaanafaaGreat
set_option linter.unusedSimpArgs false
set_option linter.unusedVariables false
set_option linter.unnecessarySimpa false
open Go.RowKit
def smR:Value→Option (DataW Unit×List MemPlace):=fun _=>some (.nil,[])
theorem sm_owns {w:World} {g:Nat} {ents:Array MapEntry} {ks:List ByteArray} (hb:w.heap[g]? = some (.map ents ks.length)) (hsz:ents.size=ks.length) (hnd:ks.Nodup) (hl:ks.length≤1000000) (hs:∀k∈ks,k.size≤1000000000)
  (he:∀(j:Nat) k,ks[j]? = some k→∃e,ents[j]? = some e∧e.born=j∧e.key = .string k):∃D,w.ownsMap Tryz.prog 9 smR g ks.length D∧(strKeys D).Perm (ks.map fun k=>k.data.toList)∧Maps.size D=ks.length:=by
 have hu:Tryz.prog.underlying 9=some .string:=Tryz.underlying9
 have hkeys:ents.toList.map (·.key)=ks.map Value.string:=by
  apply List.ext_getElem?
  intro j
  simp only [List.getElem?_map,Array.getElem?_toList]
  by_cases hj:j < ks.length
  ·obtain ⟨e,h1,-,h3⟩:=he j ks[j] (List.getElem?_eq_getElem hj)
   rw [h1,List.getElem?_eq_getElem hj];simp [h3]
  ·rw [Array.getElem?_eq_none (by omega),List.getElem?_eq_none (by omega)];rfl
 have hborn:ents.toList.map (·.born)=List.range ks.length:=by
  apply List.ext_getElem?
  intro j
  simp only [List.getElem?_map,Array.getElem?_toList]
  by_cases hj:j < ks.length
  ·obtain ⟨e,h1,h2,-⟩:=he j ks[j] (List.getElem?_eq_getElem hj)
   rw [h1,List.getElem?_range hj];simp [h2]
  ·rw [Array.getElem?_eq_none (by omega),List.getElem?_eq_none (by simp;omega)];rfl
 have hrd:∀x∈ents.toList,∃k∈ks,x.key = .string k∧WideElems.rd Tryz.prog 9 smR x=some (.string k.data.toList, .nil):=by
  intro x hx
  have h1:x.key∈ents.toList.map (·.key):=List.mem_map.2 ⟨x,hx,rfl⟩
  rw [hkeys] at h1
  obtain ⟨k,hk,h2⟩:=List.mem_map.1 h1
  refine ⟨k,hk,h2.symm,?_⟩
  have hsk:k.size≤maxLen:=by have:=hs k hk;unfold maxLen;omega
  simp [WideElems.rd,smR,keyOf,mapKey,hu,←h2,hsk]
 refine ⟨_,⟨ents,ks.length,hb,⟨by rw [hsz];unfold maxLen;omega,⟨fun x hx=>?_,by rw [hborn];exact List.nodup_range,?_⟩,fun x hx=>?_⟩,by omega,rfl⟩,?_,?_⟩
 ·have h1:x.born∈ents.toList.map (·.born):=List.mem_map.2 ⟨x,hx,rfl⟩
  rw [hborn] at h1
  simpa using h1
 ·rw [hkeys]
  exact List.Pairwise.map _ (fun a b hab=>by simpa using hab) hnd
 ·obtain ⟨k,-,-,h⟩:=hrd x hx
  exact ⟨_,h⟩
 ·show (((ents.toList.map (WideElems.rg Tryz.prog 9 smR)).foldr DataW.insert []).map fun p=>Go.strOf p.1).Perm _
  refine ((Go.WideShapes.sorted_perm _).map _).trans ?_
  rw [List.map_map]
  have:ents.toList.map ((fun p:Lit×DataW Unit=>Go.strOf p.1) ∘ WideElems.rg Tryz.prog 9 smR)=(ents.toList.map (·.key)).map fun v=>match v with | .string k=>k.data.toList|_ => []:=by
   rw [List.map_map]
   apply List.map_congr_left
   intro x hx
   obtain ⟨k,-,h1,h2⟩:=hrd x hx
   simp [WideElems.rg,h2,h1,Go.strOf]
  rw [this,hkeys,List.map_map]
  exact .refl _
 ·show ((ents.toList.map (WideElems.rg Tryz.prog 9 smR)).foldr DataW.insert []).length=_
  rw [(Go.WideShapes.sorted_perm _).length_eq];simp [hsz]
set_option maxRecDepth 100000 in
set_option maxHeartbeats 1000000 in
theorem sorted_calls {w:World} {g:Nat} {ents:Array MapEntry} {ks:List ByteArray} (hb:w.heap[g]? = some (.map ents ks.length)) (hsz:ents.size=ks.length) (hnd:ks.Nodup) (hl:ks.length≤1000000) (hs:∀k∈ks,k.size≤1000000000)
  (he:∀(j:Nat) k,ks[j]? = some k→∃e,ents[j]? = some e∧e.born=j∧e.key = .string k):Calls Tryz.prog 112 #[.map (some g)] w fun e w' => ∃v,e = .returned v∧Own w.heap.size 9 w' v ((sortS ks).map Value.string)∧Below w.heap.size w w':=by
 obtain ⟨D,hD,hperm,hsize⟩:=sm_owns hb hsz hnd hl hs he
 go_enter Tryz.func112,Tryz.ntmps112
 go_wp2_with (first
  |(go_at_call 195;refine (callsIn_wide.1 (Tryz.maps_Keys_195 _ _)).mono ?_;rintro e w' ⟨rfl,rfl⟩)
  |(go_at_call 194;refine (callsIn_wide.1 (Tryz.slices_Sorted_keys_194_195 g ks.length D smR w hD (by rw [hsize];unfold maxLen;omega) (by omega))).mono ?_;rintro e w' ⟨v,ss,rfl,hS,hrow,hnil,hbl⟩))
 go_ret
 have hb0:=below_alloc w (.cells #[.map (some g)] 164)
 have hbl' : Below w.heap.size w w':=hb0.trans (hbl.mono hb0.size)
 refine ⟨v,rfl,?_,hbl'⟩
 have e1:(sortS ks).map Value.string=(ss.mergeSort leB).map Go.Proofs.encStr:=by
  rw [mergeSort_of_perm (hS.trans hperm)]
  simp [sortS,List.map_map,Function.comp_def,Go.Proofs.encStr]
 have e2:(sortS ks).length=ss.length:=by
  have:=congrArg List.length e1
  simpa using this
 obtain ⟨r1,r2⟩:=hrow
 unfold Own
 rw [e1]
 refine ⟨by simp,?_⟩
 rcases r2 with ⟨h1,h2⟩|⟨g',cap,cur,h1,h2,h3⟩
 ·exact .inl ⟨h1,by simp [h2]⟩
 ·refine .inr ⟨g',cap,cur,?_,Nat.le_trans hb0.size h2,?_⟩
  ·rw [h1];simp
  ·simpa using h3
theorem hc_sorted (ks:List ByteArray) (hnd:ks.Nodup) (hl:ks.length≤1000000) (hs:∀k∈ks,k.size≤1000000000) (id:Nat):HCalls Tryz.prog 112 [.mref id] [] [(id,smL ks)] (pstrs (sortS ks)) [] [(id,smL ks)]:=by
 refine ⟨by kernel_rfl,fun Φ μ ω w vs himm hgl hrep _ hgm hlt=>?_⟩
 have hl1:=hrep.1
 match vs,hl1 with
 | [v],_=>
 obtain ⟨g,hg,rfl⟩:=(hrep.2 0 _ v rfl rfl).mref_inv
 obtain ⟨g',h1,h2,h3,h4,h5⟩:=hgm (id,smL ks) (by simp)
 simp only at h1 h3 h4 h5
 rw [hg] at h1
 cases h1
 obtain ⟨hst,ents,hh,hsz,hent⟩:=h5
 rw [smE_len] at hsz
 have hlt':=hlt g _ h3
 have he:∀(j:Nat) k,ks[j]? = some k→∃e,ents[j]? = some e∧e.born=j∧e.key = .string k:=fun j k hk=>by
  obtain ⟨e,e1,e2,e3,-⟩:=hent j _ _ _ (smE_get hk)
  obtain ⟨e4,-⟩:=e3.val_inv
  exact ⟨e,e1,e2,e4⟩
 refine (sorted_calls hh hsz hnd hl hs he).mono ?_
 rintro e w' ⟨v,rfl,ho,hbl⟩
 obtain ⟨Φ',p1,p2,p3,-⟩:=own_rep himm (f:=Value.string) (fun _=>rfl) ho hbl
 have hgiv:Giv ω (ResIds [] [(id,smL ks)]) g:=⟨id,by simp [ResIds], .box id, .inl rfl,h3⟩
 have hΦ:∀b o u,Φ b o=some u→Φ' b o=some u:=fun b o u e=>by
  rw [p2 b o (World.block_lt_of_cell? _ _ (himm b o u e))];exact e
 refine ⟨v,Φ',fun i=>if i=id then μ i else none,fun g' => if g' = g then some (.box id) else none,rfl,?_,p1,hΦ,fun b o hb _=>p2 b o hb,⟨hbl.os,hbl.tape,hbl.output,hbl.size,fun k hk=>hbl.block k hk.1⟩,fun i hi=>?_,fun i g' e=>?_,fun x hx=>by simp at hx,fun x hx=>?_,fun g' p e=>?_,fun n k cs E e=>by cases e⟩
 ·exact (p3.mono (fun _ _ _ h=>h) (fun i g h=>by simp [mu0] at h)).bare
 ·simp [ResIds] at hi;subst hi;simp
 ·by_cases hi:i=id
  ·subst hi;simp [ResIds]
  ·simp [hi] at e
 ·simp only [List.mem_cons,List.not_mem_nil,or_false] at hx
  subst hx
  refine ⟨g,by simp [hg], .inr hgiv,by simp,fun j=>by rw [p2 g j hlt'];exact h4 j,hst,ents,by rw [hbl.block g hlt'];exact hh,by rw [smE_len];exact hsz,fun j s k c hj=>?_⟩
  obtain ⟨e,e1,e2,e3,e4,-⟩:=hent j s k c hj
  obtain ⟨y,hy,he2⟩:∃y,ks[j]? = some y∧(s,k,c)=(j,pstr y,pbool true):=by
   have hjl:j < ks.length:=by
    have:=(List.getElem?_eq_some_iff.1 hj).1
    rwa [smE_len] at this
   refine ⟨ks[j],List.getElem?_eq_getElem hjl,?_⟩
   rw [smE_get (List.getElem?_eq_getElem hjl)] at hj
   exact (Option.some.inj hj).symm
  cases he2
  obtain ⟨e5,-⟩:=e3.val_inv
  obtain ⟨e6,-⟩:=e4.val_inv
  exact ⟨e,e1,e2,by rw [e5];exact .val _ rfl,by rw [e6];exact .val _ rfl,fun n kk cs E ec=>by cases ec⟩
 ·by_cases hg' : g' = g
  ·subst hg'
   exact ⟨Nat.lt_of_lt_of_le hlt' hbl.size, .inr hgiv⟩
  ·simp [hg'] at e
end Go.Proofs.YtoamkpgaaanafaaGreat

/- zone: fieldOf. -/
namespace Go.Proofs.YtoamkpgaaanafaaGreat
set_option linter.unusedSimpArgs false
set_option linter.unusedVariables false
set_option linter.unnecessarySimpa false
open Go.RowKit
structure FSt where
 has:Int
 lo:Int
 hi:Int
 ks:List ByteArray
noncomputable def fldStep (d:PDef) (st:FSt) (e:PEntry):FSt:=
 if (getA e.attrs d.name).2=false then st
 else ⟨st.has+1,min (if st.has=0 then (getA e.attrs d.name).1.n else st.lo) (getA e.attrs d.name).1.n,max (if st.has=0 then (getA e.attrs d.name).1.n else st.hi) (getA e.attrs d.name).1.n,
  if d.kind=2 then addK st.ks (getA e.attrs d.name).1.s else st.ks⟩
noncomputable def fldSt (d:PDef) (l:List PEntry):FSt:=l.foldl (fldStep d) ⟨0,0,0,[]⟩
noncomputable def fieldOfP (d:PDef) (l:List PEntry):PField:=⟨(fldSt d l).has,(fldSt d l).lo,(fldSt d l).hi,sortS (fldSt d l).ks⟩
theorem fldSt_succ {d:PDef} {l:List PEntry} {k:Nat} (h:k < l.length):fldSt d (l.take (k+1))=fldStep d (fldSt d (l.take k)) (l.getD k default):=by
 unfold fldSt
 rw [List.take_add_one,List.foldl_append,List.getElem?_eq_getElem h]
 simp [h]
theorem getA_size {l:List PAttr} {nm:ByteArray} (h:∀a∈l,a.s.size≤1000000000):(getA l nm).1.s.size≤1000000000:=by
 induction l with
 |nil=>simp [getA,zeroA]
 |cons a r ih=>
  unfold getA
  split
  ·exact h a (by simp)
  ·exact ih fun x hx=>h x (by simp [hx])
def FOK (st:FSt) (k:Nat):Prop:=0≤st.has∧st.has≤k∧st.ks.Nodup∧st.ks.length≤k∧∀x∈st.ks,x.size≤1000000000
theorem fldStep_ok {d:PDef} {st:FSt} {e:PEntry} {k:Nat} (h:FOK st k) (he:∀a∈e.attrs,a.s.size≤1000000000):FOK (fldStep d st e) (k+1):=by
 obtain ⟨h1,h2,h3,h4,h5⟩:=h
 unfold fldStep
 split
 ·exact ⟨h1,by omega,h3,by omega,h5⟩
 ·refine ⟨by simp only;omega,by simp only;omega,?_,?_,?_⟩
  ·simp only;split
   ·exact addK_nodup _ h3
   ·exact h3
  ·simp only;split
   ·have:=addK_len st.ks (getA e.attrs d.name).1.s;omega
   ·omega
  ·simp only;split
   ·intro x hx
    rcases addK_mem.1 hx with h|rfl
    ·exact h5 x h
    ·exact getA_size he
   ·exact h5
theorem fldSt_ok {d:PDef} {l:List PEntry} (he:∀k,k < l.length→∀a∈(l.getD k default).attrs,a.s.size≤1000000000):∀k,k≤l.length→FOK (fldSt d (l.take k)) k
 |0,_=>⟨by simp [fldSt],by simp [fldSt],by simp [fldSt],by simp [fldSt],by simp [fldSt]⟩
 |k+1,h=>by
  rw [fldSt_succ (by omega)]
  exact fldStep_ok (fldSt_ok he k (by omega)) (he k (by omega))
def fstL (st:FSt):List PV := [pint st.has,pint st.lo,pint st.hi, .nilsl]
theorem low_fstL (st:FSt):∀c∈fstL st,Low c:=by
 intro c hc
 simp only [fstL,List.mem_cons,List.not_mem_nil,or_false] at hc
 rcases hc with rfl|rfl|rfl|rfl
 ·exact .val _
 ·exact .val _
 ·exact .val _
 ·exact .nilsl
set_option maxRecDepth 10000 in
set_option maxHeartbeats 4000000 in
theorem pw_fieldOf (d:PDef) (l:List PEntry) (hl:l.length≤1000000) (ha:∀k,k < l.length→(l.getD k default).attrs.length≤1000000) (he:∀k,k < l.length→∀a∈(l.getD k default).attrs,a.s.size≤1000000000):PCalls Tryz.prog 60 [.agg (pdefL d),pentries l] (· = pfld (fieldOfP d l)):=by
 have hld:=low_pdefL d
 have hld1:Low (.ep (pdefL d) 0):=.ep _ _ hld
 have hlow:∀x,Low (pentries x):=fun x=>(low_pentries x).2 trivial
 have hlf:=low_fstL
 have hf0:=low_fstL ⟨0,0,0,[]⟩
 have hf1:=low_fstL (fldSt d (l.take 0))
 have hlowm:∀ks,∀e∈smE ks,Low e.2.1∧Low e.2.2:=fun ks e h=>by
  obtain ⟨x,-,rfl⟩:=List.mem_map.1 h
  exact ⟨.val _, .val _⟩
 refine pcalls_of_pw typeTab_ok Tryz.func60 rfl (by kernel_rfl) (by simp [low_pdef,low_pentries]) (by simp [pdefL,pentries,PV.ownB]) (by rw [Tryz.ntmps60];simp) ?_
 rw [Tryz.ntmps60,Tryz.results60]
 refine PW.seq ?_
 refine PW.region typeTab_ok (by kernel_rfl) ?_
 refine wg ?_
 refine PW.freezeP (id:=0) (s:=2) (off:=0) (σ':=(((bot.setb 1 (fstL ⟨0,0,0,[]⟩)).put 1 (pentries l)).put 4 (.ptr 1 0))) rfl rfl hld (by exact sbr0) rfl ?_
 refine wk ?_
 refine PWops.mkMG rfl rfl rfl rfl ?_
 refine wk ?_
 refine PW.loop (fun k:Nat=>(((((((((((bot.setb 1 (fstL ⟨0,0,0,[]⟩)).setb 1000 (fstL (fldSt d (l.take k)))).setm 2000 (smL (fldSt d (l.take k)).ks)).put 2 (.ep (pdefL d) 0)).put 4 (.ptr 1 0)).put 5 (.ptr 1000 0)).put 6 (.mref 2000)).put 12 (pentries l)).put 13 (pint l.length)).put 14 (pint k)))) (fun k=>k≤l.length) (fun k=>l.length - k) 0 (by omega) ?_ ?_
 ·exact sb
 ·intro k hk
  have hf1:=low_fstL (fldSt d (l.take k))
  obtain ⟨o1,o2,o3,o4,o5⟩:=fldSt_ok (d:=d) he k hk
  by_cases hlt:k < l.length
  ·have p1:=pcGet (l.getD k default).attrs d.name (ha k hlt)
   have hst:=fldSt_succ (d:=d) hlt
   have hle:=low_entCells (l.getD k default)
   have hla:=low_pattrL2 (getA (l.getD k default).attrs d.name).1
   generalize fldSt d (l.take k)=st at *
   have hlf1:=low_fstL (fldSt d (l.take (k+1)))
   cases q0:(getA (l.getD k default).attrs d.name).2 with
   |false=>
    rw [q0] at p1
    have hst' : fldSt d (l.take (k+1))=st:=by rw [hst,fldStep,if_pos q0]
    refine wk ?_
    refine loopP (k+1) (by omega) (by omega) ?_
    rw [hst'] at hlf1
    simp only [hst']
    exact sb
   |true=>
    rw [q0] at p1
    refine wk ?_
    by_cases q1:st.has=0
    ·refine wg ?_
     refine PW.drawE typeTab_ok (by kernel_rfl) (by kernel_rfl) (by kernel_rfl) ?_
     refine wg ?_
     refine PW.drawE typeTab_ok (by kernel_rfl) (by kernel_rfl) (by kernel_rfl) ?_
     refine wg ?_
     simp only [Bool.false_eq_true,if_false,if_true,ite_self]
     by_cases q2:d.kind=2
     ·have hst' : fldSt d (l.take (k+1))=⟨st.has+1,(getA (l.getD k default).attrs d.name).1.n,(getA (l.getD k default).attrs d.name).1.n,addK st.ks (getA (l.getD k default).attrs d.name).1.s⟩:=by
       rw [hst,fldStep,if_neg (by rw [q0];decide),if_pos q2]
       simp only [q1,if_true,if_false,Int.min_self,Int.max_self]
      refine wk ?_
      refine PWops.mput rfl rfl rfl rfl rfl rfl rfl rfl rfl rfl rfl rfl (sm_mput _ _ rfl) ?_
      refine wk ?_
      refine loopP (k+1) (by omega) (by omega) ?_
      rw [hst'] at hlf1
      simp only [hst']
      exact sb
     ·have hst' : fldSt d (l.take (k+1))=⟨st.has+1,(getA (l.getD k default).attrs d.name).1.n,(getA (l.getD k default).attrs d.name).1.n,st.ks⟩:=by
       rw [hst,fldStep,if_neg (by rw [q0];decide),if_neg q2]
       simp only [q1,if_true,if_false,Int.min_self,Int.max_self]
      refine wk ?_
      refine loopP (k+1) (by omega) (by omega) ?_
      rw [hst'] at hlf1
      simp only [hst']
      exact sb
    ·refine wg ?_
     refine PW.drawE typeTab_ok (by kernel_rfl) (by kernel_rfl) (by kernel_rfl) ?_
     refine wg ?_
     simp only [Bool.false_eq_true,if_false,if_true]
     rw [show (if (getA (l.getD k default).attrs d.name).1.n < st.lo then (getA (l.getD k default).attrs d.name).1.n else st.lo)=min st.lo (getA (l.getD k default).attrs d.name).1.n from by split<;>omega,show (if (getA (l.getD k default).attrs d.name).1.n > st.hi then (getA (l.getD k default).attrs d.name).1.n else st.hi)=max st.hi (getA (l.getD k default).attrs d.name).1.n from by split<;>omega]
     by_cases q2:d.kind=2
     ·have hst' : fldSt d (l.take (k+1))=⟨st.has+1,min st.lo (getA (l.getD k default).attrs d.name).1.n,max st.hi (getA (l.getD k default).attrs d.name).1.n,addK st.ks (getA (l.getD k default).attrs d.name).1.s⟩:=by
       rw [hst,fldStep,if_neg (by rw [q0];decide),if_pos q2]
       simp only [q1,if_true,if_false,Int.min_self,Int.max_self]
      refine wk ?_
      refine PWops.mput rfl rfl rfl rfl rfl rfl rfl rfl rfl rfl rfl rfl (sm_mput _ _ rfl) ?_
      refine wk ?_
      refine loopP (k+1) (by omega) (by omega) ?_
      rw [hst'] at hlf1
      simp only [hst']
      exact sb
     ·have hst' : fldSt d (l.take (k+1))=⟨st.has+1,min st.lo (getA (l.getD k default).attrs d.name).1.n,max st.hi (getA (l.getD k default).attrs d.name).1.n,st.ks⟩:=by
       rw [hst,fldStep,if_neg (by rw [q0];decide),if_neg q2]
       simp only [q1,if_true,if_false,Int.min_self,Int.max_self]
      refine wk ?_
      refine loopP (k+1) (by omega) (by omega) ?_
      rw [hst'] at hlf1
      simp only [hst']
      exact sb
  ·have hkk:k=l.length:=by omega
   have hfin:fieldOfP d l=⟨(fldSt d (l.take k)).has,(fldSt d (l.take k)).lo,(fldSt d (l.take k)).hi,sortS (fldSt d (l.take k)).ks⟩:=by
    rw [hkk,List.take_length];rfl
   rw [hfin]
   generalize fldSt d (l.take k)=st at *
   have H:=hc_sorted st.ks o3 (by omega) o5 2000
   refine wk ?_
   exact retP (r:=pfld ⟨st.has,st.lo,st.hi,sortS st.ks⟩) rfl ((low_pfld _).2 trivial) rfl
end Go.Proofs.YtoamkpgaaanafaaGreat

/- Plain laws of attributes and schemas. -/
namespace Go.Proofs.YtoamkpgaaanafaaGreat
set_option linter.unusedSimpArgs false
set_option linter.unusedVariables false
set_option linter.unnecessarySimpa false
open Go Go.RowKit
theorem bl_irrefl:∀a:List UInt8,Op.bytesLess a a=false
 | []=>rfl
 |a :: x=>by simp [Op.bytesLess,bl_irrefl x]
theorem bl_trans:∀a b c:List UInt8,Op.bytesLess a b=true→Op.bytesLess b c=true→Op.bytesLess a c=true
 |_,[],c,h,_=>by cases ‹List UInt8› <;> simp [Op.bytesLess] at h
 |_,b :: y,[],_,h=>by simp [Op.bytesLess] at h
 | [],b :: y,c :: z,_,_=>by simp [Op.bytesLess]
 |a :: x,b :: y,c :: z,h,k=>by
  simp only [Op.bytesLess,Bool.or_eq_true,Bool.and_eq_true,decide_eq_true_eq,beq_iff_eq] at h k ⊢
  rcases h with h|⟨rfl,h⟩
  ·rcases k with k|⟨rfl,k⟩
   ·exact .inl (UInt8.lt_trans h k)
   ·exact .inl h
  ·rcases k with k|⟨rfl,k⟩
   ·exact .inl k
   ·exact .inr ⟨rfl,bl_trans x y z h k⟩
theorem bl_total:∀a b:List UInt8,Op.bytesLess a b=false→a≠b→Op.bytesLess b a=true
 | [],[],_,h=>absurd rfl h
 | [],b :: y,h,_=>by simp [Op.bytesLess] at h
 |a :: x,[],_,_=>by simp [Op.bytesLess]
 |a :: x,b :: y,h,hne=>by
  simp only [Op.bytesLess,Bool.or_eq_false_iff,decide_eq_false_iff_not,Bool.and_eq_false_iff,Bool.or_eq_true,Bool.and_eq_true,decide_eq_true_eq,beq_iff_eq] at h ⊢
  by_cases e:a=b
  ·subst e
   refine .inr ⟨rfl,bl_total x y ?_ (fun e=>hne (e ▸ rfl))⟩
   rcases h.2 with h2|h2
   ·simp at h2
   ·exact h2
  ·left
   have:=h.1
   have h3:¬a.toNat=b.toNat:=fun h=>e (UInt8.toNat_inj.1 h)
   rw [UInt8.lt_iff_toNat_lt] at this ⊢
   omega
def ltB (a b:ByteArray):Prop:=Op.bytesLess a.toList b.toList=true
theorem ltB_trans {a b c:ByteArray} (h:ltB a b) (k:ltB b c):ltB a c:=bl_trans _ _ _ h k
theorem ltB_ne {a b:ByteArray} (h:ltB a b):eqB a b=false:=by
 cases e:eqB a b with
 |false=>rfl
 |true=>
  simp only [eqB,beq_iff_eq] at e
  unfold ltB at h
  rw [e,bl_irrefl] at h;cases h
theorem eqB_self (a:ByteArray):eqB a a=true:=by simp [eqB]
theorem leqB_false {x p:ByteArray} : leqB x p=false↔ltB p x:=by
 unfold leqB ltB
 rw [Bool.or_eq_false_iff]
 constructor
 ·rintro ⟨h1,h2⟩
  exact bl_total _ _ h1 (by simpa using h2)
 ·intro h
  refine ⟨?_,?_⟩
  ·cases e:Op.bytesLess x.toList p.toList with
   |false=>rfl
   |true=>have:=bl_trans _ _ _ h e;rw [bl_irrefl] at this;cases this
  ·have:=ltB_ne h
   rw [eqB_comm] at this;exact this
structure DefsOk (b:ByteArray) (ds:List PDef):Prop where
 one:∀d∈ds,nameB d.name=true∧(d.kind=1∨d.kind=2)∧ltB b d.name
 rise:ds.Pairwise fun d e=>ltB d.name e.name
theorem defE_ok {d:PDef} {b:ByteArray} (h:defE d b=0):nameB d.name=true∧(d.kind=1∨d.kind=2)∧ltB b d.name:=by
 unfold defE at h
 split at h
 ·simp at h
 ·rename_i h1
  split at h
  ·simp at h
  ·rename_i h2
   refine ⟨by simpa using h1,?_,leqB_false.1 (by simpa using h2)⟩
   split at h
   ·left;assumption
   ·split at h
    ·right;assumption
    ·simp at h
theorem defsE_ok:∀(ds:List PDef) (b:ByteArray),defsE b ds=0→DefsOk b ds
 | [],b,_=>⟨by simp, .nil⟩
 |d :: r,b,h=>by
  rw [defsE] at h
  split at h
  ·rename_i h1;exact absurd h h1
  ·rename_i h1
   obtain ⟨k1,k2,k3⟩:=defE_ok (by simpa using h1)
   have ih:=defsE_ok r d.name h
   refine ⟨fun e he=>?_,?_⟩
   ·rcases List.mem_cons.1 he with rfl|he
    ·exact ⟨k1,k2,k3⟩
    ·obtain ⟨i1,i2,i3⟩:=ih.one e he
     exact ⟨i1,i2,ltB_trans k3 i3⟩
   ·rw [List.pairwise_cons]
    exact ⟨fun e he=>(ih.one e he).2.2,ih.rise⟩
theorem checkE_ok {s:PSchema} (h:checkE s=0):DefsOk ByteArray.empty s.defs:=by
 unfold checkE at h
 split at h
 ·simp at h
 ·split at h
  ·simp at h
  ·exact defsE_ok _ _ h
/- The place of a name. -/
theorem idxGo_first:∀(l:List Bool) (j:Nat) (k:Int),(∀i,i < j→l[i]? = some false)→l[j]? = some true→idxGo l k=k+j
 | [],j,k,_,h=>by simp at h
 |b :: r,0,k,_,h=>by simp at h;subst h;simp [idxGo]
 |b :: r,j+1,k,h1,h2=>by
  have h0:=h1 0 (by omega)
  simp at h0;subst h0
  rw [idxGo,if_neg (by simp),idxGo_first r j (k+1) (fun i hi=>by simpa using h1 (i+1) (by omega)) (by simpa using h2)]
  omega
theorem findI_at {b:ByteArray} {ds:List PDef} (h:DefsOk b ds) {j:Nat} {d:PDef} (hj:ds[j]? = some d):findI ds d.name=j:=by
 unfold findI idxB
 rw [idxGo_first _ j 0 (fun i hi=>?_) (by rw [List.getElem?_map,hj];simp [eqB_self])]
 ·omega
 ·obtain ⟨hj1,hj2⟩:=List.getElem?_eq_some_iff.1 hj
  have:=List.pairwise_iff_getElem.1 h.rise i j (by omega) hj1 hi
  rw [List.getElem?_map,List.getElem?_eq_getElem (by omega:i < ds.length),Option.map_some,←hj2,ltB_ne this]
theorem findI_get {ds:List PDef} {nm:ByteArray} (h:0≤findI ds nm):∃d,ds[(findI ds nm).toNat]? = some d:=by
 have:=idxB_lt (ds.map fun (d:PDef)=>eqB d.name nm) (by unfold findI at h;exact h)
 rw [List.length_map] at this
 have hlt:(findI ds nm).toNat < ds.length:=by unfold findI at h ⊢; omega
 exact ⟨_,List.getElem?_eq_getElem hlt⟩
theorem idxGo_true:∀(l:List Bool) (k:Int),idxGo l k ≠ -1→0≤k→l[(idxGo l k - k).toNat]? = some true
 | [],k,h,_=>by simp [idxGo] at h
 |b :: r,k,h,hk=>by
  rw [idxGo] at h ⊢
  cases b with
  |true=>simp
  |false=>
   simp only [Bool.false_eq_true,if_false] at h ⊢
   have ih:=idxGo_true r (k+1) h (by omega)
   have hb:=idxGo_bd r (k+1) (by omega)
   rcases hb with ⟨e,-⟩|⟨e,-,-⟩
   ·exact absurd e h
   ·rw [show (idxGo r (k+1) - k).toNat=(idxGo r (k+1) - (k+1)).toNat+1 by omega,List.getElem?_cons_succ]
    exact ih
theorem findI_name {ds:List PDef} {nm:ByteArray} (h:0≤findI ds nm) {d:PDef} (hd:ds[(findI ds nm).toNat]? = some d):eqB d.name nm=true:=by
 have:=idxGo_true (ds.map fun d=>eqB d.name nm) 0 (by unfold findI idxB at h;omega) (by omega)
 rw [Int.sub_zero] at this
 unfold findI idxB at hd
 rw [List.getElem?_map,hd] at this
 simpa using this
/- Attributes that fit. -/
def one (ds:List PDef) (a:PAttr):Prop:=0≤findI ds a.name∧(match ds[(findI ds a.name).toNat]? with|some d=>valueE d a|none=>0)=0
theorem fitE_iff {ds:List PDef} {b:ByteArray} {a:PAttr} : fitE ds b false a=0↔ltB b a.name∧one ds a:=by
 unfold fitE one
 by_cases h1:findI ds a.name < 0
 ·rw [if_pos h1]
  constructor
  ·intro h;simp at h
  ·rintro ⟨-,h,-⟩;omega
 ·rw [if_neg h1]
  cases h2:leqB a.name b with
  |true=>
   simp only [Bool.not_false,Bool.true_and,if_true]
   constructor
   ·intro h;simp at h
   ·rintro ⟨h,-⟩
    rw [leqB_false.2 h] at h2;cases h2
  |false=>
   simp only [Bool.not_false,Bool.true_and,Bool.false_eq_true,if_false]
   exact ⟨fun h=>⟨leqB_false.1 h2,by omega,h⟩,fun h=>h.2.2⟩
theorem fits_iff {ds:List PDef} : ∀(l:List PAttr) (b:ByteArray),fitsGo ds b false l=0↔(∀a∈l,ltB b a.name∧one ds a)∧l.Pairwise fun x y=>ltB x.name y.name
 | [],b=>by simp [fitsGo]
 |a :: r,b=>by
  rw [fitsGo]
  by_cases h:fitE ds b false a=0
  ·rw [if_neg (by simpa using h),fits_iff r a.name]
   obtain ⟨h1,h2⟩:=fitE_iff.1 h
   rw [List.pairwise_cons]
   constructor
   ·rintro ⟨k1,k2⟩
    refine ⟨fun x hx=>?_,fun x hx=>(k1 x hx).1,k2⟩
    rcases List.mem_cons.1 hx with rfl|hx
    ·exact ⟨h1,h2⟩
    ·exact ⟨ltB_trans h1 (k1 x hx).1,(k1 x hx).2⟩
   ·rintro ⟨k1,k2,k3⟩
    exact ⟨fun x hx=>⟨k2 x hx,(k1 x (by simp [hx])).2⟩,k3⟩
  ·rw [if_pos (by simpa using h)]
   constructor
   ·intro e;exact absurd e h
   ·rintro ⟨k1,-⟩;exact absurd (fitE_iff.2 (k1 a (by simp))) h
theorem fits_first {b:ByteArray} {ds:List PDef} (hd:DefsOk b ds) (hb:b=ByteArray.empty) (l:List PAttr):fitsGo ds b false l=fitsGo ds b true l:=by
 cases l with
 |nil=>rfl
 |cons a r=>
  have:fitE ds b false a=fitE ds b true a:=by
   unfold fitE
   by_cases h1:findI ds a.name < 0
   ·rw [if_pos h1,if_pos h1]
   ·rw [if_neg h1,if_neg h1]
    obtain ⟨d,hd'⟩:=findI_get (show 0≤findI ds a.name by omega)
    have hn:=findI_name (by omega) hd'
    have hm:=(hd.one d (mem_of_get' hd')).2.2
    have e:d.name.toList=a.name.toList:=by simpa [eqB] using hn
    have:leqB a.name b=false:=leqB_false.2 (by unfold ltB at hm ⊢; rw [←e];exact hm)
    simp [this]
  rw [fitsGo,fitsGo,this]
where
 mem_of_get' {α:Type} {l:List α} {j:Nat} {c:α} (h:l[j]? = some c):c∈l:=List.mem_of_getElem? h
/- An attribute found by its name. -/
/- Entries. -/
theorem entryA_E {s:PSchema} (h:checkE s=0) (e:PEntry):entryA s e=entryE s e:=by
 have hf:fitsGo s.defs ByteArray.empty false e.attrs=fitsE s e.attrs:=fits_first (checkE_ok h) rfl _
 have h1:idBad e=decide (e.id < 1∨1073741824 < e.id∨e.owner < 1∨1073741824 < e.owner∨e.ver < 1∨1073741824 < e.ver):=by
  simp only [idBad,Bool.decide_or]
 have h2:(fromBad e || (toBad e || bornBad e))=decide (e.filed < 0∨e.frm < e.filed∨e.to≤e.frm∨1048577 < e.to∨1048576 < e.frm∨e.born < 1∨1073741824 < e.born):=by
  rw [Bool.eq_iff_iff]
  simp only [fromBad,toBad,bornBad,Bool.or_eq_true,decide_eq_true_eq]
  constructor<;>intro h<;>omega
 have h3:vecBad s e=decide (validV e.vec=false∨(e.vec.length:Int)≠s.dims):=by
  rw [Bool.eq_iff_iff]
  simp only [vecBad,Bool.or_eq_true,bne_iff_ne,Bool.not_eq_true',decide_eq_true_eq]
  exact ⟨fun h=>h.symm,fun h=>h.symm⟩
 unfold entryA entR entryE
 rw [hf]
 simp only [firstE,h1,h3]
 by_cases g1:e.id < 1∨1073741824 < e.id∨e.owner < 1∨1073741824 < e.owner∨e.ver < 1∨1073741824 < e.ver
 ·simp [g1]
 ·rw [if_neg g1]
  simp only [g1,decide_false,Bool.false_eq_true,if_false]
  by_cases g2:e.filed < 0∨e.frm < e.filed∨e.to≤e.frm∨1048577 < e.to∨1048576 < e.frm∨e.born < 1∨1073741824 < e.born
  ·rw [if_pos g2]
   rw [decide_eq_true g2] at h2
   simp only [Bool.or_eq_true] at h2
   cases ha:fromBad e<;>cases hb:toBad e<;>cases hc:bornBad e<;>simp_all
  ·rw [if_neg g2]
   rw [decide_eq_false g2] at h2
   simp only [Bool.or_eq_false_iff] at h2
   simp only [h2.1,h2.2.1,h2.2.2,Bool.false_eq_true,if_false]
   by_cases g3:validV e.vec=false∨(e.vec.length:Int)≠s.dims
   ·simp [g3]
   ·simp [g3]
end Go.Proofs.YtoamkpgaaanafaaGreat

/- Ascending lists of words; their sets; what is merged of two (no program). -/
namespace Go.Proofs.YtoamkpgaaanafaaGreat
set_option linter.unusedSimpArgs false
set_option linter.unusedVariables false
set_option linter.unnecessarySimpa false
open Go.RowKit
theorem bl_lt:∀a b:List UInt8,Op.bytesLess a b=true↔a < b
 |a,[]=>by cases a<;>simp [Op.bytesLess]
 | [],b :: y=>by simp [Op.bytesLess]
 |a :: x,b :: y=>by
  simp only [Op.bytesLess,Bool.or_eq_true,Bool.and_eq_true,decide_eq_true_eq,beq_iff_eq,List.cons_lt_cons_iff,bl_lt x y]
theorem ltB_iff (a b:ByteArray):ltB a b↔a.data.toList < b.data.toList:=by
 unfold ltB
 rw [ByteArray.toList_eq,ByteArray.toList_eq,bl_lt]
theorem ltB_irrefl (a:ByteArray):¬ltB a a:=fun h=>by
 unfold ltB at h
 rw [bl_irrefl] at h;cases h
theorem ltB_total (a b:ByteArray):ltB a b∨a=b∨ltB b a:=by
 by_cases h:ltB a b
 ·exact .inl h
 ·by_cases e:a=b
  ·exact .inr (.inl e)
  ·refine .inr (.inr (bl_total _ _ ?_ fun h2=>e ?_))
   ·unfold ltB at h;simpa using h
   ·rw [ByteArray.toList_eq,ByteArray.toList_eq] at h2
    exact ba_ext h2
def Asc (l:List ByteArray):Prop:=l.Pairwise ltB
theorem Asc.nodup {l:List ByteArray} (h:Asc l):l.Nodup:=List.Pairwise.imp (fun {a b} hab e=>by subst e;exact ltB_irrefl a hab) h
theorem asc_nil:Asc []:=.nil
theorem asc_one (a:ByteArray):Asc [a]:=List.pairwise_singleton _ _
theorem sortS_asc {ks:List ByteArray} (h:ks.Nodup):Asc (sortS ks):=by
 have tr:∀a b c:List UInt8,leB a b=true→leB b c=true→leB a c=true:=fun a b c h1 h2=>by simp only [leB,decide_eq_true_eq] at *; exact List.le_trans h1 h2
 have to:∀a b:List UInt8,(leB a b || leB b a)=true:=fun a b=>by simp only [leB,Bool.or_eq_true,decide_eq_true_eq];exact List.le_total a b
 have h1:=List.pairwise_mergeSort tr to (ks.map fun k=>k.data.toList)
 have h2:(sortS ks).Pairwise fun a b=>leB a.data.toList b.data.toList=true:=by
  unfold sortS
  rw [List.pairwise_map]
  exact h1.imp (fun {a b} hab=>by simpa using hab)
 have h3:(sortS ks).Nodup:=(sortS_perm ks).nodup_iff.2 h
 refine (List.Pairwise.and h2 h3).imp fun {a b} hab=>?_
 obtain ⟨p,q⟩:=hab
 rcases ltB_total a b with h|h|h
 ·exact h
 ·exact absurd h q
 ·exfalso
  rw [ltB_iff] at h
  simp only [leB,decide_eq_true_eq] at p
  exact p h
theorem Asc.ext {l m:List ByteArray} (h1:Asc l) (h2:Asc m) (h:∀x,x∈l↔x∈m):l=m:=by
 have hp:l.Perm m:=(List.perm_ext_iff_of_nodup h1.nodup h2.nodup).2 h
 exact hp.eq_of_pairwise (le:=ltB) (fun a b _ _ p q=>absurd (ltB_trans p q) (ltB_irrefl a)) h1 h2
theorem sortS_mem {ks:List ByteArray} {x:ByteArray} : x∈sortS ks↔x∈ks:=(sortS_perm ks).mem_iff
theorem sortS_eq {ks l:List ByteArray} (h:ks.Nodup) (ha:Asc l) (hm:∀x,x∈ks↔x∈l):sortS ks=l:=
 (sortS_asc h).ext ha fun x=>sortS_mem.trans (hm x)
def mergeW:List ByteArray→List ByteArray→List ByteArray
 | [],b=>b
 |x :: a,[]=>x :: a
 |x :: a,y :: b=>if Op.bytesLess x.toList y.toList=true then x :: mergeW a (y :: b) else if x.toList == y.toList then y :: mergeW a b else y :: mergeW (x :: a) b
termination_by a b=>a.length+b.length
theorem mergeW_nil (a:List ByteArray):mergeW a []=a:=by cases a<;>simp [mergeW]
theorem toList_inj {a b:ByteArray} (h:a.toList=b.toList):a=b:=by
 rw [ByteArray.toList_eq,ByteArray.toList_eq] at h
 exact ba_ext h
theorem mergeW_spec:∀a b:List ByteArray,Asc a→Asc b→Asc (mergeW a b)∧∀x,x∈mergeW a b↔x∈a∨x∈b
 | [],b,_,hb=>⟨by rw [mergeW];exact hb,by simp [mergeW]⟩
 |x :: a,[],ha,_=>⟨by rw [mergeW];exact ha,by simp [mergeW]⟩
 |x :: a,y :: b,ha,hb=>by
  have ha':=List.pairwise_cons.1 ha
  have hb':=List.pairwise_cons.1 hb
  rw [mergeW]
  split
  ·rename_i h
   obtain ⟨i1,i2⟩:=mergeW_spec a (y :: b) ha'.2 hb
   refine ⟨List.pairwise_cons.2 ⟨fun z hz=>?_,i1⟩,fun z=>?_⟩
   ·rcases (i2 z).1 hz with h1|h1
    ·exact ha'.1 z h1
    ·rcases List.mem_cons.1 h1 with rfl|h1
     ·exact h
     ·exact ltB_trans h (hb'.1 z h1)
   ·rw [List.mem_cons,i2,List.mem_cons (a:=z) (b:=x),or_assoc]
  ·rename_i h
   split
   ·rename_i e
    have e' : x=y:=toList_inj (by simpa using e)
    subst e'
    obtain ⟨i1,i2⟩:=mergeW_spec a b ha'.2 hb'.2
    refine ⟨List.pairwise_cons.2 ⟨fun z hz=>?_,i1⟩,fun z=>?_⟩
    ·rcases (i2 z).1 hz with h1|h1
     ·exact ha'.1 z h1
     ·exact hb'.1 z h1
    ·simp only [List.mem_cons,i2]
     constructor
     ·rintro (h|h|h)<;>simp [h]
     ·rintro ((h|h)|h|h)<;>simp [h]
   ·rename_i e
    have hyx:ltB y x:=by
     rcases ltB_total x y with h1|h1|h1
     ·exact absurd h1 h
     ·subst h1;simp at e
     ·exact h1
    obtain ⟨i1,i2⟩:=mergeW_spec (x :: a) b ha hb'.2
    refine ⟨List.pairwise_cons.2 ⟨fun z hz=>?_,i1⟩,fun z=>?_⟩
    ·rcases (i2 z).1 hz with h1|h1
     ·rcases List.mem_cons.1 h1 with rfl|h1
      ·exact hyx
      ·exact ltB_trans hyx (ha'.1 z h1)
     ·exact hb'.1 z h1
    ·simp only [List.mem_cons,i2]
     constructor
     ·rintro (h|(h|h)|h)<;>simp [h]
     ·rintro ((h|h)|h|h)<;>simp [h]
termination_by a b=>a.length+b.length
theorem mergeW_len:∀a b:List ByteArray,(mergeW a b).length≤a.length+b.length
 | [],b=>by simp [mergeW]
 |x :: a,[]=>by simp [mergeW]
 |x :: a,y :: b=>by
  rw [mergeW]
  split
  ·have:=mergeW_len a (y :: b);simp only [List.length_cons] at *; omega
  ·split
   ·have:=mergeW_len a b;simp only [List.length_cons] at *; omega
   ·have:=mergeW_len (x :: a) b;simp only [List.length_cons] at *; omega
termination_by a b=>a.length+b.length
theorem sortS_add {ks:List ByteArray} {s:ByteArray} (h:ks.Nodup):sortS (addK ks s)=mergeW (sortS ks) [s]:=by
 obtain ⟨h1,h2⟩:=mergeW_spec (sortS ks) [s] (sortS_asc h) (asc_one s)
 refine sortS_eq (addK_nodup s h) h1 fun x=>?_
 rw [addK_mem,h2,sortS_mem,List.mem_singleton]
theorem sortS_nil:sortS [] = []:=sortS_eq .nil asc_nil fun _=>Iff.rfl
theorem sortS_one (s:ByteArray):sortS [s] = [s]:=sortS_eq (by simp) (asc_one s) fun _=>Iff.rfl
end Go.Proofs.YtoamkpgaaanafaaGreat

/- zone: sums of fields (no program). -/
namespace Go.Proofs.YtoamkpgaaanafaaGreat
set_option linter.unusedSimpArgs false
set_option linter.unusedVariables false
set_option linter.unnecessarySimpa false
open Go.RowKit
def mnI (n y:Int):Int:=if y < n then y else n
def mxI (n y:Int):Int:=if y > n then y else n
theorem mnI_eq (n y:Int):mnI n y=min n y:=by unfold mnI;split<;>omega
theorem mxI_eq (n y:Int):mxI n y=max n y:=by unfold mxI;split<;>omega
def fldOne (d:PDef) (e:PEntry):PField:=if (getA e.attrs d.name).2=true then ⟨1,(getA e.attrs d.name).1.n,(getA e.attrs d.name).1.n,if d.kind=2 then [(getA e.attrs d.name).1.s] else []⟩ else ⟨0,0,0,[]⟩
def joinR (a b:PField):PField:=if a.has=0 then b else if b.has=0 then a else ⟨a.has+b.has,mnI a.lo b.lo,mxI a.hi b.hi,mergeW a.words b.words⟩
structure FieldOK (f:PField):Prop where
 has:0≤f.has
 none:f.has=0→f.lo=0∧f.hi=0∧f.words = []
 asc:Asc f.words
theorem fldOne_ok (d:PDef) (e:PEntry):FieldOK (fldOne d e):=by
 unfold fldOne
 split
 ·refine ⟨by simp,fun h=>by simp at h,?_⟩
  simp only;split
  ·exact asc_one _
  ·exact asc_nil
 ·exact ⟨by simp,fun _=>⟨rfl,rfl,rfl⟩,asc_nil⟩
def FInv (st:FSt):Prop:=0≤st.has∧st.ks.Nodup∧(st.has=0→st.lo=0∧st.hi=0∧st.ks = [])
theorem fldStep_inv {d:PDef} {st:FSt} {e:PEntry} (h:FInv st):FInv (fldStep d st e):=by
 obtain ⟨h1,h2,h3⟩:=h
 unfold fldStep
 split
 ·exact ⟨h1,h2,h3⟩
 ·refine ⟨by simp only;omega,?_,fun h=>by simp only at h;omega⟩
  simp only;split
  ·exact addK_nodup _ h2
  ·exact h2
theorem foldl_inv {d:PDef} (l:List PEntry):∀st,FInv st→FInv (l.foldl (fldStep d) st):=by
 induction l with
 |nil=>exact fun st h=>h
 |cons a r ih=>exact fun st h=>ih _ (fldStep_inv h)
theorem fldSt_inv (d:PDef) (l:List PEntry):FInv (fldSt d l):=foldl_inv l _ ⟨by simp, .nil,fun _=>⟨rfl,rfl,rfl⟩⟩
theorem fieldOfP_nil (d:PDef):fieldOfP d []=⟨0,0,0,[]⟩:=by simp [fieldOfP,fldSt,sortS_nil]
theorem fieldOfP_snoc (d:PDef) (l:List PEntry) (e:PEntry):fieldOfP d (l ++ [e])=joinR (fieldOfP d l) (fldOne d e):=by
 have hi:=fldSt_inv d l
 have hs:fldSt d (l ++ [e])=fldStep d (fldSt d l) e:=by unfold fldSt;rw [List.foldl_append];rfl
 unfold fieldOfP
 rw [hs]
 generalize fldSt d l=st at *
 obtain ⟨h1,h2,h3⟩:=hi
 unfold fldStep fldOne joinR
 cases q:(getA e.attrs d.name).2 with
 |false=>
  by_cases z:st.has=0
  ·obtain ⟨a,b,c⟩:=h3 z
   simp [z,a,b,c,sortS_nil]
  ·simp [z]
 |true=>
  by_cases z:st.has=0
  ·obtain ⟨a,b,c⟩:=h3 z
   by_cases k:d.kind=2<;>simp [z,c,k,addK,sortS_nil,sortS_one]
  ·by_cases k:d.kind=2
   ·simp [z,k,sortS_add h2,mnI_eq,mxI_eq]
   ·simp [z,k,mergeW_nil,mnI_eq,mxI_eq]
theorem fieldOfP_one (d:PDef) (e:PEntry):fieldOfP d [e]=fldOne d e:=by
 have:=fieldOfP_snoc d [] e
 rw [fieldOfP_nil] at this
 simpa [joinR] using this
theorem fieldOfP_ok (d:PDef) (l:List PEntry):FieldOK (fieldOfP d l):=by
 obtain ⟨h1,h2,h3⟩:=fldSt_inv d l
 refine ⟨h1,fun h=>?_,sortS_asc h2⟩
 obtain ⟨a,b,c⟩:=h3 h
 exact ⟨a,b,by simp [fieldOfP,c,sortS_nil]⟩
/- Sums. -/
def singleP (s:PSchema) (pv:List (List Int)) (e:PEntry):PSum:=⟨1,⟨e.vec,e.vec⟩,pv.map fun p=>⟨keyV s.metric p e.vec,keyV s.metric p e.vec⟩,e.frm,e.frm,e.to,e.born,e.born,s.defs.map fun d=>fldOne d e⟩
def zeroZ:PSum:=⟨0,⟨[],[]⟩,[],0,0,0,0,0,[]⟩
def joinSum (jf:PField→PField→PField) (s:PSchema) (a b:PSum):PSum×Int:=
 if a.shells.length≠b.shells.length then (zeroZ,1)
 else if 4096 < a.count+b.count then (zeroZ,2)
 else (⟨a.count+b.count,(boxJoin a.box b.box).1,(shJoin a.shells b.shells).1,mnI a.fromLo b.fromLo,mxI a.fromHi b.fromHi,mxI a.toHi b.toHi,mnI a.bornLo b.bornLo,mxI a.bornHi b.bornHi,(List.range s.defs.length).map fun k=>jf (a.fields.getD k default) (b.fields.getD k default)⟩,0)
structure TSt where
 fromLo:Int
 fromHi:Int
 toHi:Int
 bornLo:Int
 bornHi:Int
def tStep (t:TSt) (e:PEntry):TSt:=⟨mnI t.fromLo e.frm,mxI t.fromHi e.frm,mxI t.toHi e.to,mnI t.bornLo e.born,mxI t.bornHi e.born⟩
def tOne (e:PEntry):TSt:=⟨e.frm,e.frm,e.to,e.born,e.born⟩
def tK (l:List PEntry) (k:Nat):TSt:=(l.take k).foldl tStep (tOne (l.getD 0 default))
def tSt (l:List PEntry):TSt:=l.foldl tStep (tOne (l.getD 0 default))
noncomputable def ofL (s:PSchema) (pv:List (List Int)) (l:List PEntry):PSum:=
 ⟨l.length,(boxOf (l.map (·.vec))).1,if 0 < pv.length then (shellP s.metric pv (l.map (·.vec))).1 else [],(tSt l).fromLo,(tSt l).fromHi,(tSt l).toHi,(tSt l).bornLo,(tSt l).bornHi,s.defs.map fun d=>fieldOfP d l⟩
def wrongV (s:PSchema) (v:List Int):Bool := !vecB v || decide ((v.length:Int)≠s.dims)
noncomputable def zOf (s:PSchema) (pv:List (List Int)) (l:List PEntry):PSum×Int:=
 if checkE s≠0∨8 < pv.length∨pv.any (wrongV s)=true then (zeroZ,1)
 else if l.length=0∨(l.any fun e=>decide (entryA s e≠0))=true then (zeroZ,3)
 else if 4096 < l.length then (zeroZ,2)
 else (ofL s pv l,0)
def refL (s:PSchema) (pv:List (List Int)) (l:List PEntry):PSum:=(l.drop 1).foldl (fun z e=>(joinSum joinR s z (singleP s pv e)).1) (singleP s pv (l.getD 0 default))
def refOf (s:PSchema) (pv:List (List Int)) (l:List PEntry):PSum×Int:=
 if checkE s≠0∨8 < pv.length∨pv.any (wrongV s)=true then (zeroZ,1)
 else if (l.any fun e=>decide (entryE s e≠0))=true∨l.length=0 then (zeroZ,3)
 else if 4096 < l.length then (zeroZ,2)
 else (refL s pv l,0)
end Go.Proofs.YtoamkpgaaanafaaGreat
