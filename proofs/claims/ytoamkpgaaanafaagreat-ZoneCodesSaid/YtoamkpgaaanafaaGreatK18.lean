/- Out of: Zp, Sm, Sn, Sw, Qd, Qe. -/
import Derived.Test.YtoamkpgaaanafaaGreatShelf
import Derived.Test.YtoamkpgaaanafaaGreatIter
import Derived.Test.YtoamkpgaaanafaaGreatK1
import Derived.Test.YtoamkpgaaanafaaGreatK2
import Derived.Test.YtoamkpgaaanafaaGreatK3
import Derived.Test.YtoamkpgaaanafaaGreatK4
import Derived.Test.YtoamkpgaaanafaaGreatK5
import Derived.Test.YtoamkpgaaanafaaGreatK6
import Derived.Test.YtoamkpgaaanafaaGreatK8
import Derived.Test.YtoamkpgaaanafaaGreatK9
import Derived.Test.YtoamkpgaaanafaaGreatK10
import Derived.Test.YtoamkpgaaanafaaGreatK11
import Derived.Test.YtoamkpgaaanafaaGreatK12
import Derived.Test.YtoamkpgaaanafaaGreatK13
import Derived.Test.YtoamkpgaaanafaaGreatK14
import Derived.Test.YtoamkpgaaanafaaGreatK15
namespace Go.Proofs.YtoamkpgaaanafaaGreat
set_option linter.unusedSimpArgs false
set_option linter.unusedVariables false
set_option linter.unnecessarySimpa false
section
open Go.RowKit
instance:Inhabited PDef:=⟨⟨ByteArray.empty,0,0,0,[]⟩⟩
structure PField where
 has:Int
 lo:Int
 hi:Int
 words:List ByteArray
 deriving Inhabited
def pfldL (f:PField):List PV := [pint f.has,pint f.lo,pint f.hi,pstrs f.words]
def pfld (f:PField):PV:=.agg (pfldL f)
def pflds (l:List PField):PV:=.sl l.length 4 (l.flatMap pfldL) none
theorem low_pfldL (f:PField):∀c∈pfldL f,Low c:=by
 intro c hc
 simp only [pfldL,List.mem_cons,List.not_mem_nil,or_false] at hc
 rcases hc with rfl|rfl|rfl|rfl
 ·exact .val _
 ·exact .val _
 ·exact .val _
 ·exact (low_pstrs _).2 trivial
theorem low_pfld (f:PField):Low (pfld f)↔True:=⟨fun _=>trivial,fun _=>.agg _ (low_pfldL f)⟩
theorem low_pflds (l:List PField):Low (pflds l)↔True:=by
 simp only [pflds,low_sl,iff_true]
 intro c hc
 obtain ⟨z,-,hz⟩:=List.mem_flatMap.1 hc
 exact low_pfldL z c hz
structure PSum where
 count:Int
 box:PBox
 shells:List PShell
 fromLo:Int
 fromHi:Int
 toHi:Int
 bornLo:Int
 bornHi:Int
 fields:List PField
 deriving Inhabited
def psumL (z:PSum):List PV := [pint z.count,pints z.box.lo,pints z.box.hi,pshells z.shells,pint z.fromLo,pint z.fromHi,pint z.toHi,pint z.bornLo,pint z.bornHi,pflds z.fields]
def psum (z:PSum):PV:=.agg (psumL z)
theorem low_psumL (z:PSum):∀c∈psumL z,Low c:=by
 intro c hc
 simp only [psumL,List.mem_cons,List.not_mem_nil,or_false] at hc
 rcases hc with rfl|rfl|rfl|rfl|rfl|rfl|rfl|rfl|rfl|rfl
 ·exact .val _
 ·exact (low_pints _).2 trivial
 ·exact (low_pints _).2 trivial
 ·exact (low_pshells _).2 trivial
 ·exact .val _
 ·exact .val _
 ·exact .val _
 ·exact .val _
 ·exact .val _
 ·exact (low_pflds _).2 trivial
theorem low_psum (z:PSum):Low (psum z)↔True:=⟨fun _=>trivial,fun _=>.agg _ (low_psumL z)⟩
theorem pc_containsS (l:List ByteArray) (s:ByteArray) (hl:l.length≤1000000000):PCalls Tryz.prog 73 [pstrs l,pstr s] (· = pbool (hasB l s)):=
 pcalls2 (by kernel_rfl) fun Φ μ w v u himm hr hr2=>by
  obtain ⟨rfl,-⟩:=hr2.val_inv
  exact (slicesContainsS v l s w (strs_of_rep himm hr) hl).mono (by
   rintro e w' ⟨rfl,hb⟩
   exact post_flat himm (.val _ rfl) rfl rfl (by first|exact hb|exact hb.below _|(subst hb;exact Below.refl _ _)))
def withinB (n lo hi:Int):Bool:=decide (lo≤n) && decide (n≤hi)
theorem pw_isWithin (n lo hi:Int):PCalls Tryz.prog 64 [pint n,pint lo,pint hi] (· = pbool (withinB n lo hi)):=by
 refine pcalls_of_pw typeTab_ok Tryz.func64 rfl (by kernel_rfl) (by simp [low_pint]) (by simp [pint,PV.ownB]) (by rw [Tryz.ntmps64];simp) ?_
 rw [Tryz.ntmps64,Tryz.results64]
 unfold withinB
 by_cases h1:lo≤n
 ·by_cases h2:n≤hi
  ·refine wk ?_
   exact retP rfl (by exact lw) (by simp [pbool,h1,h2])
  ·refine wk ?_
   exact retP rfl (by exact lw) (by simp [pbool,h2])
 ·refine wk ?_
  exact retP rfl (by exact lw) (by simp [pbool,h1])
def wordOK (d:PDef) (w:List ByteArray) (i:Nat):Bool:=hasB d.words (w.getD i default) && (decide (i=0) || !leqB (w.getD i default) (w.getD (i - 1) default))
def fieldB (d:PDef) (f:PField) (count:Int):Bool:=
 if withinB f.has 0 count=false then false
 else if 0 < f.has∧d.kind=1 then withinB f.lo d.lo f.hi && (decide (f.hi≤d.hi) && decide (f.words.length=0))
 else if f.lo≠0∨f.hi≠0∨decide (0 < f.has)≠decide (0 < f.words.length) then false
 else (List.range f.words.length).all (wordOK d f.words)
theorem low_pdef (d:PDef):Low (.agg (pdefL d)):=by simp [low_agg,pdefL,low_pint,low_pstr,low_pstrs]
set_option maxRecDepth 10000 in
set_option maxHeartbeats 2000000 in
theorem pw_isField (d:PDef) (f:PField) (count:Int) (h1:d.words.length≤1000000) (h2:f.words.length≤1000000):PCalls Tryz.prog 67 [.agg (pdefL d),pfld f,pint count] (· = pbool (fieldB d f count)):=by
 have hw:=pw_isWithin f.has 0 count
 have hd1:=low_pdefL d
 have hf1:=low_pfldL f
 refine pcalls_of_pw typeTab_ok Tryz.func67 rfl (by kernel_rfl) (by simp [low_pint,low_pfld,low_pdef]) (by simp [pfld,pfldL,pdefL,pint,PV.ownB]) (by rw [Tryz.ntmps67];simp) ?_
 rw [Tryz.ntmps67,Tryz.results67]
 unfold fieldB
 unfold pfld pfldL pdefL at *
 cases e1:withinB f.has 0 count with
 |false=>
  rw [e1] at hw
  refine wk ?_
  exact retP rfl (by exact lw) rfl
 |true=>
  rw [e1] at hw
  rw [if_neg (by simp)]
  by_cases e2:0 < f.has∧d.kind=1
  ·obtain ⟨e3,e4⟩:=e2
   have hw2:=pw_isWithin f.lo d.lo f.hi
   rw [if_pos ⟨e3,e4⟩]
   cases e5:withinB f.lo d.lo f.hi with
   |false=>
    rw [e5] at hw2
    refine wk ?_
    exact retP rfl (by exact lw) rfl
   |true=>
    rw [e5] at hw2
    by_cases e6:f.hi≤d.hi
    ·by_cases e7:f.words.length=0
     ·refine wk ?_
      exact retP rfl (by exact lw) (by simp [pbool,e6,e7])
     ·refine wk ?_
      exact retP rfl (by exact lw) (by simp only [pbool,decide_eq_false e7,Bool.and_false])
    ·refine wk ?_
     exact retP rfl (by exact lw) (by simp [pbool,e6])
  ·rw [if_neg e2]
   have hall:∀k,wordOK d f.words k=false→k < f.words.length→(List.range f.words.length).all (wordOK d f.words)=false:=fun k h hk=>by
    rw [List.all_eq_false];exact ⟨k,by simp [hk],by rw [h];decide⟩
   have e2' : (0 < f.has∧¬d.kind=1)∨¬0 < f.has:=by omega
   rcases e2' with ⟨e3,e4⟩|e3
   all_goals
    by_cases e5:f.lo=0
    ·by_cases e6:f.hi=0
     ·by_cases e7:decide (0 < f.has)=decide (0 < f.words.length)
      ·rw [if_neg (by simp [e5,e6,e7])]
       have e8:(0 < f.has∧0 < f.words.length)∨(¬0 < f.has∧¬0 < f.words.length):=by
        by_cases q1:0 < f.has<;>by_cases q2:0 < f.words.length<;>simp [q1,q2] at e7 ⊢
       rcases e8 with ⟨q1,q2⟩|⟨q1,q2⟩
       ·first
        |omega
        |refine wk ?_
         refine PW.loop (fun k:Nat=>(((((bot.setb 0 (pdefL d)).setb 1 (pfldL f)).put 3 (.ptr 0 0)).put 4 (.ptr 1 0)).put 64 (pstrs f.words) |>.put 65 (pint f.words.length)).put 66 (pint k)) (fun k=>k≤f.words.length∧∀j,j < k→wordOK d f.words j=true) (fun k=>f.words.length - k) 0 ⟨by omega,by simp⟩ ?_ ?_
         ·exact sb
         ·rintro k ⟨hk,ha⟩
          clear hw
          by_cases hlt:k < f.words.length
          ·have hc:=pc_containsS d.words (f.words.getD k default) (by omega)
           cases c1:hasB d.words (f.words.getD k default) with
           |false=>
            rw [c1] at hc
            refine wk ?_
            refine retP rfl (by exact lw) ?_
            rw [hall k (by simp only [wordOK,c1,Bool.false_and]) hlt];rfl
           |true=>
            rw [c1] at hc
            by_cases hk0:k=0
            ·refine wk ?_
             have hI:k+1≤f.words.length∧∀j,j < k+1→wordOK d f.words j=true:=⟨by omega,fun j hj=>by
              obtain rfl:j=k:=by omega
              simp only [wordOK,c1,decide_eq_true hk0,Bool.true_or,Bool.and_self]⟩
             refine loopP (k+1) ?_ ?_ ?_
             ·exact hI
             ·omega
             ·exact sb
            ·have ek:((k:Int) - 1).toNat=k - 1:=by omega
             cases c2:leqB (f.words.getD k default) (f.words.getD (((k:Int) - 1).toNat) default) with
             |true=>
              refine wk ?_
              refine retP rfl (by exact lw) ?_
              rw [ek] at c2
              rw [hall k (by simp only [wordOK,c1,c2,decide_eq_false hk0];rfl) hlt];rfl
             |false=>
              refine wk ?_
              rw [ek] at c2
              have hI:k+1≤f.words.length∧∀j,j < k+1→wordOK d f.words j=true:=⟨by omega,fun j hj=>by
               rcases Nat.lt_succ_iff_lt_or_eq.1 hj with h|h
               ·exact ha j h
               ·rw [h];simp only [wordOK,c1,c2,Bool.not_false,Bool.or_true,Bool.and_self]⟩
              refine loopP (k+1) ?_ ?_ ?_
              ·exact hI
              ·omega
              ·exact sb
          ·refine wk ?_
           refine retP rfl (by exact lw) ?_
           have:(List.range f.words.length).all (wordOK d f.words)=true:=by
            rw [List.all_eq_true];intro j hj;exact ha j (by simp at hj;omega)
           rw [this];rfl
       ·first
        |omega
        |refine wk ?_
         refine PW.loop (fun k:Nat=>(((((bot.setb 0 (pdefL d)).setb 1 (pfldL f)).put 3 (.ptr 0 0)).put 4 (.ptr 1 0)).put 64 (pstrs f.words) |>.put 65 (pint f.words.length)).put 66 (pint k)) (fun k=>k≤f.words.length∧∀j,j < k→wordOK d f.words j=true) (fun k=>f.words.length - k) 0 ⟨by omega,by simp⟩ ?_ ?_
         ·exact sb
         ·rintro k ⟨hk,ha⟩
          clear hw
          have hlt:¬k < f.words.length:=by omega
          ·refine wk ?_
           refine retP rfl (by exact lw) ?_
           have:(List.range f.words.length).all (wordOK d f.words)=true:=by
            rw [List.all_eq_true];intro j hj;exact ha j (by simp at hj;omega)
           rw [this];rfl
      ·rw [if_pos (.inr (.inr e7))]
       have e8:(0 < f.has∧¬0 < f.words.length)∨(¬0 < f.has∧0 < f.words.length):=by
        by_cases q1:0 < f.has<;>by_cases q2:0 < f.words.length<;>simp [q1,q2] at e7 ⊢
       rcases e8 with ⟨q1,q2⟩|⟨q1,q2⟩
       all_goals
        first
        |omega
        |refine wk ?_
         exact retP rfl (by exact lw) rfl
     ·rw [if_pos (.inr (.inl e6))]
      refine wk ?_
      exact retP rfl (by exact lw) rfl
    ·rw [if_pos (.inl e5)]
     refine wk ?_
     exact retP rfl (by exact lw) rfl
def sIdx (s:ByteArray):List ByteArray→Nat→Option Nat
 | [],_=>none
 |k :: l,n=>if s == k then some n else sIdx s l (n+1)
theorem sIdx_some {s:ByteArray} : ∀{l:List ByteArray} {n j:Nat},sIdx s l n=some j→n≤j∧l[j - n]? = some s
 | [],n,j,h=>by cases h
 |k :: l,n,j,h=>by
  simp only [sIdx] at h
  split at h
  ·rename_i e
   cases h
   exact ⟨Nat.le_refl _,by simp [(ba_beq s k).1 e]⟩
  ·obtain ⟨h1,h2⟩:=sIdx_some h
   exact ⟨by omega,by rw [show j - n=(j - (n+1))+1 by omega];simpa using h2⟩
theorem sIdx_none {s:ByteArray} : ∀{l:List ByteArray} {n:Nat},sIdx s l n=none→s∉l
 | [],n,h=>by simp
 |k :: l,n,h=>by
  simp only [sIdx] at h
  split at h
  ·cases h
  ·rename_i e
   have:=sIdx_none h
   simp only [List.mem_cons,not_or]
   exact ⟨fun e2=>e ((ba_beq s k).2 e2),this⟩
theorem mfind_str (s:ByteArray):∀(l:List (Nat×ByteArray)) (n:Nat),mfind .str (.string s) (l.map fun e=>(e.1,pstr e.2,pbool true)) n=some (sIdx s (l.map (·.2)) n)
 | [],n=>rfl
 |(i,k) :: l,n=>by
  simp only [List.map_cons,pstr,mfind,veq,sIdx]
  cases h:s == k with
  |true=>simp
  |false=>
   simp only [Bool.false_eq_true,if_false]
   exact mfind_str s l (n+1)
def smI (ks:List ByteArray):List (Nat×ByteArray):=(List.range ks.length).map fun i=>(i,ks.getD i default)
def smE (ks:List ByteArray):List (Nat×PV×PV):=(smI ks).map fun e=>(e.1,pstr e.2,pbool true)
def smL (ks:List ByteArray):PMap:=.map (smE ks) ks.length
theorem smI_snd (ks:List ByteArray):(smI ks).map (·.2)=ks:=by
 apply List.ext_getElem?
 intro i
 simp only [smI,List.map_map,List.getElem?_map]
 by_cases h:i < ks.length
 ·simp [List.getElem?_range h,h]
 ·rw [List.getElem?_eq_none (by simpa using h),List.getElem?_eq_none (by simpa using h)];rfl
theorem smE_len (ks:List ByteArray):(smE ks).length=ks.length:=by simp [smE,smI]
theorem smE_get {ks:List ByteArray} {i:Nat} {k:ByteArray} (h:ks[i]? = some k):(smE ks)[i]? = some (i,pstr k,pbool true):=by
 obtain ⟨hi,rfl⟩:=List.getElem?_eq_some_iff.1 h
 simp [smE,smI,List.getElem?_range hi,hi]
theorem smE_app (ks:List ByteArray) (s:ByteArray):smE (ks ++ [s])=smE ks ++ [(ks.length,pstr s,pbool true)]:=by
 simp only [smE,smI,List.length_append,List.length_singleton,List.range_succ,List.map_append,List.map_cons,List.map_nil]
 congr 1
 ·rw [List.map_map,List.map_map]
  apply List.map_congr_left
  intro i hi
  have hi' : i < ks.length:=by simpa using hi
  simp [List.getElem?_append_left hi']
 ·simp
open Classical in
noncomputable def addK (ks:List ByteArray) (s:ByteArray):List ByteArray:=if s∈ks then ks else ks ++ [s]
theorem addK_mem {ks:List ByteArray} {s x:ByteArray} : x∈addK ks s↔x∈ks∨x=s:=by
 unfold addK
 split
 ·constructor
  ·exact .inl
  ·rintro (h|rfl)
   ·exact h
   ·assumption
 ·simp
theorem addK_nodup {ks:List ByteArray} (s:ByteArray) (h:ks.Nodup):(addK ks s).Nodup:=by
 unfold addK
 split
 ·exact h
 ·rename_i hs
  rw [List.nodup_append]
  exact ⟨h,by simp,fun a ha b hb=>by simp at hb;subst hb;rintro rfl;exact hs ha⟩
theorem addK_len (ks:List ByteArray) (s:ByteArray):(addK ks s).length≤ks.length+1:=by
 unfold addK;split<;>simp
theorem sm_mput (ks:List ByteArray) (s:ByteArray) {ki:TyI} (hk:ki.kind = .str):mput ki (smE ks) ks.length (.string s) (pbool true)=some (smL (addK ks s)):=by
 unfold mput addK
 simp only [hk,keyOK,skT,if_true,smE,mfind_str,smI_snd]
 cases h:sIdx s ks 0 with
 |none=>
  rw [if_neg (sIdx_none h)]
  simp only [smL,smE_app,List.length_append,List.length_singleton]
  rfl
 |some j=>
  obtain ⟨-,h2⟩:=sIdx_some h
  rw [Nat.sub_zero] at h2
  have h3:=smE_get h2
  have hm:s∈ks:=List.mem_of_getElem? h2
  rw [if_pos hm]
  have h4:((smI ks).map fun e=>(e.1,pstr e.2,pbool true))[j]? = some (j,pstr s,pbool true):=h3
  simp only [h4]
  simp only [smL,smE]
  congr 2
  obtain ⟨hj,h5⟩:=List.getElem?_eq_some_iff.1 h4
  have:(j,PV.val (.string s),pbool true)=((smI ks).map fun e=>(e.1,pstr e.2,pbool true))[j]:=h5.symm
  rw [this,List.set_getElem_self]
def sortS (ks:List ByteArray):List ByteArray:=((ks.map fun k=>k.data.toList).mergeSort leB).map fun x=>⟨x.toArray⟩
theorem sortS_perm (ks:List ByteArray):(sortS ks).Perm ks:=by
 have h:=(List.mergeSort_perm (ks.map fun k=>k.data.toList) leB).map fun x:List UInt8=>(⟨x.toArray⟩:ByteArray)
 rw [List.map_map] at h
 have e:((fun x:List UInt8=>(⟨x.toArray⟩:ByteArray)) ∘ fun k:ByteArray=>k.data.toList)=id:=by funext k;rfl
 rw [e,List.map_id] at h
 exact h
def smR:Value→Option (DataW Unit×List MemPlace):=fun _=>some (.nil,[])
theorem sm_owns {w:World} {g:Nat} {ents:Array MapEntry} {ks:List ByteArray} (hb:w.heap[g]? = some (.map ents ks.length)) (hsz:ents.size=ks.length) (hnd:ks.Nodup) (hl:ks.length≤1000000) (hs:∀k∈ks,k.size≤1000000000)
  (he:∀(j:Nat) k,ks[j]? = some k→∃e,ents[j]? = some e∧e.born=j∧e.key = .string k):∃D,w.ownsMap Tryz.prog 9 smR g ks.length D∧(strKeys D).Perm (ks.map fun k=>k.data.toList)∧Maps.size D=ks.length:=by
 have hu:Tryz.prog.underlying 9=some .string:=Tryz.underlying9
 have hkeys:ents.toList.map (·.key)=ks.map Value.string:=by
  apply List.ext_getElem?
  intro j
  simp only [List.getElem?_map,Array.getElem?_toList]
  by_cases hj:j < ks.length
  ·obtain ⟨e,h1,-,h3⟩:=he j ks[j] (List.getElem?_eq_getElem hj)
   rw [h1,List.getElem?_eq_getElem hj];simp [h3]
  ·rw [Array.getElem?_eq_none (by omega),List.getElem?_eq_none (by omega)];rfl
 have hborn:ents.toList.map (·.born)=List.range ks.length:=by
  apply List.ext_getElem?
  intro j
  simp only [List.getElem?_map,Array.getElem?_toList]
  by_cases hj:j < ks.length
  ·obtain ⟨e,h1,h2,-⟩:=he j ks[j] (List.getElem?_eq_getElem hj)
   rw [h1,List.getElem?_range hj];simp [h2]
  ·rw [Array.getElem?_eq_none (by omega),List.getElem?_eq_none (by simp;omega)];rfl
 have hrd:∀x∈ents.toList,∃k∈ks,x.key = .string k∧WideElems.rd Tryz.prog 9 smR x=some (.string k.data.toList, .nil):=by
  intro x hx
  have h1:x.key∈ents.toList.map (·.key):=List.mem_map.2 ⟨x,hx,rfl⟩
  rw [hkeys] at h1
  obtain ⟨k,hk,h2⟩:=List.mem_map.1 h1
  refine ⟨k,hk,h2.symm,?_⟩
  have hsk:k.size≤maxLen:=by have:=hs k hk;unfold maxLen;omega
  simp [WideElems.rd,smR,keyOf,mapKey,hu,←h2,hsk]
 refine ⟨_,⟨ents,ks.length,hb,⟨by rw [hsz];unfold maxLen;omega,⟨fun x hx=>?_,by rw [hborn];exact List.nodup_range,?_⟩,fun x hx=>?_⟩,by omega,rfl⟩,?_,?_⟩
 ·have h1:x.born∈ents.toList.map (·.born):=List.mem_map.2 ⟨x,hx,rfl⟩
  rw [hborn] at h1
  simpa using h1
 ·rw [hkeys]
  exact List.Pairwise.map _ (fun a b hab=>by simpa using hab) hnd
 ·obtain ⟨k,-,-,h⟩:=hrd x hx
  exact ⟨_,h⟩
 ·show (((ents.toList.map (WideElems.rg Tryz.prog 9 smR)).foldr DataW.insert []).map fun p=>Go.strOf p.1).Perm _
  refine ((Go.WideShapes.sorted_perm _).map _).trans ?_
  rw [List.map_map]
  have:ents.toList.map ((fun p:Lit×DataW Unit=>Go.strOf p.1) ∘ WideElems.rg Tryz.prog 9 smR)=(ents.toList.map (·.key)).map fun v=>match v with | .string k=>k.data.toList|_ => []:=by
   rw [List.map_map]
   apply List.map_congr_left
   intro x hx
   obtain ⟨k,-,h1,h2⟩:=hrd x hx
   simp [WideElems.rg,h2,h1,Go.strOf]
  rw [this,hkeys,List.map_map]
  exact .refl _
 ·show ((ents.toList.map (WideElems.rg Tryz.prog 9 smR)).foldr DataW.insert []).length=_
  rw [(Go.WideShapes.sorted_perm _).length_eq];simp [hsz]
set_option maxRecDepth 100000 in
set_option maxHeartbeats 1000000 in
theorem sorted_calls {w:World} {g:Nat} {ents:Array MapEntry} {ks:List ByteArray} (hb:w.heap[g]? = some (.map ents ks.length)) (hsz:ents.size=ks.length) (hnd:ks.Nodup) (hl:ks.length≤1000000) (hs:∀k∈ks,k.size≤1000000000)
  (he:∀(j:Nat) k,ks[j]? = some k→∃e,ents[j]? = some e∧e.born=j∧e.key = .string k):Calls Tryz.prog 112 #[.map (some g)] w fun e w' => ∃v,e = .returned v∧Own w.heap.size 9 w' v ((sortS ks).map Value.string)∧Below w.heap.size w w':=by
 obtain ⟨D,hD,hperm,hsize⟩:=sm_owns hb hsz hnd hl hs he
 go_enter Tryz.func112,Tryz.ntmps112
 go_wp2_with (first
  |(go_at_call 195;refine (callsIn_wide.1 (Tryz.maps_Keys_195 _ _)).mono ?_;rintro e w' ⟨rfl,rfl⟩)
  |(go_at_call 194;refine (callsIn_wide.1 (Tryz.slices_Sorted_keys_194_195 g ks.length D smR w hD (by rw [hsize];unfold maxLen;omega) (by omega))).mono ?_;rintro e w' ⟨v,ss,rfl,hS,hrow,hnil,hbl⟩))
 go_ret
 have hb0:=below_alloc w (.cells #[.map (some g)] 164)
 have hbl' : Below w.heap.size w w':=hb0.trans (hbl.mono hb0.size)
 refine ⟨v,rfl,?_,hbl'⟩
 have e1:(sortS ks).map Value.string=(ss.mergeSort leB).map Go.Proofs.encStr:=by
  rw [mergeSort_of_perm (hS.trans hperm)]
  simp [sortS,List.map_map,Function.comp_def,Go.Proofs.encStr]
 have e2:(sortS ks).length=ss.length:=by
  have:=congrArg List.length e1
  simpa using this
 obtain ⟨r1,r2⟩:=hrow
 unfold Own
 rw [e1]
 refine ⟨by simp,?_⟩
 rcases r2 with ⟨h1,h2⟩|⟨g',cap,cur,h1,h2,h3⟩
 ·exact .inl ⟨h1,by simp [h2]⟩
 ·refine .inr ⟨g',cap,cur,?_,Nat.le_trans hb0.size h2,?_⟩
  ·rw [h1];simp
  ·simpa using h3
theorem hc_sorted (ks:List ByteArray) (hnd:ks.Nodup) (hl:ks.length≤1000000) (hs:∀k∈ks,k.size≤1000000000) (id:Nat):HCalls Tryz.prog 112 [.mref id] [] [(id,smL ks)] (pstrs (sortS ks)) [] [(id,smL ks)]:=by
 refine ⟨by kernel_rfl,fun Φ μ ω w vs himm hgl hrep _ hgm hlt=>?_⟩
 have hl1:=hrep.1
 match vs,hl1 with
 | [v],_=>
 obtain ⟨g,hg,rfl⟩:=(hrep.2 0 _ v rfl rfl).mref_inv
 obtain ⟨g',h1,h2,h3,h4,h5⟩:=hgm (id,smL ks) (by simp)
 simp only at h1 h3 h4 h5
 rw [hg] at h1
 cases h1
 obtain ⟨hst,ents,hh,hsz,hent⟩:=h5
 rw [smE_len] at hsz
 have hlt':=hlt g _ h3
 have he:∀(j:Nat) k,ks[j]? = some k→∃e,ents[j]? = some e∧e.born=j∧e.key = .string k:=fun j k hk=>by
  obtain ⟨e,e1,e2,e3,-⟩:=hent j _ _ _ (smE_get hk)
  obtain ⟨e4,-⟩:=e3.val_inv
  exact ⟨e,e1,e2,e4⟩
 refine (sorted_calls hh hsz hnd hl hs he).mono ?_
 rintro e w' ⟨v,rfl,ho,hbl⟩
 obtain ⟨Φ',p1,p2,p3,-⟩:=own_rep himm (f:=Value.string) (fun _=>rfl) ho hbl
 have hgiv:Giv ω (ResIds [] [(id,smL ks)]) g:=⟨id,by simp [ResIds], .box id, .inl rfl,h3⟩
 have hΦ:∀b o u,Φ b o=some u→Φ' b o=some u:=fun b o u e=>by
  rw [p2 b o (World.block_lt_of_cell? _ _ (himm b o u e))];exact e
 refine ⟨v,Φ',fun i=>if i=id then μ i else none,fun g' => if g' = g then some (.box id) else none,rfl,?_,p1,hΦ,fun b o hb _=>p2 b o hb,⟨hbl.os,hbl.tape,hbl.output,hbl.size,fun k hk=>hbl.block k hk.1⟩,fun i hi=>?_,fun i g' e=>?_,fun x hx=>by simp at hx,fun x hx=>?_,fun g' p e=>?_,fun n k cs E e=>by cases e⟩
 ·exact (p3.mono (fun _ _ _ h=>h) (fun i g h=>by simp [mu0] at h)).bare
 ·simp [ResIds] at hi;subst hi;simp
 ·by_cases hi:i=id
  ·subst hi;simp [ResIds]
  ·simp [hi] at e
 ·simp only [List.mem_cons,List.not_mem_nil,or_false] at hx
  subst hx
  refine ⟨g,by simp [hg], .inr hgiv,by simp,fun j=>by rw [p2 g j hlt'];exact h4 j,hst,ents,by rw [hbl.block g hlt'];exact hh,by rw [smE_len];exact hsz,fun j s k c hj=>?_⟩
  obtain ⟨e,e1,e2,e3,e4,-⟩:=hent j s k c hj
  obtain ⟨y,hy,he2⟩:∃y,ks[j]? = some y∧(s,k,c)=(j,pstr y,pbool true):=by
   have hjl:j < ks.length:=by
    have:=(List.getElem?_eq_some_iff.1 hj).1
    rwa [smE_len] at this
   refine ⟨ks[j],List.getElem?_eq_getElem hjl,?_⟩
   rw [smE_get (List.getElem?_eq_getElem hjl)] at hj
   exact (Option.some.inj hj).symm
  cases he2
  obtain ⟨e5,-⟩:=e3.val_inv
  obtain ⟨e6,-⟩:=e4.val_inv
  exact ⟨e,e1,e2,by rw [e5];exact .val _ rfl,by rw [e6];exact .val _ rfl,fun n kk cs E ec=>by cases ec⟩
 ·by_cases hg' : g' = g
  ·subst hg'
   exact ⟨Nat.lt_of_lt_of_le hlt' hbl.size, .inr hgiv⟩
  ·simp [hg'] at e
theorem bl_lt:∀a b:List UInt8,Op.bytesLess a b=true↔a < b
 |a,[]=>by cases a<;>simp [Op.bytesLess]
 | [],b :: y=>by simp [Op.bytesLess]
 |a :: x,b :: y=>by
  simp only [Op.bytesLess,Bool.or_eq_true,Bool.and_eq_true,decide_eq_true_eq,beq_iff_eq,List.cons_lt_cons_iff,bl_lt x y]
theorem ltB_iff (a b:ByteArray):ltB a b↔a.data.toList < b.data.toList:=by
 unfold ltB
 rw [ByteArray.toList_eq,ByteArray.toList_eq,bl_lt]
theorem ltB_irrefl (a:ByteArray):¬ltB a a:=fun h=>by
 unfold ltB at h
 rw [bl_irrefl] at h;cases h
theorem ltB_total (a b:ByteArray):ltB a b∨a=b∨ltB b a:=by
 by_cases h:ltB a b
 ·exact .inl h
 ·by_cases e:a=b
  ·exact .inr (.inl e)
  ·refine .inr (.inr (bl_total _ _ ?_ fun h2=>e ?_))
   ·unfold ltB at h;simpa using h
   ·rw [ByteArray.toList_eq,ByteArray.toList_eq] at h2
    exact ba_ext h2
def Asc (l:List ByteArray):Prop:=l.Pairwise ltB
theorem Asc.nodup {l:List ByteArray} (h:Asc l):l.Nodup:=List.Pairwise.imp (fun {a b} hab e=>by subst e;exact ltB_irrefl a hab) h
theorem asc_nil:Asc []:=.nil
theorem asc_one (a:ByteArray):Asc [a]:=List.pairwise_singleton _ _
theorem sortS_asc {ks:List ByteArray} (h:ks.Nodup):Asc (sortS ks):=by
 have tr:∀a b c:List UInt8,leB a b=true→leB b c=true→leB a c=true:=fun a b c h1 h2=>by simp only [leB,decide_eq_true_eq] at *; exact List.le_trans h1 h2
 have to:∀a b:List UInt8,(leB a b || leB b a)=true:=fun a b=>by simp only [leB,Bool.or_eq_true,decide_eq_true_eq];exact List.le_total a b
 have h1:=List.pairwise_mergeSort tr to (ks.map fun k=>k.data.toList)
 have h2:(sortS ks).Pairwise fun a b=>leB a.data.toList b.data.toList=true:=by
  unfold sortS
  rw [List.pairwise_map]
  exact h1.imp (fun {a b} hab=>by simpa using hab)
 have h3:(sortS ks).Nodup:=(sortS_perm ks).nodup_iff.2 h
 refine (List.Pairwise.and h2 h3).imp fun {a b} hab=>?_
 obtain ⟨p,q⟩:=hab
 rcases ltB_total a b with h|h|h
 ·exact h
 ·exact absurd h q
 ·exfalso
  rw [ltB_iff] at h
  simp only [leB,decide_eq_true_eq] at p
  exact p h
theorem Asc.ext {l m:List ByteArray} (h1:Asc l) (h2:Asc m) (h:∀x,x∈l↔x∈m):l=m:=by
 have hp:l.Perm m:=(List.perm_ext_iff_of_nodup h1.nodup h2.nodup).2 h
 exact hp.eq_of_pairwise (le:=ltB) (fun a b _ _ p q=>absurd (ltB_trans p q) (ltB_irrefl a)) h1 h2
theorem sortS_mem {ks:List ByteArray} {x:ByteArray} : x∈sortS ks↔x∈ks:=(sortS_perm ks).mem_iff
theorem sortS_eq {ks l:List ByteArray} (h:ks.Nodup) (ha:Asc l) (hm:∀x,x∈ks↔x∈l):sortS ks=l:=
 (sortS_asc h).ext ha fun x=>sortS_mem.trans (hm x)
def mergeW:List ByteArray→List ByteArray→List ByteArray
 | [],b=>b
 |x :: a,[]=>x :: a
 |x :: a,y :: b=>if Op.bytesLess x.toList y.toList=true then x :: mergeW a (y :: b) else if x.toList == y.toList then y :: mergeW a b else y :: mergeW (x :: a) b
termination_by a b=>a.length+b.length
theorem mergeW_nil (a:List ByteArray):mergeW a []=a:=by cases a<;>simp [mergeW]
theorem toList_inj {a b:ByteArray} (h:a.toList=b.toList):a=b:=by
 rw [ByteArray.toList_eq,ByteArray.toList_eq] at h
 exact ba_ext h
theorem mergeW_spec:∀a b:List ByteArray,Asc a→Asc b→Asc (mergeW a b)∧∀x,x∈mergeW a b↔x∈a∨x∈b
 | [],b,_,hb=>⟨by rw [mergeW];exact hb,by simp [mergeW]⟩
 |x :: a,[],ha,_=>⟨by rw [mergeW];exact ha,by simp [mergeW]⟩
 |x :: a,y :: b,ha,hb=>by
  have ha':=List.pairwise_cons.1 ha
  have hb':=List.pairwise_cons.1 hb
  rw [mergeW]
  split
  ·rename_i h
   obtain ⟨i1,i2⟩:=mergeW_spec a (y :: b) ha'.2 hb
   refine ⟨List.pairwise_cons.2 ⟨fun z hz=>?_,i1⟩,fun z=>?_⟩
   ·rcases (i2 z).1 hz with h1|h1
    ·exact ha'.1 z h1
    ·rcases List.mem_cons.1 h1 with rfl|h1
     ·exact h
     ·exact ltB_trans h (hb'.1 z h1)
   ·rw [List.mem_cons,i2,List.mem_cons (a:=z) (b:=x),or_assoc]
  ·rename_i h
   split
   ·rename_i e
    have e' : x=y:=toList_inj (by simpa using e)
    subst e'
    obtain ⟨i1,i2⟩:=mergeW_spec a b ha'.2 hb'.2
    refine ⟨List.pairwise_cons.2 ⟨fun z hz=>?_,i1⟩,fun z=>?_⟩
    ·rcases (i2 z).1 hz with h1|h1
     ·exact ha'.1 z h1
     ·exact hb'.1 z h1
    ·simp only [List.mem_cons,i2]
     constructor
     ·rintro (h|h|h)<;>simp [h]
     ·rintro ((h|h)|h|h)<;>simp [h]
   ·rename_i e
    have hyx:ltB y x:=by
     rcases ltB_total x y with h1|h1|h1
     ·exact absurd h1 h
     ·subst h1;simp at e
     ·exact h1
    obtain ⟨i1,i2⟩:=mergeW_spec (x :: a) b ha hb'.2
    refine ⟨List.pairwise_cons.2 ⟨fun z hz=>?_,i1⟩,fun z=>?_⟩
    ·rcases (i2 z).1 hz with h1|h1
     ·rcases List.mem_cons.1 h1 with rfl|h1
      ·exact hyx
      ·exact ltB_trans hyx (ha'.1 z h1)
     ·exact hb'.1 z h1
    ·simp only [List.mem_cons,i2]
     constructor
     ·rintro (h|(h|h)|h)<;>simp [h]
     ·rintro ((h|h)|h|h)<;>simp [h]
termination_by a b=>a.length+b.length
theorem sortS_add {ks:List ByteArray} {s:ByteArray} (h:ks.Nodup):sortS (addK ks s)=mergeW (sortS ks) [s]:=by
 obtain ⟨h1,h2⟩:=mergeW_spec (sortS ks) [s] (sortS_asc h) (asc_one s)
 refine sortS_eq (addK_nodup s h) h1 fun x=>?_
 rw [addK_mem,h2,sortS_mem,List.mem_singleton]
theorem sortS_nil:sortS [] = []:=sortS_eq .nil asc_nil fun _=>Iff.rfl
theorem sortS_one (s:ByteArray):sortS [s] = [s]:=sortS_eq (by simp) (asc_one s) fun _=>Iff.rfl
inductive PPred where
 |mk (op:Int) (name:ByteArray) (n m:Int) (s:ByteArray) (subs:List PPred)
 deriving Inhabited
def PPred.op:PPred→Int | .mk op _ _ _ _ _=>op
def PPred.name:PPred→ByteArray | .mk _ nm _ _ _ _=>nm
def PPred.n:PPred→Int | .mk _ _ n _ _ _=>n
def PPred.m:PPred→Int | .mk _ _ _ m _ _=>m
def PPred.s:PPred→ByteArray | .mk _ _ _ _ s _=>s
def PPred.subs:PPred→List PPred | .mk _ _ _ _ _ l=>l
mutual
def ppredL:PPred→List PV
 | .mk op nm n m s subs => [pint op,pstr nm,pint n,pint m,pstr s, .sl subs.length 6 (ppredLs subs) none]
def ppredLs:List PPred→List PV
 | [] => []
 |p :: l=>ppredL p ++ ppredLs l
end
def prL (p:PPred):List PV := [pint p.op,pstr p.name,pint p.n,pint p.m,pstr p.s, .sl p.subs.length 6 (ppredLs p.subs) none]
theorem ppredL_eq (p:PPred):ppredL p=prL p:=by
 cases p with
 |mk op nm n m s subs=>rw [ppredL];rfl
theorem ppredLs_eq:∀l,ppredLs l=l.flatMap prL
 | []=>by simp [ppredLs]
 |p :: l=>by rw [ppredLs,ppredLs_eq l,List.flatMap_cons,ppredL_eq]
def ppreds (l:List PPred):PV:=.sl l.length 6 (l.flatMap prL) none
def ppred (p:PPred):PV:=.agg (prL p)
theorem prL_eq (p:PPred):prL p = [pint p.op,pstr p.name,pint p.n,pint p.m,pstr p.s,ppreds p.subs]:=by
 unfold prL ppreds
 rw [ppredLs_eq]
mutual
theorem low_ppredL:∀p:PPred,∀c∈ppredL p,Low c
 | .mk op nm n m s subs=>by
  intro c hc
  rw [ppredL] at hc
  simp only [List.mem_cons,List.not_mem_nil,or_false] at hc
  rcases hc with rfl|rfl|rfl|rfl|rfl|rfl
  ·exact .val _
  ·exact .val _
  ·exact .val _
  ·exact .val _
  ·exact .val _
  ·exact .sl _ _ _ _ (low_ppredLs subs)
theorem low_ppredLs:∀l:List PPred,∀c∈ppredLs l,Low c
 | []=>by intro c hc;simp [ppredLs] at hc
 |p :: l=>by
  intro c hc
  rw [ppredLs,List.mem_append] at hc
  rcases hc with hc|hc
  ·exact low_ppredL p c hc
  ·exact low_ppredLs l c hc
end
theorem low_prL (p:PPred):∀c∈prL p,Low c:=by rw [←ppredL_eq];exact low_ppredL p
theorem low_ppred (p:PPred):Low (ppred p)↔True:=⟨fun _=>trivial,fun _=>.agg _ (low_prL p)⟩
theorem low_ppreds (l:List PPred):Low (ppreds l)↔True:=⟨fun _=>trivial,fun _=>.sl _ _ _ _ (by rw [←ppredLs_eq];exact low_ppredLs l)⟩
def fieldAt (s:PSchema) (z:PSum) (nm:ByteArray):PField:=z.fields.getD (findI s.defs nm).toNat default
mutual
def canZ (s:PSchema) (z:PSum):PPred→PTruth
 | .mk op nm n m w subs=>
  if op=1 then ⟨true,false⟩
  else if op=2 then ⟨!(canL s z subs).any (fun t => !t.yes),(canL s z subs).any (fun t=>t.no)⟩
  else if op=3 then ⟨(canL s z subs).any (fun t=>t.yes),!(canL s z subs).any (fun t => !t.no)⟩
  else if op=4 then ⟨((canL s z subs).getD 0 default).no,((canL s z subs).getD 0 default).yes⟩
  else if op=5 then ⟨decide ((fieldAt s z nm).has > 0),decide ((fieldAt s z nm).has < z.count)⟩
  else if op=6 then (if (fieldAt s z nm).has=0 then ⟨false,true⟩ else ⟨decide (max (fieldAt s z nm).lo n≤min (fieldAt s z nm).hi m),decide ((fieldAt s z nm).has < z.count) || (decide ((fieldAt s z nm).lo < n) || decide ((fieldAt s z nm).hi > m))⟩)
  else ⟨hasB (fieldAt s z nm).words w,decide ((fieldAt s z nm).has < z.count) || (fieldAt s z nm).words.any (fun x => !eqB x w)⟩
def canL (s:PSchema) (z:PSum):List PPred→List PTruth
 | [] => []
 |p :: l=>canZ s z p :: canL s z l
end
theorem canL_eq (s:PSchema) (z:PSum):∀l,canL s z l=l.map (canZ s z)
 | []=>by simp [canL]
 |p :: l=>by rw [canL,canL_eq s z l,List.map_cons]
theorem idxF_idxGo {α:Type} (p:α→Bool):∀(l:List α) (k:Int),idxGo (l.map p) k=(match l.findIdx? p with|some i=>k+i|none => -1)
 | [],k=>by simp [idxGo]
 |a :: l,k=>by
  rw [List.map_cons,idxGo,List.findIdx?_cons]
  cases h:p a with
  |true=>simp
  |false=>
   simp only [Bool.false_eq_true,if_false]
   rw [idxF_idxGo p l (k+1)]
   cases l.findIdx? p with
   |none=>rfl
   |some i=>show k+1+(i:Int)=k+((i+1:Nat):Int);omega
theorem idxF_findI (l:List PDef) (nm:ByteArray):idxF (fun d=>eqB d.name nm) l=findI l nm:=by
 unfold findI idxB
 rw [idxF_idxGo]
 unfold idxF
 cases l.findIdx? (fun d=>eqB d.name nm) with
 |none=>rfl
 |some i=>simp
def fYes:PV:=.ep [.fn 160 []] 0
def fNo:PV:=.ep [.fn 161 []] 0
def fNever:PV:=.ep [.fn 162 []] 0
def fAlways:PV:=.ep [.fn 163 []] 0
theorem low_fn0 (f:Nat):Low (.fn f []):=.fn _ _ (by simp)
theorem low_fe (f:Nat):∀c ∈ [PV.fn f []],Low c:=by
 intro c hc
 simp only [List.mem_cons,List.not_mem_nil,or_false] at hc
 subst hc;exact low_fn0 f
theorem low_fep (f:Nat):Low (.ep [.fn f []] 0):=.ep _ _ (low_fe f)
def waysE:List (Nat×PV×PV) := [(0,pint 1, .fn 164 []),(1,pint 2, .fn 165 [fNever,fNo]),(2,pint 3, .fn 168 [fYes,fAlways]),(3,pint 4, .fn 169 []),(4,pint 5, .fn 170 []),(5,pint 6, .fn 172 []),(6,pint 7, .fn 173 [])]
def waysM:PMap:=.map waysE 7
theorem low_ways:∀e∈waysE,Low e.2.1∧Low e.2.2:=by
 intro e he
 simp only [waysE,List.mem_cons,List.not_mem_nil,or_false] at he
 have l2:∀(f a b:Nat),Low (.fn f [.ep [.fn a []] 0, .ep [.fn b []] 0]):=fun f a b=>.fn _ _ (by
  intro c hc
  simp only [List.mem_cons,List.not_mem_nil,or_false] at hc
  rcases hc with rfl|rfl<;>exact low_fep _)
 rcases he with rfl|rfl|rfl|rfl|rfl|rfl|rfl<;>refine ⟨.val _,?_⟩<;>first|exact low_fn0 _|exact l2 _ _ _
set_option maxRecDepth 10000 in
set_option maxHeartbeats 1000000 in
theorem hc_ways1:HCalls Tryz.prog 84 [] [] [] (.mref 5000) [] [(5000,waysM)]:=by
 have e1:=low_fe 160
 have e2:=low_fe 161
 have e3:=low_fe 162
 have e4:=low_fe 163
 refine hcalls_of_pw typeTab_ok Tryz.func84 rfl (by kernel_rfl) (by simp) (by rw [Tryz.ntmps84];simp) (by simp [ResIds]) (by simp [ResIds]) ⟨by exact li0,by exact li0,lm_nil, .mref _ (by simp [ResIds]),by exact li0,lm_cons low_ways lm_nil,by simp,by simp⟩ ?_
 rw [Tryz.ntmps84,Tryz.results84]
 refine PW.seq ?_
 refine PW.region typeTab_ok (by kernel_rfl) ?_
 refine wg ?_
 refine PW.region typeTab_ok (by kernel_rfl) ?_
 refine wg ?_
 refine PW.region typeTab_ok (by kernel_rfl) ?_
 refine wg ?_
 refine PW.region typeTab_ok (by kernel_rfl) ?_
 refine wg ?_
 refine PW.region typeTab_ok (by kernel_rfl) ?_
 refine wg ?_
 have hf1:Low fYes:=low_fep _
 have hf2:Low fNo:=low_fep _
 have hf3:Low fNever:=low_fep _
 have hf4:Low fAlways:=low_fep _
 refine PW.freezeP (id:=1000) (s:=1) (off:=0) (σ':=(((((bot.setb 2000 [.fn 161 []]).setb 3000 [.fn 162 []]).setb 4000 [.fn 163 []]).put 2 (.ptr 2000 0)).put 3 (.ptr 3000 0)).put 4 (.ptr 4000 0)) rfl rfl e1 (by exact sbr0) rfl ?_
 refine PW.freezeP (id:=2000) (s:=2) (off:=0) (σ':=((((bot.setb 3000 [.fn 162 []]).setb 4000 [.fn 163 []]).put 1 fYes).put 3 (.ptr 3000 0)).put 4 (.ptr 4000 0)) rfl rfl e2 (by exact sbr0) rfl ?_
 refine PW.freezeP (id:=3000) (s:=3) (off:=0) (σ':=(((bot.setb 4000 [.fn 163 []]).put 1 fYes).put 2 fNo).put 4 (.ptr 4000 0)) rfl rfl e3 (by exact sbr0) rfl ?_
 refine PW.freezeP (id:=4000) (s:=4) (off:=0) (σ':=((bot.put 1 fYes).put 2 fNo).put 3 fNever) rfl rfl e4 (by exact sbr0) rfl ?_
 refine wk ?_
 refine PWops.mkMG rfl rfl rfl rfl ?_
 refine PWops.mins rfl rfl rfl rfl rfl rfl rfl rfl rfl rfl rfl rfl rfl ?_
 (refine ops0 ?_)
 refine PWops.mins rfl rfl rfl rfl rfl rfl rfl rfl rfl rfl rfl rfl rfl ?_
 (refine ops0 ?_)
 refine PWops.mins rfl rfl rfl rfl rfl rfl rfl rfl rfl rfl rfl rfl rfl ?_
 refine PWops.mins rfl rfl rfl rfl rfl rfl rfl rfl rfl rfl rfl rfl rfl ?_
 refine PWops.mins rfl rfl rfl rfl rfl rfl rfl rfl rfl rfl rfl rfl rfl ?_
 refine PWops.mins rfl rfl rfl rfl rfl rfl rfl rfl rfl rfl rfl rfl rfl ?_
 refine PWops.mins rfl rfl rfl rfl rfl rfl rfl rfl rfl rfl rfl rfl rfl ?_
 refine wk ?_
 exact RetH.mk rfl (Weak.refl _) trivial ⟨⟨rfl,rfl⟩,trivial⟩
theorem hc_ways (id:Nat):HCalls Tryz.prog 84 [] [] [] (.mref id) [] [(id,waysM)]:=
 hc_ways1.at [(5000,id)] (by simp) (by simp [ResIds]) (by simp) (by simp) RenL.nil RenB.nil RenMs.nil (.mref _ (by simp [ResIds])) RenB.nil (RenMs.cons _ _ _ _ _ (RenM.low low_ways) RenMs.nil)
set_option maxRecDepth 10000 in
theorem pw_yes (t:PTruth):PCalls Tryz.prog 160 [ptruth t] (· = pbool t.yes):=by
 refine pcalls_of_pw typeTab_ok Tryz.func160 rfl (by kernel_rfl) (by simp [ptruth,truthL,low_agg,low_pbool]) (by simp [ptruth,PV.ownB]) (by rw [Tryz.ntmps160];simp) ?_
 rw [Tryz.ntmps160,Tryz.results160]
 unfold ptruth truthL
 refine wk ?_
 exact retP rfl (by exact lw) rfl
set_option maxRecDepth 10000 in
theorem pw_no (t:PTruth):PCalls Tryz.prog 161 [ptruth t] (· = pbool t.no):=by
 refine pcalls_of_pw typeTab_ok Tryz.func161 rfl (by kernel_rfl) (by simp [ptruth,truthL,low_agg,low_pbool]) (by simp [ptruth,PV.ownB]) (by rw [Tryz.ntmps161];simp) ?_
 rw [Tryz.ntmps161,Tryz.results161]
 unfold ptruth truthL
 refine wk ?_
 exact retP rfl (by exact lw) rfl
set_option maxRecDepth 10000 in
theorem pw_never (t:PTruth):PCalls Tryz.prog 162 [ptruth t] (· = pbool (!t.yes)):=by
 refine pcalls_of_pw typeTab_ok Tryz.func162 rfl (by kernel_rfl) (by simp [ptruth,truthL,low_agg,low_pbool]) (by simp [ptruth,PV.ownB]) (by rw [Tryz.ntmps162];simp) ?_
 rw [Tryz.ntmps162,Tryz.results162]
 unfold ptruth truthL
 refine wk ?_
 exact retP rfl (by exact lw) rfl
set_option maxRecDepth 10000 in
theorem pw_always (t:PTruth):PCalls Tryz.prog 163 [ptruth t] (· = pbool (!t.no)):=by
 refine pcalls_of_pw typeTab_ok Tryz.func163 rfl (by kernel_rfl) (by simp [ptruth,truthL,low_agg,low_pbool]) (by simp [ptruth,PV.ownB]) (by rw [Tryz.ntmps163];simp) ?_
 rw [Tryz.ntmps163,Tryz.results163]
 unfold ptruth truthL
 refine wk ?_
 exact retP rfl (by exact lw) rfl
set_option maxRecDepth 10000 in
theorem pw_some (f:Nat) (p:PTruth→Bool) (l:List PTruth) (hf:Nat.blt f 1000000=true) (hl:l.length≤1000000000000) (hp:∀t,PCalls Tryz.prog f [ptruth t] (· = pbool (p t))):PCalls Tryz.prog 167 [ptruths l, .fn f []] (· = pbool (l.any p)):=by
 have h:=pw_anyT f [] p l hf hl (by simp) (fun k _=>hp _)
 have hl1:=low_fn0 f
 refine pcalls_of_pw typeTab_ok Tryz.func167 rfl (by kernel_rfl) (by simp [low_ptruths,hl1]) (by simp [ptruths,PV.ownB]) (by rw [Tryz.ntmps167];simp) ?_
 rw [Tryz.ntmps167,Tryz.results167]
 refine wk ?_
 exact retP rfl (by exact lw) rfl
set_option maxRecDepth 10000 in
theorem pw_fieldD (nm:ByteArray) (d:PDef):PCalls Tryz.prog 241 [.agg (pdefL d), .ep [pstr nm] 0] (· = pbool (eqB d.name nm)):=by
 have hl1:Low (.ep [pstr nm] 0):=by simp [low_ep,low_pstr]
 have hd:=low_pdefL d
 refine pcalls_of_pw typeTab_ok Tryz.func241 rfl (by kernel_rfl) (by simp [low_pdef,hl1]) (by simp [PV.ownB]) (by rw [Tryz.ntmps241];simp) ?_
 rw [Tryz.ntmps241,Tryz.results241]
 unfold pdefL at *
 cases e:eqB d.name nm <;>
 ·have e' : (d.name.toList == nm.toList)=_:=e
  refine wk ?_
  exact retP rfl (by exact lw) rfl
set_option maxRecDepth 10000 in
theorem pw_other (p:PPred) (w:ByteArray):PCalls Tryz.prog 174 [pstr w, .ep (prL p) 0] (· = pbool (!eqB w p.s)):=by
 have hl1:Low (.ep (prL p) 0):=.ep _ _ (low_prL p)
 refine pcalls_of_pw typeTab_ok Tryz.func174 rfl (by kernel_rfl) (by simp [low_pstr,hl1]) (by simp [pstr,PV.ownB]) (by rw [Tryz.ntmps174];simp) ?_
 rw [Tryz.ntmps174,Tryz.results174]
 cases e:eqB w p.s with
 |true=>
  have e' : (!(w.toList == p.s.toList))=false:=by rw [show (w.toList == p.s.toList)=true from e];rfl
  refine wk ?_
  exact retP rfl (by exact lw) rfl
 |false=>
  have e' : (!(w.toList == p.s.toList))=true:=by rw [show (w.toList == p.s.toList)=false from e];rfl
  refine wk ?_
  exact retP rfl (by exact lw) rfl
end
end Go.Proofs.YtoamkpgaaanafaaGreat
