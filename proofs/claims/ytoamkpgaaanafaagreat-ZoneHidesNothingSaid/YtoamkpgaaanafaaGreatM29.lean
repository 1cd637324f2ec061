/- Out of: Zx, Qa, Qd, Row18, Row18b, Wk. -/
import Derived.Test.YtoamkpgaaanafaaGreatIter
import Derived.Laws.Strings
import Derived.Test.YtoamkpgaaanafaaGreatM25
namespace Go.Proofs.YtoamkpgaaanafaaGreat
set_option linter.unusedSimpArgs false
set_option linter.unusedVariables false
set_option linter.unnecessarySimpa false
section
open Go.RowKit
def WordsZ (f:PField):Prop:=f.words.length≤1000∧∀w∈f.words,w.size≤1000000000
def shN (l:List PShell):List Int:=l.flatMap fun s => [s.lo,s.hi]
def flN (l:List PField):List Int:=l.flatMap fun f => [f.has,f.lo,f.hi,(f.words.length:Int)]
def flW (l:List PField):List ByteArray:=l.flatMap (·.words)
def headZ (z:PSum):List Int := [z.count,z.fromLo,z.fromHi,z.toHi,z.bornLo,z.bornHi]
def boxN (z:PSum):List Int:=headZ z ++ (z.box.lo.length:Int) :: z.box.lo ++ (z.box.hi.length:Int) :: z.box.hi
def numsZ (z:PSum):List Int:=boxN z ++ (z.shells.length:Int) :: shN z.shells ++ (z.fields.length:Int) :: flN z.fields
def encZ (z:PSum):List Int:=intsB (numsZ z) ++ strsB (flW z.fields)
theorem shN_len (l:List PShell):(shN l).length=2 * l.length:=by
 induction l with
 |nil=>rfl
 |cons a r ih=>simp only [shN,List.flatMap_cons,List.length_append,List.length_cons,List.length_nil] at *; omega
theorem flN_len (l:List PField):(flN l).length=4 * l.length:=by
 induction l with
 |nil=>rfl
 |cons a r ih=>simp only [flN,List.flatMap_cons,List.length_append,List.length_cons,List.length_nil] at *; omega
theorem boxN_len (z:PSum):(boxN z).length=8+z.box.lo.length+z.box.hi.length:=by
 simp only [boxN,headZ,List.length_append,List.length_cons,List.length_nil];omega
theorem numsZ_len (z:PSum):(numsZ z).length=10+z.box.lo.length+z.box.hi.length+2 * z.shells.length+4 * z.fields.length:=by
 simp only [numsZ,List.length_append,List.length_cons,boxN_len,shN_len,flN_len];omega
theorem getD_at {α:Type} [Inhabited α] {l:List α} {k:Nat} (h:k < l.length):l.getD k default=l[k]:=by rw [List.getD_eq_getElem?_getD,List.getElem?_eq_getElem h];rfl
theorem shN_take {l:List PShell} {k:Nat} (h:k < l.length):shN (l.take (k+1))=shN (l.take k) ++ [(l.getD k default).lo,(l.getD k default).hi]:=by
 unfold shN
 rw [List.take_add_one,List.getElem?_eq_getElem h,List.flatMap_append,getD_at h]
 simp
theorem flN_take {l:List PField} {k:Nat} (h:k < l.length):flN (l.take (k+1))=flN (l.take k) ++ [(l.getD k default).has,(l.getD k default).lo,(l.getD k default).hi,((l.getD k default).words.length:Int)]:=by
 unfold flN
 rw [List.take_add_one,List.getElem?_eq_getElem h,List.flatMap_append,getD_at h]
 simp
theorem flW_take {l:List PField} {k:Nat} (h:k < l.length):flW (l.take (k+1))=flW (l.take k) ++ (l.getD k default).words:=by
 unfold flW
 rw [List.take_add_one,List.getElem?_eq_getElem h,List.flatMap_append,getD_at h]
 simp
theorem flW_le (l:List PField) (k:Nat):(flW (l.take k)).length≤(flW l).length:=by
 conv=>rhs;rw [←List.take_append_drop k l]
 unfold flW
 rw [List.flatMap_append,List.length_append];omega
theorem flW_word (l:List PField) {k:Nat} (h:k < l.length):(l.getD k default).words.length≤(flW l).length:=by
 have h1:=flW_le l (k+1)
 rw [flW_take h,List.length_append] at h1
 omega
structure EncOK (z:PSum):Prop where
 head:Fit (headZ z)
 lo:Fit z.box.lo
 hi:Fit z.box.hi
 shells:∀s∈z.shells,Fit64 s.lo∧Fit64 s.hi
 fields:∀f∈z.fields,Fit64 f.has∧Fit64 f.lo∧Fit64 f.hi
 n1:z.box.lo.length≤100000
 n2:z.box.hi.length≤100000
 n3:z.shells.length≤100000
 n4:z.fields.length≤100000
 n5:(flW z.fields).length≤100000
 words:SmallStrs (flW z.fields)
theorem numsZ_fit {z:PSum} (h:EncOK z):Fit (numsZ z):=by
 obtain ⟨h1,h2,h3,h4,h5,n1,n2,n3,n4,n5,-⟩:=h
 intro x hx
 simp only [numsZ,boxN,List.mem_append,List.mem_cons] at hx
 rcases hx with ((((hx|hx|hx)|hx|hx)|hx|hx)|hx|hx)
 ·exact h1 x hx
 ·omega
 ·exact h2 x hx
 ·omega
 ·exact h3 x hx
 ·omega
 ·obtain ⟨s,hs,hq⟩:=List.mem_flatMap.1 hx
  obtain ⟨a,b⟩:=h4 s hs
  simp only [List.mem_cons,List.not_mem_nil,or_false] at hq
  rcases hq with rfl|rfl
  ·exact a
  ·exact b
 ·omega
 ·obtain ⟨f,hf,hq⟩:=List.mem_flatMap.1 hx
  obtain ⟨a,b,c⟩:=h5 f hf
  have hw:f.words.length≤(flW z.fields).length:=by
   obtain ⟨k,hk,rfl⟩:=List.getElem_of_mem hf
   have:=flW_word z.fields hk
   rwa [List.getD_eq_getElem?_getD,List.getElem?_eq_getElem hk] at this
  simp only [List.mem_cons,List.not_mem_nil,or_false] at hq
  rcases hq with rfl|rfl|rfl|rfl
  ·exact a
  ·exact b
  ·exact c
  ·omega
theorem strsB_len2 (l:List ByteArray) (h:SmallStrs l) (hl:l.length≤100000):(strsB l).length≤1000010 * l.length+10:=by
 have h1:=strs_len l h
 have h2:=intB_len l.length (by omega) (by omega)
 rw [strsB,List.length_append];omega
theorem intsB_len2 (l:List Int) (h:Fit l):(intsB l).length≤10 * l.length+(intB l.length).length:=by
 have:=flat_len l h
 rw [intsB,List.length_append];omega
theorem encZ_bound {z:PSum} (h:EncOK z):(intsB (numsZ z)).length≤10000000∧(strsB (flW z.fields)).length≤100002000000:=by
 have h1:=intsB_len2 (numsZ z) (numsZ_fit h)
 have hl:=numsZ_len z
 obtain ⟨-,-,-,-,-,n1,n2,n3,n4,n5,hw⟩:=h
 have h2:=intB_len (numsZ z).length (by omega) (by omega)
 have h3:=strsB_len2 _ hw n5
 omega
inductive PPred where
 |mk (op:Int) (name:ByteArray) (n m:Int) (s:ByteArray) (subs:List PPred)
 deriving Inhabited
def PPred.op:PPred→Int | .mk op _ _ _ _ _=>op
def PPred.name:PPred→ByteArray | .mk _ nm _ _ _ _=>nm
def PPred.n:PPred→Int | .mk _ _ n _ _ _=>n
def PPred.m:PPred→Int | .mk _ _ _ m _ _=>m
def PPred.s:PPred→ByteArray | .mk _ _ _ _ s _=>s
def PPred.subs:PPred→List PPred | .mk _ _ _ _ _ l=>l
mutual
def ppredL:PPred→List PV
 | .mk op nm n m s subs => [pint op,pstr nm,pint n,pint m,pstr s, .sl subs.length 6 (ppredLs subs) none]
def ppredLs:List PPred→List PV
 | [] => []
 |p :: l=>ppredL p ++ ppredLs l
end
def prL (p:PPred):List PV := [pint p.op,pstr p.name,pint p.n,pint p.m,pstr p.s, .sl p.subs.length 6 (ppredLs p.subs) none]
theorem ppredL_eq (p:PPred):ppredL p=prL p:=by
 cases p with
 |mk op nm n m s subs=>rw [ppredL];rfl
theorem ppredLs_eq:∀l,ppredLs l=l.flatMap prL
 | []=>by simp [ppredLs]
 |p :: l=>by rw [ppredLs,ppredLs_eq l,List.flatMap_cons,ppredL_eq]
def ppreds (l:List PPred):PV:=.sl l.length 6 (l.flatMap prL) none
def ppred (p:PPred):PV:=.agg (prL p)
theorem prL_eq (p:PPred):prL p = [pint p.op,pstr p.name,pint p.n,pint p.m,pstr p.s,ppreds p.subs]:=by
 unfold prL ppreds
 rw [ppredLs_eq]
mutual
theorem low_ppredL:∀p:PPred,∀c∈ppredL p,Low c
 | .mk op nm n m s subs=>by
  intro c hc
  rw [ppredL] at hc
  simp only [List.mem_cons,List.not_mem_nil,or_false] at hc
  rcases hc with rfl|rfl|rfl|rfl|rfl|rfl
  ·exact .val _
  ·exact .val _
  ·exact .val _
  ·exact .val _
  ·exact .val _
  ·exact .sl _ _ _ _ (low_ppredLs subs)
theorem low_ppredLs:∀l:List PPred,∀c∈ppredLs l,Low c
 | []=>by intro c hc;simp [ppredLs] at hc
 |p :: l=>by
  intro c hc
  rw [ppredLs,List.mem_append] at hc
  rcases hc with hc|hc
  ·exact low_ppredL p c hc
  ·exact low_ppredLs l c hc
end
theorem low_prL (p:PPred):∀c∈prL p,Low c:=by rw [←ppredL_eq];exact low_ppredL p
theorem low_ppred (p:PPred):Low (ppred p)↔True:=⟨fun _=>trivial,fun _=>.agg _ (low_prL p)⟩
theorem low_ppreds (l:List PPred):Low (ppreds l)↔True:=⟨fun _=>trivial,fun _=>.sl _ _ _ _ (by rw [←ppredLs_eq];exact low_ppredLs l)⟩
def fieldAt (s:PSchema) (z:PSum) (nm:ByteArray):PField:=z.fields.getD (findI s.defs nm).toNat default
mutual
def canZ (s:PSchema) (z:PSum):PPred→PTruth
 | .mk op nm n m w subs=>
  if op=1 then ⟨true,false⟩
  else if op=2 then ⟨!(canL s z subs).any (fun t => !t.yes),(canL s z subs).any (fun t=>t.no)⟩
  else if op=3 then ⟨(canL s z subs).any (fun t=>t.yes),!(canL s z subs).any (fun t => !t.no)⟩
  else if op=4 then ⟨((canL s z subs).getD 0 default).no,((canL s z subs).getD 0 default).yes⟩
  else if op=5 then ⟨decide ((fieldAt s z nm).has > 0),decide ((fieldAt s z nm).has < z.count)⟩
  else if op=6 then (if (fieldAt s z nm).has=0 then ⟨false,true⟩ else ⟨decide (max (fieldAt s z nm).lo n≤min (fieldAt s z nm).hi m),decide ((fieldAt s z nm).has < z.count) || (decide ((fieldAt s z nm).lo < n) || decide ((fieldAt s z nm).hi > m))⟩)
  else ⟨hasB (fieldAt s z nm).words w,decide ((fieldAt s z nm).has < z.count) || (fieldAt s z nm).words.any (fun x => !eqB x w)⟩
def canL (s:PSchema) (z:PSum):List PPred→List PTruth
 | [] => []
 |p :: l=>canZ s z p :: canL s z l
end
theorem canL_eq (s:PSchema) (z:PSum):∀l,canL s z l=l.map (canZ s z)
 | []=>by simp [canL]
 |p :: l=>by rw [canL,canL_eq s z l,List.map_cons]
end
section
open Go.ChangeShapes Go.WideShapes Go.ChangeAt Go.RowKit
structure GoodZ (z:PSum):Prop where
 head:Fit64 z.count∧Fit64 z.fromLo∧Fit64 z.fromHi∧Fit64 z.toHi∧Fit64 z.bornLo∧Fit64 z.bornHi
 lo:(∀x∈z.box.lo,Fit64 x)∧z.box.lo.length * 8≤reachBytes
 hi:(∀x∈z.box.hi,Fit64 x)∧z.box.hi.length * 8≤reachBytes
 shells:(∀s∈z.shells,Fit64 s.lo∧Fit64 s.hi)∧z.shells.length * 16≤reachBytes
 fields:(∀f∈z.fields,(Fit64 f.has∧Fit64 f.lo∧Fit64 f.hi)∧f.words.length * 16≤reachBytes)∧z.fields.length * 48≤reachBytes
theorem GoodZ.big {z:PSum} (h:GoodZ z):z.box.lo.length≤20000000000000∧z.box.hi.length≤20000000000000∧z.shells.length≤20000000000000∧z.fields.length≤20000000000000∧∀f∈z.fields,f.words.length≤20000000000000:=by
 have e:=reach_eq
 obtain ⟨-,l1,l2,l3,l4⟩:=h
 have q1:=l1.2
 have q2:=l2.2
 have q3:=l3.2
 have q4:=l4.2
 exact ⟨by omega,by omega,by omega,by omega,fun f hf=>by have:=(l4.1 f hf).2;omega⟩
theorem GoodS.big {s:PSchema} (h:GoodS s):s.defs.length≤20000000000000∧∀d∈s.defs,d.words.length≤20000000000000:=by
 have e:=reach_eq
 have q:=h.len
 exact ⟨by omega,fun d hd=>by have:=(h.defs d hd).2.2.2;omega⟩
theorem argVecs:ArgOpens Tryz.prog 25 pvecs (fun l=>(∀v∈l,(∀z∈v,Fit64 z)∧v.length * 8≤reachBytes)∧l.length * 24≤reachBytes):=
 arg_slice Tryz.underlying25 ((opens_slice Tryz.underlying25 (by kernel_rfl) (by decide) (by kernel_rfl) opensInts (fun _ _=>rfl)).map id (fun a _=>by show [pvecs a]=_;rw [flatMap_one];rfl) (fun _ h=>h))
theorem opensEntry:Opens Tryz.prog 50 entCellsP GoodE:=
 (opens_struct Tryz.underlying50 (opensFs_1 rfl opensInt (by kernel_rfl) (opensFs_1 rfl opensInt (by kernel_rfl) (opensFs_1 rfl opensInt (by kernel_rfl) (opensFs_1 rfl opensInt (by kernel_rfl) (opensFs_1 rfl opensInt (by kernel_rfl) (opensFs_1 rfl opensInt (by kernel_rfl) (opensFs_1 rfl opensInt (by kernel_rfl) (opensFs_1 rfl opensInts (by kernel_rfl) (opensFs_1 rfl opensAttrs (by kernel_rfl) opensFs_nil))))))))) (by kernel_rfl)).map
  (fun p=>(⟨p.1,p.2.1,p.2.2.1,p.2.2.2.1,p.2.2.2.2.1,p.2.2.2.2.2.1,p.2.2.2.2.2.2.1,p.2.2.2.2.2.2.2.1,p.2.2.2.2.2.2.2.2.1⟩:PEntry)) (fun _ _=>rfl) (fun _ h=>by obtain ⟨h1,h2,h3,h4,h5,h6,h7,h8,h9,_⟩:=h;exact ⟨⟨h1,h2,h3,h4,h5,h6,h7,h8.1,h9.1⟩,h8.2,h9.2⟩)
theorem argEntries:ArgOpens Tryz.prog 26 pentries (fun l=>(∀e∈l,GoodE e)∧l.length * 104≤reachBytes):=
 arg_slice Tryz.underlying26 ((opens_slice Tryz.underlying26 (by kernel_rfl) (by decide) (by kernel_rfl) opensEntry (fun _ _=>rfl)).map id (fun a _=>rfl) (fun _ h=>h))
theorem GoodE.big {e:PEntry} (h:GoodE e):e.attrs.length≤20000000000000∧e.vec.length≤20000000000000:=by
 have r:=reach_eq
 have a:=h.vec
 have b:=h.attrs
 exact ⟨by omega,by omega⟩
end
section
open Go.RowKit
mutual
/-- Conditions whose words are asked of attributes that are words. -/
def okK (s:PSchema):PPred→Prop
 | .mk op nm n m w subs=>(op=7→(s.defs.getD (findI s.defs nm).toNat default).kind=2)∧okKL s subs
def okKL (s:PSchema):List PPred→Prop
 | []=>True
 |p :: l=>okK s p∧okKL s l
end
end
end Go.Proofs.YtoamkpgaaanafaaGreat
