/- Merged: PlainT, PlainU, Wire2, Wire3, Wire4, Elem, Wire5, AttrM, AttrA, AttrB. -/
import GoSem.Step
import Derived.Laws.RangeAny
import Derived.Lib.OthersKept
import Derived.Outline
import Derived.Lib.Hide
import Derived.Test.YtoamkpgaaanafaaGreatS1
import Derived.Test.YtoamkpgaaanafaaGreatS7
/- Plain: attributes, definitions, schemas and entries, as attr and antiquaryref13 have them. -/
namespace Go.Proofs.YtoamkpgaaanafaaGreat
set_option linter.unusedSimpArgs false
set_option linter.unusedVariables false
set_option linter.unnecessarySimpa false
open Go
structure PAttr where
 name:ByteArray
 kind:Int
 n:Int
 s:ByteArray
structure PDef where
 name:ByteArray
 kind:Int
 lo:Int
 hi:Int
 words:List ByteArray
structure PSchema where
 dims:Int
 metric:Int
 defs:List PDef
structure PEntry where
 id:Int
 ver:Int
 owner:Int
 filed:Int
 frm:Int
 to:Int
 born:Int
 vec:List Int
 attrs:List PAttr
def eqB (a b:ByteArray):Bool:=a.toList == b.toList
def leqB (a b:ByteArray):Bool:=Op.bytesLess a.toList b.toList || a.toList == b.toList
theorem eqB_comm (a b:ByteArray):eqB a b=eqB b a:=by
 unfold eqB
 rw [Bool.eq_iff_iff];simp only [beq_iff_eq];exact eq_comm
def hasB (l:List ByteArray) (s:ByteArray):Bool:=l.any (fun x=>eqB x s)
def idxGo:List Bool→Int→Int
 | [],_ => -1
 |b :: r,k=>if b then k else idxGo r (k+1)
def idxB (l:List Bool):Int:=idxGo l 0
theorem idxGo_drop (l:List Bool) (k:Nat) (b:Bool) (h:l[k]? = some b):idxGo (l.drop k) k=if b then (k:Int) else idxGo (l.drop (k+1)) ((k+1:Nat):Int):=by
 obtain ⟨hk,rfl⟩:=List.getElem?_eq_some_iff.1 h
 rw [List.drop_eq_getElem_cons (by omega),idxGo];rfl
theorem idxGo_end (l:List Bool) (k:Nat) (h:l.length≤k):idxGo (l.drop k) k = -1:=by
 rw [List.drop_eq_nil_of_le h,idxGo]
theorem idxGo_bd:∀(l:List Bool) (k:Int),0≤k→(idxGo l k = -1∧l.any id=false)∨(k≤idxGo l k∧idxGo l k < k+l.length∧l.any id=true)
 | [],k,_=>.inl ⟨rfl,rfl⟩
 |b :: r,k,hk=>by
  rw [idxGo]
  cases b
  ·rcases idxGo_bd r (k+1) (by omega) with ⟨h1,h2⟩|⟨h1,h2,h3⟩
   ·exact .inl ⟨by simpa using h1,by simpa using h2⟩
   ·exact .inr ⟨by simp;omega,by simp;omega,by simpa using h3⟩
  ·exact .inr ⟨by simp,by simp;omega,by simp⟩
theorem idxB_any (l:List Bool):decide (0≤idxB l)=l.any id:=by
 rcases idxGo_bd l 0 (by omega) with ⟨h1,h2⟩|⟨h1,h2,h3⟩
 ·rw [h2,idxB,h1];rfl
 ·rw [h3,decide_eq_true_eq,idxB];exact h1
theorem idxB_lt (l:List Bool) (h:0≤idxB l):idxB l < l.length:=by
 rcases idxGo_bd l 0 (by omega) with ⟨h1,h2⟩|⟨h1,h2,h3⟩
 ·rw [idxB,h1] at h;omega
 ·rw [idxB];omega
theorem idxB_ge (l:List Bool) : -1≤idxB l:=by
 rcases idxGo_bd l 0 (by omega) with ⟨h1,h2⟩|⟨h1,h2,h3⟩<;>rw [idxB]<;>omega
def firstE:List (Bool×Int)→Int
 | []=>0
 |(b,e) :: r=>if b then e else firstE r
theorem firstE_drop (l:List (Bool×Int)) (k:Nat) (b:Bool) (e:Int) (h:l[k]? = some (b,e)):firstE (l.drop k)=if b then e else firstE (l.drop (k+1)):=by
 obtain ⟨hk,he⟩:=List.getElem?_eq_some_iff.1 h
 rw [List.drop_eq_getElem_cons (by omega),he,firstE]
theorem firstE_end (l:List (Bool×Int)) (k:Nat) (h:l.length≤k):firstE (l.drop k)=0:=by
 rw [List.drop_eq_nil_of_le h,firstE]
/- Names. -/
def lowI (c:Int):Bool:=decide (97≤c) && decide (c≤122)
def resI (c:Int):Bool:=(decide (48≤c) && decide (c≤57)) || c == 95
def nameGo:Bool→List UInt8→Bool
 |_,[]=>true
 |f,c :: r=>(lowI c.toNat || (!f && resI c.toNat)) && nameGo false r
theorem nameGo_drop (l:List UInt8) (k:Nat) (c:UInt8) (h:l[k]? = some c):nameGo (k == 0) (l.drop k)=((lowI c.toNat || (!(k == 0) && resI c.toNat)) && nameGo (k+1 == 0) (l.drop (k+1))):=by
 obtain ⟨hk,rfl⟩:=List.getElem?_eq_some_iff.1 h
 rw [List.drop_eq_getElem_cons (by omega),nameGo]
 rfl
theorem nameGo_end (l:List UInt8) (k:Nat) (f:Bool) (h:l.length≤k):nameGo f (l.drop k)=true:=by
 rw [List.drop_eq_nil_of_le h,nameGo]
def reserved:List ByteArray := [⟨#[97,108,108]⟩,⟨#[97,110,100]⟩,⟨#[104,97,115]⟩,⟨#[105,110]⟩,⟨#[110,111,116]⟩,⟨#[111,114]⟩]
def nameB (s:ByteArray):Bool:=nameGo true s.data.toList && (decide (1≤s.size) && decide (s.size≤40) && !hasB reserved s)
/- Strictly ascending. -/
def riseGo:ByteArray→List ByteArray→Bool
 |_,[]=>true
 |p,x :: r => !leqB x p && riseGo x r
def riseB:List ByteArray→Bool
 | []=>true
 |x :: r=>riseGo x r
theorem riseGo_drop (l:List ByteArray) (k:Nat) (p x:ByteArray) (h:l[k+1]? = some x):riseGo p (l.drop (k+1))=(!leqB x p && riseGo x (l.drop (k+2))):=by
 obtain ⟨hk,rfl⟩:=List.getElem?_eq_some_iff.1 h
 rw [List.drop_eq_getElem_cons (by omega),riseGo]
theorem riseB_start (l:List ByteArray) (x:ByteArray) (h:l[0]? = some x):riseB l=riseGo x (l.drop 1):=by
 cases l with
 |nil=>simp at h
 |cons a r=>simp at h;subst h;rfl
theorem riseGo_end (l:List ByteArray) (k:Nat) (p:ByteArray) (h:l.length≤k):riseGo p (l.drop k)=true:=by
 rw [List.drop_eq_nil_of_le h,riseGo]
def wordsE (l:List ByteArray):Int:=
 if l.length < 1∨50 < l.length then 2 else if l.any (fun s => !nameB s) then 5 else if riseB l then 0 else 6
def defE (d:PDef) (before:ByteArray):Int:=
 if !nameB d.name then 5
 else if leqB d.name before then 6
 else if d.kind=1 then
  (if d.lo < -1099511627776∨1099511627776 < d.hi∨d.hi < d.lo then 131 else if 0 < d.words.length then 3 else 0)
 else if d.kind=2 then
  (if d.lo≠0∨d.hi≠0 then 3 else wordsE d.words)
 else 130
def defsE:ByteArray→List PDef→Int
 |_,[]=>0
 |b,d :: r=>if defE d b≠0 then defE d b else defsE d.name r
def checkE (s:PSchema):Int:=
 if s.dims < 1∨32 < s.dims∨s.metric < 1∨3 < s.metric then 1
 else if 16 < s.defs.length then 2
 else defsE ByteArray.empty s.defs
def findI (l:List PDef) (nm:ByteArray):Int:=idxB (l.map fun d=>eqB d.name nm)
def valueE (d:PDef) (a:PAttr):Int:=
 if a.kind≠d.kind then 130
 else if a.kind=1 then (if eqB a.s ByteArray.empty=false then 3 else if a.n < d.lo∨d.hi < a.n then 131 else 0)
 else if a.n≠0 then 3
 else if hasB d.words a.s then 0 else 131
def fitE (ds:List PDef) (before:ByteArray) (first:Bool) (a:PAttr):Int:=
 if findI ds a.name < 0 then 5
 else if !first && leqB a.name before then 6
 else match ds[(findI ds a.name).toNat]? with
  |some d=>valueE d a
  |none=>0
def fitsGo (ds:List PDef):ByteArray→Bool→List PAttr→Int
 |_,_,[]=>0
 |b,f,a :: r=>if fitE ds b f a≠0 then fitE ds b f a else fitsGo ds a.name false r
def fitsE (s:PSchema) (l:List PAttr):Int:=fitsGo s.defs ByteArray.empty true l
def zeroA:PAttr:=⟨ByteArray.empty,0,0,ByteArray.empty⟩
def getA:List PAttr→ByteArray→PAttr×Bool
 | [],_=>(zeroA,false)
 |a :: r,nm=>if eqB a.name nm then (a,true) else getA r nm
def validV (v:List Int):Bool:=v.all (fun x=>decide (-1000≤x) && decide (x≤1000)) && (decide (1≤v.length) && decide (v.length≤32))
def entryE (s:PSchema) (e:PEntry):Int:=
 if e.id < 1∨1073741824 < e.id∨e.owner < 1∨1073741824 < e.owner∨e.ver < 1∨1073741824 < e.ver then 1
 else if e.filed < 0∨e.frm < e.filed∨e.to≤e.frm∨1048577 < e.to∨1048576 < e.frm∨e.born < 1∨1073741824 < e.born then 9
 else if validV e.vec=false∨(e.vec.length:Int)≠s.dims then 40
 else fitsE s e.attrs
end Go.Proofs.YtoamkpgaaanafaaGreat

/- Plain: an entry as numbers and strings. -/
namespace Go.Proofs.YtoamkpgaaanafaaGreat
set_option linter.unusedSimpArgs false
set_option linter.unusedVariables false
set_option linter.unnecessarySimpa false
def Fit64 (n:Int):Prop := -9223372036854775808≤n∧n≤9223372036854775807
structure FitE (e:PEntry):Prop where
 id:Fit64 e.id
 ver:Fit64 e.ver
 owner:Fit64 e.owner
 filed:Fit64 e.filed
 frm:Fit64 e.frm
 to:Fit64 e.to
 born:Fit64 e.born
 vec:∀z∈e.vec,Fit64 z
 attrs:∀a∈e.attrs,Fit64 a.kind∧Fit64 a.n
end Go.Proofs.YtoamkpgaaanafaaGreat

/- The walk of wire.GetInt. -/
namespace Go.Proofs.YtoamkpgaaanafaaGreat
set_option linter.unusedSimpArgs false
set_option linter.unusedVariables false
set_option linter.unnecessarySimpa false
open Go.RowKit
def Ret3 (w:World) (r:Int×Int×Int) (e:Ending) (w' : World):Prop:=
 e = .returned (.tuple #[.int .i64 r.1, .int .i64 r.2.1, .int .i64 r.2.2])∧Still w w'
theorem Ret3.mk {w w' : World} {r:Int×Int×Int} {x y z:Int} (h:r=(x,y,z)) (hs:Still w w'):Ret3 w r (.returned (.tuple #[.int .i64 x, .int .i64 y, .int .i64 z])) w':=by
 subst h;exact ⟨rfl,hs⟩
end Go.Proofs.YtoamkpgaaanafaaGreat

/- The walk of antiquaryref01.GetInt. -/
namespace Go.Proofs.YtoamkpgaaanafaaGreat
set_option linter.unusedSimpArgs false
set_option linter.unusedVariables false
set_option linter.unnecessarySimpa false
open Go.RowKit
end Go.Proofs.YtoamkpgaaanafaaGreat

/- The walks of wire and antiquaryref01: length, Ints. -/
namespace Go.Proofs.YtoamkpgaaanafaaGreat
set_option linter.unusedSimpArgs false
set_option linter.unusedVariables false
set_option linter.unnecessarySimpa false
open Go.RowKit
theorem Byte.all {bs:List Int} (h:Byte bs):∀c∈bs,0≤c∧c < 256:=by
 intro c hc
 obtain ⟨k,hk⟩:=List.getElem?_of_mem hc
 exact h k c hk
theorem Byte.of {bs:List Int} (h:∀c∈bs,0≤c∧c < 256):Byte bs:=fun _ c hk=>h c (List.mem_of_getElem? hk)
def Fit (l:List Int):Prop:=∀z∈l,-9223372036854775808≤z∧z≤9223372036854775807
theorem oneCells (k:IntKind) (l:List Int):∀c∈l.map (Value.int k),c.oneCell' = true:=by
 intro c hc
 obtain ⟨_,_,rfl⟩:=List.mem_map.1 hc
 rfl
set_option maxRecDepth 100000 in
set_option maxHeartbeats 1000000 in
theorem refInts (v:Value) (zs:List Int) (w:World) (hv:Ints w v zs) (hf:Fit zs) (hl:zs.length≤1000000000):Calls Tryz.prog 128 #[v] w (MadeBytes w (intsB zs)):=by
 obtain ⟨a,cap,b,off,rfl,hcap,hm,ha,hc⟩:=hv.open
 have HF:=Hid.mk hf
 have hl0:=intB_len zs.length (by omega) (by omega)
 go_enter Tryz.func128,Tryz.ntmps128
 go_wp2_with (go_at_call 211;refine (refInt _ _ (by omega) (by omega)).mono ?_;rintro e w1 ⟨v1,rfl,ho1,hb1⟩)
 go_loopw [3,4] (fun o i wr=>∃k:Nat,k≤zs.length∧i = .int .i64 k∧Own w.heap.size 5 wr o ((intB zs.length ++ ((zs.take k).map intB).flatten).map (Value.int .u8))∧Below w.heap.size w wr) (fun _ i _=>zs.length - (intOf i).toNat)
 case atStart=>exact ⟨0,by omega,rfl,by simpa using ho1,hb1⟩
 case round=>
  obtain ⟨k,hk,rfl,hown,hb⟩:=hrel
  have HB:=Hid.mk hb
  clear hb
  have hb2:=HB.out.size
  by_cases hlt:k < zs.length
  ·obtain ⟨y,hy⟩:=ints_get zs k hlt
   have c1:=below_cell HB.out (hc.out k y hy)
   obtain ⟨y1,y2⟩:=HF.out y (List.mem_of_getElem? hy)
   have hl1:=intB_len y y1 y2
   have hl2:=flat_len (zs.take k) (fun z hz=>HF.out z (List.mem_of_mem_take hz))
   have hl3:(zs.take k).length≤zs.length:=by rw [List.length_take];omega
   obtain rfl:=ha (by omega)
   have T:=Hid.mk (flat_take zs k y hy)
   clear ha hy
   go_wp2_with (first|(at_builtin;refine wp_append (.tmp 14) (.tmp 19) 92 5 1 _ elemByte rfl rfl Tryz.underlying92 w.heap.size _ _ _ _ rfl (hown.kept hb3) rfl ho3.rd (by simp only [List.length_map];omega) (oneCells _ _) (by simp only [List.length_map,List.length_append,maxLen];omega) (by simp only [List.length_map,List.length_append];omega) (by have:=hb3.size;omega) ?_;intro v' w' hown' hb')|(go_at_call 211;refine (refInt _ _ y1 y2).mono ?_;rintro e w3 ⟨v3,rfl,ho3,hb3⟩))
   go_roundw
   case rel=>exact ⟨k+1,by omega,by go_num,by rw [T.out,←List.append_assoc,List.map_append];exact hown',(HB.out.trans (hb3.mono hb2)).trans hb'⟩
   case measure=>simp [intOf];omega
  ·have e:zs.take k=zs:=List.take_of_length_le (by omega)
   rw [e] at hown
   go_wp2
   go_ret
   exact ⟨_,rfl,hown,HB.out⟩
end Go.Proofs.YtoamkpgaaanafaaGreat

/- Element types. -/
namespace Go.Proofs.YtoamkpgaaanafaaGreat
set_option linter.unusedSimpArgs false
set_option linter.unusedVariables false
set_option linter.unnecessarySimpa false
open Go.RowKit
theorem elemInt:Elem1 Tryz.prog 3 (.int .i64 0) 8:=⟨by kernel_rfl,rfl⟩
end Go.Proofs.YtoamkpgaaanafaaGreat

/- The walks of wire and antiquaryref01: GetInts. -/
namespace Go.Proofs.YtoamkpgaaanafaaGreat
set_option linter.unusedSimpArgs false
set_option linter.unusedVariables false
set_option linter.unnecessarySimpa false
open Go.RowKit
def MadeIntsN (w:World) (r:List Int×Int×Int) (e:Ending) (w' : World):Prop:=
 ∃v,e = .returned (.tuple #[v, .int .i64 r.2.1, .int .i64 r.2.2])∧Own w.heap.size 3 w' v (r.1.map (Value.int .i64))∧Below w.heap.size w w'
theorem MadeIntsN.mk {w w' : World} {r:List Int×Int×Int} {l:List Int} {x y:Int} {v:Value} (h:r=(l,x,y)) (ho:Own w.heap.size 3 w' v (l.map (Value.int .i64))) (hb:Below w.heap.size w w') :
  MadeIntsN w r (.returned (.tuple #[v, .int .i64 x, .int .i64 y])) w':=by
 subst h;exact ⟨v,rfl,ho,hb⟩
theorem Byte.drop {bs:List Int} (h:Byte bs) (m:Nat):Byte (bs.drop m):=fun k c hk=>h (m+k) c (by rw [←List.getElem?_drop];exact hk)
end Go.Proofs.YtoamkpgaaanafaaGreat

/- Strings, attributes, definitions, schemas and entries in memory. -/
namespace Go.Proofs.YtoamkpgaaanafaaGreat
set_option linter.unusedSimpArgs false
set_option linter.unusedVariables false
set_option linter.unnecessarySimpa false
open Go.RowKit
theorem below_alloc (w:World) (o:Obj):Below w.heap.size w (w.alloc o):=(Below.refl _ _).alloc (Nat.le_refl _) _
theorem below_drewN (w:World) (n:Nat):Below w.heap.size w (w.drewN n):=(Still.one w n).below _
def RdS (w:World) (v:Value) (k:Nat) (rows:List (List Value)):Prop:=
 ∃a cap b off,v = .slice a rows.length cap∧rows.length≤cap∧cap≤maxLen∧(0 < rows.length→a=some ⟨b,off,none⟩) ∧
  ∀i j r u,rows[i]? = some r→r[j]? = some u→w.cell? ⟨b,off+i * k+j,none⟩=some u
theorem RdS.below {w w' : World} {v:Value} {k:Nat} {rows:List (List Value)} (h:RdS w v k rows) (hb:Below w.heap.size w w'):RdS w' v k rows:=by
 obtain ⟨a,cap,b,off,h1,h2,h3,h4,h5⟩:=h
 exact ⟨a,cap,b,off,h1,h2,h3,h4,fun i j r u hr hu=>below_cell hb (h5 i j r u hr hu)⟩
def Strs (w:World) (v:Value) (l:List ByteArray):Prop:=Rd w v (l.map Value.string)
theorem Strs.below {w w' : World} {v:Value} {l:List ByteArray} (h:Strs w v l) (hb:Below w.heap.size w w'):Strs w' v l:=Rd.below h hb
theorem Ints.below {w w' : World} {v:Value} {l:List Int} (h:Ints w v l) (hb:Below w.heap.size w w'):Ints w' v l:=Rd.below h hb
theorem Bytes.below {w w' : World} {v:Value} {l:List Int} (h:Bytes w v l) (hb:Below w.heap.size w w'):Bytes w' v l:=Rd.below h hb
theorem Strs.open {w:World} {v:Value} {l:List ByteArray} (h:Strs w v l):∃a cap b off,v = .slice a l.length cap∧l.length≤cap∧cap≤maxLen ∧
  (0 < l.length→a=some ⟨b,off,none⟩)∧Hid (∀j x,l[j]? = some x→w.cell? ⟨b,off+j,none⟩=some (.string x)):=by
 obtain ⟨a,cap,b,off,h1,h2,h3,h4,h5⟩:=h
 simp only [List.length_map] at h1 h2 h4
 exact ⟨a,cap,b,off,h1,h2,h3,h4,fun j x hx=>h5 j _ (by simp [hx])⟩
def attrC (a:PAttr):List Value := [.string a.name, .int .i64 a.kind, .int .i64 a.n, .string a.s]
def attrV (a:PAttr):Value:=.agg #[.string a.name, .int .i64 a.kind, .int .i64 a.n, .string a.s]
def Attrs (w:World) (v:Value) (l:List PAttr):Prop:=RdS w v 4 (l.map attrC)
theorem Attrs.below {w w' : World} {v:Value} {l:List PAttr} (h:Attrs w v l) (hb:Below w.heap.size w w'):Attrs w' v l:=RdS.below h hb
def AttrAt (w:World) (b off:Nat) (x:PAttr):Prop:=
 w.cell? ⟨b,off,none⟩=some (.string x.name)∧w.cell? ⟨b,off+1,none⟩=some (.int .i64 x.kind)∧w.cell? ⟨b,off+2,none⟩=some (.int .i64 x.n)∧w.cell? ⟨b,off+3,none⟩=some (.string x.s)
theorem AttrAt.below {w w' : World} {b off:Nat} {x:PAttr} (h:AttrAt w b off x) (hb:Below w.heap.size w w'):AttrAt w' b off x:=
 ⟨below_cell hb h.1,below_cell hb h.2.1,below_cell hb h.2.2.1,below_cell hb h.2.2.2⟩
theorem AttrAt.lt {w:World} {b off:Nat} {x:PAttr} (h:AttrAt w b off x):b < w.heap.size:=World.block_lt_of_cell? _ _ h.1
theorem Attrs.open {w:World} {v:Value} {l:List PAttr} (h:Attrs w v l):∃a cap b off,v = .slice a l.length cap∧l.length≤cap∧cap≤maxLen ∧
  (0 < l.length→a=some ⟨b,off,none⟩)∧Hid (∀i x,l[i]? = some x→AttrAt w b (off+i * 4) x):=by
 obtain ⟨a,cap,b,off,h1,h2,h3,h4,h5⟩:=h
 simp only [List.length_map] at h1 h2 h4
 refine ⟨a,cap,b,off,h1,h2,h3,h4,fun i x hx=>?_⟩
 have e:(l.map attrC)[i]? = some (attrC x):=by simp [hx]
 exact ⟨h5 i 0 _ _ e rfl,h5 i 1 _ _ e rfl,h5 i 2 _ _ e rfl,h5 i 3 _ _ e rfl⟩
def DefAt (w:World) (b off:Nat) (d:PDef) (wv:Value):Prop:=
 w.cell? ⟨b,off,none⟩=some (.string d.name)∧w.cell? ⟨b,off+1,none⟩=some (.int .i64 d.kind)∧w.cell? ⟨b,off+2,none⟩=some (.int .i64 d.lo)∧w.cell? ⟨b,off+3,none⟩=some (.int .i64 d.hi)∧w.cell? ⟨b,off+4,none⟩=some wv
theorem DefAt.below {w w' : World} {b off:Nat} {d:PDef} {wv:Value} (h:DefAt w b off d wv) (hb:Below w.heap.size w w'):DefAt w' b off d wv:=
 ⟨below_cell hb h.1,below_cell hb h.2.1,below_cell hb h.2.2.1,below_cell hb h.2.2.2.1,below_cell hb h.2.2.2.2⟩
theorem DefAt.lt {w:World} {b off:Nat} {d:PDef} {wv:Value} (h:DefAt w b off d wv):b < w.heap.size:=World.block_lt_of_cell? _ _ h.1
def defV (d:PDef) (wv:Value):Value:=.agg #[.string d.name, .int .i64 d.kind, .int .i64 d.lo, .int .i64 d.hi,wv]
def Defs (w:World) (v:Value) (l:List PDef):Prop:=
 ∃a cap b off,v = .slice a l.length cap∧l.length≤cap∧cap≤maxLen∧(0 < l.length→a=some ⟨b,off,none⟩) ∧
  ∀i d,l[i]? = some d→∃wv,DefAt w b (off+i * 5) d wv∧Strs w wv d.words
theorem Defs.below {w w' : World} {v:Value} {l:List PDef} (h:Defs w v l) (hb:Below w.heap.size w w'):Defs w' v l:=by
 obtain ⟨a,cap,b,off,h1,h2,h3,h4,h5⟩:=h
 refine ⟨a,cap,b,off,h1,h2,h3,h4,fun i d hd=>?_⟩
 obtain ⟨wv,h6,h7⟩:=h5 i d hd
 exact ⟨wv,h6.below hb,h7.below hb⟩
theorem Defs.open {w:World} {v:Value} {l:List PDef} (h:Defs w v l):∃a cap b off,v = .slice a l.length cap∧l.length≤cap∧cap≤maxLen ∧
  (0 < l.length→a=some ⟨b,off,none⟩)∧Hid (∀i d,l[i]? = some d→∃wv,DefAt w b (off+i * 5) d wv∧Strs w wv d.words):=h
def SchemaV (w:World) (v:Value) (s:PSchema):Prop:=∃dv,v = .agg #[.int .i64 s.dims, .int .i64 s.metric,dv]∧Defs w dv s.defs
theorem SchemaV.below {w w' : World} {v:Value} {s:PSchema} (h:SchemaV w v s) (hb:Below w.heap.size w w'):SchemaV w' v s:=by
 obtain ⟨dv,h1,h2⟩:=h
 exact ⟨dv,h1,h2.below hb⟩
def entryVal (e:PEntry) (vv av:Value):Value:=.agg #[.int .i64 e.id, .int .i64 e.ver, .int .i64 e.owner, .int .i64 e.filed, .int .i64 e.frm, .int .i64 e.to, .int .i64 e.born,vv,av]
def EntryV (w:World) (v:Value) (e:PEntry):Prop:=∃vv av,v=entryVal e vv av∧Ints w vv e.vec∧Attrs w av e.attrs
theorem EntryV.below {w w' : World} {v:Value} {e:PEntry} (h:EntryV w v e) (hb:Below w.heap.size w w'):EntryV w' v e:=by
 obtain ⟨vv,av,h1,h2,h3⟩:=h
 exact ⟨vv,av,h1,h2.below hb,h3.below hb⟩
def RetB (w:World) (b:Bool) (e:Ending) (w' : World):Prop:=e = .returned (.bool b)∧Below w.heap.size w w'
def RetI (w:World) (n:Int) (e:Ending) (w' : World):Prop:=e = .returned (.int .i64 n)∧Below w.heap.size w w'
theorem RetB.mk {w w' : World} {a b:Bool} (h:a=b) (hb:Below w.heap.size w w'):RetB w b (.returned (.bool a)) w':=⟨by rw [h],hb⟩
theorem RetI.mk {w w' : World} {a b:Int} (h:a=b) (hb:Below w.heap.size w w'):RetI w b (.returned (.int .i64 a)) w':=⟨by rw [h],hb⟩
end Go.Proofs.YtoamkpgaaanafaaGreat

/- Walks: lists of strings: antiquaryref13.Has, slices.Index, slices.Contains, rising. -/
namespace Go.Proofs.YtoamkpgaaanafaaGreat
set_option linter.unusedSimpArgs false
set_option linter.unusedVariables false
set_option linter.unnecessarySimpa false
open Go.RowKit
theorem any_drop (l:List ByteArray) (p:ByteArray→Bool) (k:Nat) (x:ByteArray) (h:l[k]? = some x):(l.drop k).any p=(p x || (l.drop (k+1)).any p):=by
 obtain ⟨hk,rfl⟩:=List.getElem?_eq_some_iff.1 h
 rw [List.drop_eq_getElem_cons (by omega),List.any_cons]
theorem any_end (l:List ByteArray) (p:ByteArray→Bool) (k:Nat) (h:l.length≤k):(l.drop k).any p=false:=by
 rw [List.drop_eq_nil_of_le h];rfl
set_option maxRecDepth 100000 in
set_option maxHeartbeats 400000 in
theorem refHasS (v:Value) (l:List ByteArray) (s:ByteArray) (w:World) (hv:Strs w v l) (hl:l.length≤1000000000) :
  Calls Tryz.prog 86 #[v, .string s] w fun e w' => e = .returned (.bool (hasB l s))∧w=w':=by
 obtain ⟨a,cap,b,off,rfl,hcap,hm,ha,hc⟩:=hv.open
 go_enter Tryz.func86,Tryz.ntmps86
 go_wp2
 go_loop [5] (fun i=>∃k:Nat,k≤l.length∧i = .int .i64 k∧Hid (hasB l s=hasB (l.drop k) s)) (fun i=>l.length - (intOf i).toNat)
 case atStart=>exact ⟨0,by omega,rfl,rfl⟩
 case round=>
  obtain ⟨k,hk,rfl,hh⟩:=hrel
  by_cases hlt:k < l.length
  ·obtain ⟨y,hy⟩:=ints_get l k (by omega)
   have c0:=hc.out k y hy
   obtain rfl:=ha (by omega)
   have H:Hid (_=_):=any_drop l (fun x=>eqB x s) k y hy
   clear ha hy
   by_cases e:eqB y s=true
   ·have e' : (y.toList == s.toList)=true:=e
    go_wp2
    go_ret
    exact ⟨ret_bool (by rw [hh.out,hasB,H.out,e];rfl),rfl⟩
   ·have e2:eqB y s=false:=by simpa using e
    have e' : (y.toList == s.toList)=false:=e2
    go_wp2
    go_round
    case rel=>exact ⟨k+1,by omega,by go_num,by rw [Hid,hh.out,hasB,H.out,e2];rfl⟩
    case measure=>simp [intOf];omega
  ·go_wp2
   go_ret
   exact ⟨ret_bool (by rw [hh.out,hasB,any_end _ _ _ (by omega)]),rfl⟩
set_option maxRecDepth 100000 in
set_option maxHeartbeats 400000 in
theorem slicesIndexS (v:Value) (l:List ByteArray) (s:ByteArray) (w:World) (hv:Strs w v l) (hl:l.length≤1000000000) :
  Calls Tryz.prog 149 #[v, .string s] w fun e w' => e = .returned (.int .i64 (idxB (l.map fun x=>eqB x s)))∧w=w':=by
 obtain ⟨a,cap,b,off,rfl,hcap,hm,ha,hc⟩:=hv.open
 go_enter Tryz.func149,Tryz.ntmps149
 go_wp2
 go_loop [8] (fun i=>∃k:Nat,k≤l.length∧i = .int .i64 k∧Hid (idxB (l.map fun x=>eqB x s)=idxGo ((l.map fun x=>eqB x s).drop k) k)) (fun i=>l.length - (intOf i).toNat)
 case atStart=>exact ⟨0,by omega,rfl,rfl⟩
 case round=>
  obtain ⟨k,hk,rfl,hh⟩:=hrel
  by_cases hlt:k < l.length
  ·obtain ⟨y,hy⟩:=ints_get l k (by omega)
   have c0:=hc.out k y hy
   obtain rfl:=ha (by omega)
   have H:Hid (_=_):=idxGo_drop (l.map fun x=>eqB x s) k (eqB y s) (by simp [hy])
   clear ha hy
   by_cases e:eqB y s=true
   ·have e' : (s.toList == y.toList)=true:=by rw [eqB_comm] at e;exact e
    go_wp2
    go_ret
    exact ⟨ret_int (by rw [hh.out,H.out,e];rfl),rfl⟩
   ·have e2:eqB y s=false:=by simpa using e
    have e' : (s.toList == y.toList)=false:=by rw [eqB_comm] at e2;exact e2
    go_wp2
    go_round
    case rel=>exact ⟨k+1,by omega,by go_num,by rw [Hid,hh.out,H.out,e2];rfl⟩
    case measure=>simp [intOf];omega
  ·go_wp2
   go_ret
   exact ⟨ret_int (by rw [hh.out,idxGo_end _ _ (by simp;omega)]),rfl⟩
set_option maxRecDepth 100000 in
set_option maxHeartbeats 400000 in
theorem slicesContainsS (v:Value) (l:List ByteArray) (s:ByteArray) (w:World) (hv:Strs w v l) (hl:l.length≤1000000000) :
  Calls Tryz.prog 73 #[v, .string s] w fun e w' => e = .returned (.bool (hasB l s))∧w=w':=by
 have H:Hid (decide (0≤idxB (l.map fun x=>eqB x s))=hasB l s):=by rw [Hid,idxB_any,List.any_map];rfl
 go_enter Tryz.func73,Tryz.ntmps73
 go_wp2_with (go_at_call 149;refine (slicesIndexS _ l s _ hv hl).mono ?_;rintro e w' ⟨rfl,rfl⟩)
 go_ret
 exact ⟨ret_bool H.out,rfl⟩
set_option maxRecDepth 100000 in
set_option maxHeartbeats 400000 in
theorem attrRising (v:Value) (l:List ByteArray) (w:World) (hv:Strs w v l) (hl:l.length≤1000000000) :
  Calls Tryz.prog 224 #[v] w fun e w' => e = .returned (.bool (riseB l))∧Still w w':=by
 obtain ⟨a,cap,b,off,rfl,hcap,hm,ha,hc⟩:=hv.open
 by_cases h0:l.length=0
 ·have hb:Hid (riseB l=true):=by rw [List.length_eq_zero_iff.1 h0];rfl
  have hlt:l.length < 1:=by omega
  clear h0
  go_enter Tryz.func224,Tryz.ntmps224
  go_wp2
  go_loop [3] (fun i=>i = .int .i64 1) (fun i=>0)
  case atStart=>rfl
  case round=>
   obtain rfl:=hrel
   go_wp2
   go_ret
   exact ⟨ret_bool hb.out.symm,Still.refl _⟩
 ·obtain rfl:=ha (by omega)
  have hpos:1≤l.length:=by omega
  clear h0 ha
  obtain ⟨x0,hx0⟩:=ints_get l 0 (by omega)
  have S0:Hid (riseB l=riseGo x0 (l.drop 1)):=riseB_start l x0 hx0
  have X0:Hid (l[0]? = some x0):=hx0
  clear hx0
  go_enter Tryz.func224,Tryz.ntmps224
  go_wp2
  go_loopw [3] (fun i wr=>∃k n:Nat,∃p,k+1≤l.length∧i = .int .i64 ((k+1:Nat):Int)∧wr=w.drewN n∧Hid (l[k]? = some p)∧Hid (riseB l=riseGo p (l.drop (k+1)))) (fun i _=>l.length - (intOf i).toNat)
  case atStart=>exact ⟨0,0,x0,by omega,rfl,rfl,X0,S0⟩
  case round=>
   obtain ⟨k,n,p,hk,rfl,rfl,hp,hh⟩:=hrel
   by_cases hlt:k+1 < l.length
   ·obtain ⟨y,hy⟩:=ints_get l (k+1) (by omega)
    have c0:=hc.out (k+1) y hy
    have c1:=hc.out k p hp.out
    have H:Hid (_=_):=riseGo_drop l k p y hy
    have Y:Hid (l[k+1]? = some y):=hy
    clear hy
    by_cases e:leqB y p=true
    ·have e' : (Op.bytesLess y.toList p.toList || y.toList == p.toList)=true:=e
     go_wp2
     go_quiet (fail)
     go_wp2
     go_ret
     exact ⟨ret_bool (by rw [hh.out,H.out,e];rfl),by first|exact Still.two _ _ _|exact Still.one _ _⟩
    ·have e2:leqB y p=false:=by simpa using e
     have e' : (Op.bytesLess y.toList p.toList || y.toList == p.toList)=false:=e2
     go_wp2
     go_quiet (fail)
     go_wp2
     go_roundw
     case rel=>exact ⟨k+1,_,y,by omega,by go_num,rfl,Y,by rw [Hid,hh.out,H.out,e2];rfl⟩
     case measure=>simp [intOf];omega
   ·go_wp2
    go_ret
    exact ⟨ret_bool (by rw [hh.out,riseGo_end _ _ _ (by omega)]),Still.one _ _⟩
end Go.Proofs.YtoamkpgaaanafaaGreat

/- Walks: Name. -/
namespace Go.Proofs.YtoamkpgaaanafaaGreat
set_option linter.unusedSimpArgs false
set_option linter.unusedVariables false
set_option linter.unnecessarySimpa false
open Go.RowKit
theorem byteAt (s:ByteArray) (k:Nat) (h:k < s.size):s.data.toList[k]? = some (s[k]'h):=by
 rw [List.getElem?_eq_getElem (by simpa using h)];rfl
def okC (k:Nat) (c:Int):Bool:=lowI c || (!(k == 0) && resI c)
theorem nameGo_step (s:ByteArray) (k:Nat) (h:k < s.size):nameGo (k == 0) (s.data.toList.drop k)=(okC k ((s[k]'h).toNat:Int) && nameGo (k+1 == 0) (s.data.toList.drop (k+1))):=
 nameGo_drop _ _ _ (byteAt s k h)
theorem lit_reserved (w:World):Strs (w.alloc (.cells #[Value.string ⟨#[97,108,108]⟩,Value.string ⟨#[97,110,100]⟩,Value.string ⟨#[104,97,115]⟩,Value.string ⟨#[105,110]⟩,Value.string ⟨#[110,111,116]⟩,Value.string ⟨#[111,114]⟩] 9)) (.slice (some ⟨w.heap.size,0,none⟩) 6 6) reserved:=
 (Own.lit w (reserved.map Value.string) 9 w.heap.size (Nat.le_refl _) (by simp [maxLen,reserved])).rd
set_option maxRecDepth 100000 in
set_option maxHeartbeats 1000000 in
theorem refName (s : ByteArray) (w : World) (hs : s.size ≤ 1000000000) :
    Calls Tryz.prog 144 #[.string s] w (RetB w (nameB s)) := by
  go_enter Tryz.func144, Tryz.ntmps144
  go_wp2
  go_loop [3] (fun i => ∃ k : Nat, k ≤ s.size ∧ i = .int .i64 k ∧ Hid (nameGo true s.data.toList = nameGo (k == 0) (s.data.toList.drop k))) (fun i => s.size - (intOf i).toNat)
  case atStart => exact ⟨0, by omega, rfl, rfl⟩
  case round =>
    obtain ⟨k, hk, rfl, hh⟩ := hrel
    by_cases hlt : k < s.size
    · have H : Hid (_ = _) := nameGo_step s k hlt
      have bad : Hid (okC k ((s[k]'hlt).toNat : Int) = false → nameB s = false) := by
        intro h; rw [nameB, hh.out, H.out, h]; rfl
      have good : Hid (okC k ((s[k]'hlt).toNat : Int) = true → nameGo true s.data.toList = nameGo (k + 1 == 0) (s.data.toList.drop (k+1))) := by
        intro h; rw [hh.out, H.out, h]; rfl
      clear H hh
      have kk : ((k : Int) == 0) = (k == 0) := by rw [Bool.eq_iff_iff]; simp
      have KK := Lib.hid kk
      clear kk
      cases ok : okC k ((s[k]'hlt).toNat : Int) <;> cases K0 : (k == 0) <;> cases T1 : decide ((97 : Int) ≤ ((s[k]'hlt).toNat : Int)) <;> cases T2 : decide (((s[k]'hlt).toNat : Int) ≤ 122) <;> cases T3 : decide ((48 : Int) ≤ ((s[k]'hlt).toNat : Int)) <;>
        cases T4 : decide (((s[k]'hlt).toNat : Int) ≤ 57) <;> cases T5 : (((s[k]'hlt).toNat : Int) == 95)
      all_goals first
        | (exfalso; simp [okC, lowI, resI, K0, T1, T2, T3, T4, T5] at ok; done)
        | (exfalso; simp only [decide_eq_true_eq, decide_eq_false_iff_not, beq_iff_eq, beq_eq_false_iff_ne] at T1 T2 T3 T4 T5; omega)
        | skip
      all_goals
        have KI := KK.out
        rw [K0] at KI
        have OK := Lib.hid ok
        clear ok K0
        go_wp2
        first
          | (go_ret; refine RetB.mk (bad.out OK.out).symm (Below.refl _ _))
          | (go_round
             case rel => exact ⟨k + 1, by omega, by go_num, good.out OK.out⟩
             case measure => simp [intOf]; omega)
    · have HE : Hid (nameGo true s.data.toList = true) := by rw [Hid, hh.out, nameGo_end _ _ _ (by simp; omega)]
      clear hh
      by_cases h1 : 1 ≤ s.size
      · by_cases h2 : s.size ≤ 40
        · have h1' : decide ((1 : Int) ≤ (s.size : Int)) = true := by simp; omega
          have h2' : decide ((s.size : Int) ≤ 40) = true := by simp; omega
          have HN : Hid (nameB s = !hasB reserved s) := by rw [Hid, nameB, HE.out]; simp [h1, h2]
          go_wp2_with (go_at_call 86; refine (refHasS _ reserved s _ (lit_reserved w) (by decide)).mono ?_; rintro e w' ⟨rfl, rfl⟩)
          go_ret
          exact RetB.mk HN.out.symm (below_alloc _ _)
        · have h2' : decide ((s.size : Int) ≤ 40) = false := by simp; omega
          have HN : Hid (nameB s = false) := by rw [Hid, nameB, HE.out]; simp [h2]
          go_wp2
          go_ret
          exact RetB.mk HN.out.symm (Below.refl _ _)
      · have h1' : decide ((1 : Int) ≤ (s.size : Int)) = false := by simp; omega
        have HN : Hid (nameB s = false) := by rw [Hid, nameB, HE.out]; simp [h1]
        go_wp2
        go_ret
        exact RetB.mk HN.out.symm (Below.refl _ _)
theorem below_iter (w:World) (s:ByteArray) (k:Nat):Below w.heap.size w (w.iter s k):=below_alloc _ _
set_option maxRecDepth 100000 in
set_option maxHeartbeats 2000000 in
theorem attrName (s : ByteArray) (w : World) (hs : s.size ≤ 1000000000) :
    Calls Tryz.prog 214 #[.string s] w (RetB w (nameB s)) := by
  go_enter Tryz.func214, Tryz.ntmps214
  go_wp2
  go_loopw [3, 4] (fun _ _ wr => ∃ k : Nat, k ≤ s.size ∧ wr = w.iter s k ∧ Hid (nameGo true s.data.toList = nameGo (k == 0) (s.data.toList.drop k))) (fun _ _ wr => s.size - wr.iterPos w.heap.size)
  case atStart => exact ⟨0, by omega, rfl, rfl⟩
  case round =>
    obtain ⟨k, hk, rfl, hh⟩ := hrel
    by_cases hlt : k < s.size
    · have H : Hid (_ = _) := nameGo_step s k hlt
      have bad : Hid (okC k ((s[k]'hlt).toNat : Int) = false → nameB s = false) := by
        intro h; rw [nameB, hh.out, H.out, h]; rfl
      have good : Hid (okC k ((s[k]'hlt).toNat : Int) = true → nameGo true s.data.toList = nameGo (k + 1 == 0) (s.data.toList.drop (k+1))) := by
        intro h; rw [hh.out, H.out, h]; rfl
      clear H hh
      have kk : ((k : Int) == 0) = (k == 0) := by rw [Bool.eq_iff_iff]; simp
      have KK := Lib.hid kk
      clear kk
      by_cases h128 : (s[k]'hlt).toNat < 128
      · have hnx := fun ty => run_next_ascii (P := Tryz.prog) w s k ty hlt h128
        cases ok : okC k ((s[k]'hlt).toNat : Int) <;> cases K0 : (k == 0) <;> cases T1 : decide (((s[k]'hlt).toNat : Int) < 97) <;> cases T2 : decide (122 < ((s[k]'hlt).toNat : Int)) <;> cases T3 : decide (((s[k]'hlt).toNat : Int) < 48) <;>
          cases T4 : decide (57 < ((s[k]'hlt).toNat : Int)) <;> cases T5 : (((s[k]'hlt).toNat : Int) != 95)
        all_goals first
          | (exfalso; simp only [decide_eq_true_eq, decide_eq_false_iff_not, bne_iff_ne, bne_eq_false_iff_eq] at T1 T2 T3 T4 T5; omega)
          | (exfalso
             simp only [decide_eq_true_eq, decide_eq_false_iff_not, bne_iff_ne, bne_eq_false_iff_eq] at T1 T2 T3 T4 T5
             simp [okC, lowI, resI, K0] at ok
             omega)
          | skip
        all_goals
          have KI := KK.out
          rw [K0] at KI
          have OK := Lib.hid ok
          clear ok K0
          go_wp2
          first
            | (go_ret; refine RetB.mk (bad.out OK.out).symm (below_iter _ _ _))
            | (go_roundw
               case rel => exact ⟨k + 1, by omega, rfl, good.out OK.out⟩
               case measure => simp; omega)
      · have hnx := fun ty => run_next_any (P := Tryz.prog) w s k ty hlt
        have hd := (decode_high s k hlt (by omega)).1
        have OK : Hid (okC k ((s[k]'hlt).toNat : Int) = false) := by
          simp [Hid, okC, lowI, resI]
          have := (s[k]'hlt).toNat_lt
          omega
        generalize Utf8.decode s k = dd at hnx hd
        obtain ⟨r, d⟩ := dd
        simp only at hnx hd
        have T1 : decide ((r : Int) < 97) = false := by simp; omega
        have T2 : decide (122 < (r : Int)) = true := by simp; omega
        have T3 : decide ((r : Int) < 48) = false := by simp; omega
        have T4 : decide (57 < (r : Int)) = true := by simp; omega
        have T5 : ((r : Int) != 95) = true := by simp; omega
        cases K0 : (k == 0)
        all_goals
          have KI := KK.out
          rw [K0] at KI
          clear K0
          go_wp2
          go_ret
          exact RetB.mk (bad.out OK.out).symm (below_iter _ _ _)
    · have HE : Hid (nameGo true s.data.toList = true) := by rw [Hid, hh.out, nameGo_end _ _ _ (by simp; omega)]
      have hnx := fun ty => run_next_end (P := Tryz.prog) w s k ty hlt
      clear hh
      by_cases h1 : 1 ≤ s.size
      · by_cases h2 : s.size ≤ 40
        · have h1' : decide ((1 : Int) ≤ (s.size : Int)) = true := by simp; omega
          have h2' : decide ((s.size : Int) ≤ 40) = true := by simp; omega
          have HN : Hid (nameB s = !hasB reserved s) := by rw [Hid, nameB, HE.out]; simp [h1, h2]
          go_wp2_with (go_at_call 73; refine (slicesContainsS _ reserved s _ (lit_reserved (w.iter s k)) (by decide)).mono ?_; rintro e w' ⟨rfl, rfl⟩)
          go_ret
          exact RetB.mk HN.out.symm ((below_iter w s k).trans ((below_alloc _ _).mono (below_iter w s k).size))
        · have h2' : decide ((s.size : Int) ≤ 40) = false := by simp; omega
          have HN : Hid (nameB s = false) := by rw [Hid, nameB, HE.out]; simp [h2]
          go_wp2
          go_ret
          exact RetB.mk HN.out.symm (below_iter _ _ _)
      · have h1' : decide ((1 : Int) ≤ (s.size : Int)) = false := by simp; omega
        have HN : Hid (nameB s = false) := by rw [Hid, nameB, HE.out]; simp [h1]
        go_wp2
        go_ret
        exact RetB.mk HN.out.symm (below_iter _ _ _)
end Go.Proofs.YtoamkpgaaanafaaGreat
