/- Out of: Wire2, Elem, Wire5, AttrM, RegionB. -/
import Derived.Orders
import Derived.Test.YtoamkpgaaanafaaGreatM1
import Derived.Test.YtoamkpgaaanafaaGreatM2
namespace Go.Proofs.YtoamkpgaaanafaaGreat
set_option linter.unusedSimpArgs false
set_option linter.unusedVariables false
set_option linter.unnecessarySimpa false
section
open Go.RowKit
def Ret3 (w:World) (r:Int×Int×Int) (e:Ending) (w' : World):Prop:=
 e = .returned (.tuple #[.int .i64 r.1, .int .i64 r.2.1, .int .i64 r.2.2])∧Still w w'
theorem Ret3.mk {w w' : World} {r:Int×Int×Int} {x y z:Int} (h:r=(x,y,z)) (hs:Still w w'):Ret3 w r (.returned (.tuple #[.int .i64 x, .int .i64 y, .int .i64 z])) w':=by
 subst h;exact ⟨rfl,hs⟩
theorem elemInt:Elem1 Tryz.prog 3 (.int .i64 0) 8:=⟨by kernel_rfl,rfl⟩
def MadeIntsN (w:World) (r:List Int×Int×Int) (e:Ending) (w' : World):Prop:=
 ∃v,e = .returned (.tuple #[v, .int .i64 r.2.1, .int .i64 r.2.2])∧Own w.heap.size 3 w' v (r.1.map (Value.int .i64))∧Below w.heap.size w w'
theorem MadeIntsN.mk {w w' : World} {r:List Int×Int×Int} {l:List Int} {x y:Int} {v:Value} (h:r=(l,x,y)) (ho:Own w.heap.size 3 w' v (l.map (Value.int .i64))) (hb:Below w.heap.size w w') :
  MadeIntsN w r (.returned (.tuple #[v, .int .i64 x, .int .i64 y])) w':=by
 subst h;exact ⟨v,rfl,ho,hb⟩
theorem Byte.drop {bs:List Int} (h:Byte bs) (m:Nat):Byte (bs.drop m):=fun k c hk=>h (m+k) c (by rw [←List.getElem?_drop];exact hk)
theorem below_alloc (w:World) (o:Obj):Below w.heap.size w (w.alloc o):=(Below.refl _ _).alloc (Nat.le_refl _) _
theorem below_drewN (w:World) (n:Nat):Below w.heap.size w (w.drewN n):=(Still.one w n).below _
def RdS (w:World) (v:Value) (k:Nat) (rows:List (List Value)):Prop:=
 ∃a cap b off,v = .slice a rows.length cap∧rows.length≤cap∧cap≤maxLen∧(0 < rows.length→a=some ⟨b,off,none⟩) ∧
  ∀i j r u,rows[i]? = some r→r[j]? = some u→w.cell? ⟨b,off+i * k+j,none⟩=some u
theorem RdS.below {w w' : World} {v:Value} {k:Nat} {rows:List (List Value)} (h:RdS w v k rows) (hb:Below w.heap.size w w'):RdS w' v k rows:=by
 obtain ⟨a,cap,b,off,h1,h2,h3,h4,h5⟩:=h
 exact ⟨a,cap,b,off,h1,h2,h3,h4,fun i j r u hr hu=>below_cell hb (h5 i j r u hr hu)⟩
def Strs (w:World) (v:Value) (l:List ByteArray):Prop:=Rd w v (l.map Value.string)
theorem Strs.below {w w' : World} {v:Value} {l:List ByteArray} (h:Strs w v l) (hb:Below w.heap.size w w'):Strs w' v l:=Rd.below h hb
theorem Ints.below {w w' : World} {v:Value} {l:List Int} (h:Ints w v l) (hb:Below w.heap.size w w'):Ints w' v l:=Rd.below h hb
theorem Bytes.below {w w' : World} {v:Value} {l:List Int} (h:Bytes w v l) (hb:Below w.heap.size w w'):Bytes w' v l:=Rd.below h hb
theorem Strs.open {w:World} {v:Value} {l:List ByteArray} (h:Strs w v l):∃a cap b off,v = .slice a l.length cap∧l.length≤cap∧cap≤maxLen ∧
  (0 < l.length→a=some ⟨b,off,none⟩)∧Hid (∀j x,l[j]? = some x→w.cell? ⟨b,off+j,none⟩=some (.string x)):=by
 obtain ⟨a,cap,b,off,h1,h2,h3,h4,h5⟩:=h
 simp only [List.length_map] at h1 h2 h4
 exact ⟨a,cap,b,off,h1,h2,h3,h4,fun j x hx=>h5 j _ (by simp [hx])⟩
def attrC (a:PAttr):List Value := [.string a.name, .int .i64 a.kind, .int .i64 a.n, .string a.s]
def attrV (a:PAttr):Value:=.agg #[.string a.name, .int .i64 a.kind, .int .i64 a.n, .string a.s]
def Attrs (w:World) (v:Value) (l:List PAttr):Prop:=RdS w v 4 (l.map attrC)
theorem Attrs.below {w w' : World} {v:Value} {l:List PAttr} (h:Attrs w v l) (hb:Below w.heap.size w w'):Attrs w' v l:=RdS.below h hb
def AttrAt (w:World) (b off:Nat) (x:PAttr):Prop:=
 w.cell? ⟨b,off,none⟩=some (.string x.name)∧w.cell? ⟨b,off+1,none⟩=some (.int .i64 x.kind)∧w.cell? ⟨b,off+2,none⟩=some (.int .i64 x.n)∧w.cell? ⟨b,off+3,none⟩=some (.string x.s)
theorem AttrAt.below {w w' : World} {b off:Nat} {x:PAttr} (h:AttrAt w b off x) (hb:Below w.heap.size w w'):AttrAt w' b off x:=
 ⟨below_cell hb h.1,below_cell hb h.2.1,below_cell hb h.2.2.1,below_cell hb h.2.2.2⟩
theorem AttrAt.lt {w:World} {b off:Nat} {x:PAttr} (h:AttrAt w b off x):b < w.heap.size:=World.block_lt_of_cell? _ _ h.1
theorem Attrs.open {w:World} {v:Value} {l:List PAttr} (h:Attrs w v l):∃a cap b off,v = .slice a l.length cap∧l.length≤cap∧cap≤maxLen ∧
  (0 < l.length→a=some ⟨b,off,none⟩)∧Hid (∀i x,l[i]? = some x→AttrAt w b (off+i * 4) x):=by
 obtain ⟨a,cap,b,off,h1,h2,h3,h4,h5⟩:=h
 simp only [List.length_map] at h1 h2 h4
 refine ⟨a,cap,b,off,h1,h2,h3,h4,fun i x hx=>?_⟩
 have e:(l.map attrC)[i]? = some (attrC x):=by simp [hx]
 exact ⟨h5 i 0 _ _ e rfl,h5 i 1 _ _ e rfl,h5 i 2 _ _ e rfl,h5 i 3 _ _ e rfl⟩
def DefAt (w:World) (b off:Nat) (d:PDef) (wv:Value):Prop:=
 w.cell? ⟨b,off,none⟩=some (.string d.name)∧w.cell? ⟨b,off+1,none⟩=some (.int .i64 d.kind)∧w.cell? ⟨b,off+2,none⟩=some (.int .i64 d.lo)∧w.cell? ⟨b,off+3,none⟩=some (.int .i64 d.hi)∧w.cell? ⟨b,off+4,none⟩=some wv
theorem DefAt.below {w w' : World} {b off:Nat} {d:PDef} {wv:Value} (h:DefAt w b off d wv) (hb:Below w.heap.size w w'):DefAt w' b off d wv:=
 ⟨below_cell hb h.1,below_cell hb h.2.1,below_cell hb h.2.2.1,below_cell hb h.2.2.2.1,below_cell hb h.2.2.2.2⟩
theorem DefAt.lt {w:World} {b off:Nat} {d:PDef} {wv:Value} (h:DefAt w b off d wv):b < w.heap.size:=World.block_lt_of_cell? _ _ h.1
def defV (d:PDef) (wv:Value):Value:=.agg #[.string d.name, .int .i64 d.kind, .int .i64 d.lo, .int .i64 d.hi,wv]
def Defs (w:World) (v:Value) (l:List PDef):Prop:=
 ∃a cap b off,v = .slice a l.length cap∧l.length≤cap∧cap≤maxLen∧(0 < l.length→a=some ⟨b,off,none⟩) ∧
  ∀i d,l[i]? = some d→∃wv,DefAt w b (off+i * 5) d wv∧Strs w wv d.words
theorem Defs.below {w w' : World} {v:Value} {l:List PDef} (h:Defs w v l) (hb:Below w.heap.size w w'):Defs w' v l:=by
 obtain ⟨a,cap,b,off,h1,h2,h3,h4,h5⟩:=h
 refine ⟨a,cap,b,off,h1,h2,h3,h4,fun i d hd=>?_⟩
 obtain ⟨wv,h6,h7⟩:=h5 i d hd
 exact ⟨wv,h6.below hb,h7.below hb⟩
theorem Defs.open {w:World} {v:Value} {l:List PDef} (h:Defs w v l):∃a cap b off,v = .slice a l.length cap∧l.length≤cap∧cap≤maxLen ∧
  (0 < l.length→a=some ⟨b,off,none⟩)∧Hid (∀i d,l[i]? = some d→∃wv,DefAt w b (off+i * 5) d wv∧Strs w wv d.words):=h
def SchemaV (w:World) (v:Value) (s:PSchema):Prop:=∃dv,v = .agg #[.int .i64 s.dims, .int .i64 s.metric,dv]∧Defs w dv s.defs
theorem SchemaV.below {w w' : World} {v:Value} {s:PSchema} (h:SchemaV w v s) (hb:Below w.heap.size w w'):SchemaV w' v s:=by
 obtain ⟨dv,h1,h2⟩:=h
 exact ⟨dv,h1,h2.below hb⟩
def entryVal (e:PEntry) (vv av:Value):Value:=.agg #[.int .i64 e.id, .int .i64 e.ver, .int .i64 e.owner, .int .i64 e.filed, .int .i64 e.frm, .int .i64 e.to, .int .i64 e.born,vv,av]
def EntryV (w:World) (v:Value) (e:PEntry):Prop:=∃vv av,v=entryVal e vv av∧Ints w vv e.vec∧Attrs w av e.attrs
theorem EntryV.below {w w' : World} {v:Value} {e:PEntry} (h:EntryV w v e) (hb:Below w.heap.size w w'):EntryV w' v e:=by
 obtain ⟨vv,av,h1,h2,h3⟩:=h
 exact ⟨vv,av,h1,h2.below hb,h3.below hb⟩
def RetB (w:World) (b:Bool) (e:Ending) (w' : World):Prop:=e = .returned (.bool b)∧Below w.heap.size w w'
def RetI (w:World) (n:Int) (e:Ending) (w' : World):Prop:=e = .returned (.int .i64 n)∧Below w.heap.size w w'
theorem RetB.mk {w w' : World} {a b:Bool} (h:a=b) (hb:Below w.heap.size w w'):RetB w b (.returned (.bool a)) w':=⟨by rw [h],hb⟩
theorem RetI.mk {w w' : World} {a b:Int} (h:a=b) (hb:Below w.heap.size w w'):RetI w b (.returned (.int .i64 a)) w':=⟨by rw [h],hb⟩
structure Spec where
 p:Value→World→Prop
 st:∀v w w',p v w→Below w.heap.size w w'→p v w'
def Spec.any:Spec:=⟨fun _ _=>True,fun _ _ _ h _=>h⟩
def Spec.rd (cs:List Value):Spec:=⟨fun v w=>Rd w v cs,fun _ _ _ h hb=>h.below hb⟩
def LeB (w w' : World):Prop:=Below w.heap.size w w'
theorem LeB.trans (x y z:World) (h:LeB x y) (k:LeB y z):LeB x z:=Below.trans h (Below.mono k h.size)
def AllFrom (F:Nat→Oper→Prop):Nat→List Oper→Prop
 |_,[]=>True
 |i,o :: os=>F i o∧AllFrom F (i+1) os
theorem AllFrom.get {F:Nat→Oper→Prop} : ∀{l:List Oper} {k:Nat},AllFrom F k l→∀(i:Nat) (o:Oper),l[i]? = some o→F (k+i) o
 | [],_,_,i,o,h=>by simp at h
 |x :: xs,k,⟨h1,h2⟩,0,o,h=>by simp at h;subst h;exact h1
 |x :: xs,k,⟨h1,h2⟩,i+1,o,h=>by
  have:=AllFrom.get h2 i o (by simpa using h)
  rw [show k+(i+1)=k+1+i by omega];exact this
theorem AllFrom.of {F:Nat→Oper→Prop} : ∀(l:List Oper) (k:Nat),(∀(i:Nat) (o:Oper),l[i]? = some o→F (k+i) o)→AllFrom F k l
 | [],_,_=>trivial
 |x :: xs,k,h=>⟨h 0 x (by simp),AllFrom.of xs (k+1) (fun i o hi=>by rw [show k+1+i=k+(i+1) by omega];exact h (i+1) o (by simpa using hi))⟩
end
end Go.Proofs.YtoamkpgaaanafaaGreat
