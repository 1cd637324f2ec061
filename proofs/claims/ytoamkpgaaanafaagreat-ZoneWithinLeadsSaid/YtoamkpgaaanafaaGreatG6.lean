/- Out of: Wire5, AttrM, AttrA, StrA, AttrO. -/
import Derived.Test.YtoamkpgaaanafaaGreatRows
import Derived.WalkKit
import Derived.WalkSpells
import Derived.WalkLawsBesides
import Derived.Deep.QuietTactic
import Derived.BigQuiet
import Derived.RegionTactic
import GoSem.Step
import Derived.Lib.AppendZeros
import Derived.Lib.AppendStr
import Derived.Laws.BytesString
import Derived.Lib.Hide
import Derived.Test.YtoamkpgaaanafaaGreatG1
import Derived.Test.YtoamkpgaaanafaaGreatG3
namespace Go.Proofs.YtoamkpgaaanafaaGreat
set_option linter.unusedSimpArgs false
set_option linter.unusedVariables false
set_option linter.unnecessarySimpa false
section
open Go.RowKit
def MadeIntsN (w:World) (r:List Int×Int×Int) (e:Ending) (w' : World):Prop:=
 ∃v,e = .returned (.tuple #[v, .int .i64 r.2.1, .int .i64 r.2.2])∧Own w.heap.size 3 w' v (r.1.map (Value.int .i64))∧Below w.heap.size w w'
theorem MadeIntsN.mk {w w' : World} {r:List Int×Int×Int} {l:List Int} {x y:Int} {v:Value} (h:r=(l,x,y)) (ho:Own w.heap.size 3 w' v (l.map (Value.int .i64))) (hb:Below w.heap.size w w') :
  MadeIntsN w r (.returned (.tuple #[v, .int .i64 x, .int .i64 y])) w':=by
 subst h;exact ⟨v,rfl,ho,hb⟩
theorem Byte.drop {bs:List Int} (h:Byte bs) (m:Nat):Byte (bs.drop m):=fun k c hk=>h (m+k) c (by rw [←List.getElem?_drop];exact hk)
theorem below_alloc (w:World) (o:Obj):Below w.heap.size w (w.alloc o):=(Below.refl _ _).alloc (Nat.le_refl _) _
theorem below_drewN (w:World) (n:Nat):Below w.heap.size w (w.drewN n):=(Still.one w n).below _
def RdS (w:World) (v:Value) (k:Nat) (rows:List (List Value)):Prop:=
 ∃a cap b off,v = .slice a rows.length cap∧rows.length≤cap∧cap≤maxLen∧(0 < rows.length→a=some ⟨b,off,none⟩) ∧
  ∀i j r u,rows[i]? = some r→r[j]? = some u→w.cell? ⟨b,off+i * k+j,none⟩=some u
theorem RdS.below {w w' : World} {v:Value} {k:Nat} {rows:List (List Value)} (h:RdS w v k rows) (hb:Below w.heap.size w w'):RdS w' v k rows:=by
 obtain ⟨a,cap,b,off,h1,h2,h3,h4,h5⟩:=h
 exact ⟨a,cap,b,off,h1,h2,h3,h4,fun i j r u hr hu=>below_cell hb (h5 i j r u hr hu)⟩
def Strs (w:World) (v:Value) (l:List ByteArray):Prop:=Rd w v (l.map Value.string)
theorem Strs.below {w w' : World} {v:Value} {l:List ByteArray} (h:Strs w v l) (hb:Below w.heap.size w w'):Strs w' v l:=Rd.below h hb
theorem Ints.below {w w' : World} {v:Value} {l:List Int} (h:Ints w v l) (hb:Below w.heap.size w w'):Ints w' v l:=Rd.below h hb
theorem Bytes.below {w w' : World} {v:Value} {l:List Int} (h:Bytes w v l) (hb:Below w.heap.size w w'):Bytes w' v l:=Rd.below h hb
theorem Strs.open {w:World} {v:Value} {l:List ByteArray} (h:Strs w v l):∃a cap b off,v = .slice a l.length cap∧l.length≤cap∧cap≤maxLen ∧
  (0 < l.length→a=some ⟨b,off,none⟩)∧Hid (∀j x,l[j]? = some x→w.cell? ⟨b,off+j,none⟩=some (.string x)):=by
 obtain ⟨a,cap,b,off,h1,h2,h3,h4,h5⟩:=h
 simp only [List.length_map] at h1 h2 h4
 exact ⟨a,cap,b,off,h1,h2,h3,h4,fun j x hx=>h5 j _ (by simp [hx])⟩
def attrC (a:PAttr):List Value := [.string a.name, .int .i64 a.kind, .int .i64 a.n, .string a.s]
def attrV (a:PAttr):Value:=.agg #[.string a.name, .int .i64 a.kind, .int .i64 a.n, .string a.s]
def Attrs (w:World) (v:Value) (l:List PAttr):Prop:=RdS w v 4 (l.map attrC)
theorem Attrs.below {w w' : World} {v:Value} {l:List PAttr} (h:Attrs w v l) (hb:Below w.heap.size w w'):Attrs w' v l:=RdS.below h hb
def AttrAt (w:World) (b off:Nat) (x:PAttr):Prop:=
 w.cell? ⟨b,off,none⟩=some (.string x.name)∧w.cell? ⟨b,off+1,none⟩=some (.int .i64 x.kind)∧w.cell? ⟨b,off+2,none⟩=some (.int .i64 x.n)∧w.cell? ⟨b,off+3,none⟩=some (.string x.s)
theorem AttrAt.below {w w' : World} {b off:Nat} {x:PAttr} (h:AttrAt w b off x) (hb:Below w.heap.size w w'):AttrAt w' b off x:=
 ⟨below_cell hb h.1,below_cell hb h.2.1,below_cell hb h.2.2.1,below_cell hb h.2.2.2⟩
theorem AttrAt.lt {w:World} {b off:Nat} {x:PAttr} (h:AttrAt w b off x):b < w.heap.size:=World.block_lt_of_cell? _ _ h.1
theorem Attrs.open {w:World} {v:Value} {l:List PAttr} (h:Attrs w v l):∃a cap b off,v = .slice a l.length cap∧l.length≤cap∧cap≤maxLen ∧
  (0 < l.length→a=some ⟨b,off,none⟩)∧Hid (∀i x,l[i]? = some x→AttrAt w b (off+i * 4) x):=by
 obtain ⟨a,cap,b,off,h1,h2,h3,h4,h5⟩:=h
 simp only [List.length_map] at h1 h2 h4
 refine ⟨a,cap,b,off,h1,h2,h3,h4,fun i x hx=>?_⟩
 have e:(l.map attrC)[i]? = some (attrC x):=by simp [hx]
 exact ⟨h5 i 0 _ _ e rfl,h5 i 1 _ _ e rfl,h5 i 2 _ _ e rfl,h5 i 3 _ _ e rfl⟩
def DefAt (w:World) (b off:Nat) (d:PDef) (wv:Value):Prop:=
 w.cell? ⟨b,off,none⟩=some (.string d.name)∧w.cell? ⟨b,off+1,none⟩=some (.int .i64 d.kind)∧w.cell? ⟨b,off+2,none⟩=some (.int .i64 d.lo)∧w.cell? ⟨b,off+3,none⟩=some (.int .i64 d.hi)∧w.cell? ⟨b,off+4,none⟩=some wv
theorem DefAt.below {w w' : World} {b off:Nat} {d:PDef} {wv:Value} (h:DefAt w b off d wv) (hb:Below w.heap.size w w'):DefAt w' b off d wv:=
 ⟨below_cell hb h.1,below_cell hb h.2.1,below_cell hb h.2.2.1,below_cell hb h.2.2.2.1,below_cell hb h.2.2.2.2⟩
theorem DefAt.lt {w:World} {b off:Nat} {d:PDef} {wv:Value} (h:DefAt w b off d wv):b < w.heap.size:=World.block_lt_of_cell? _ _ h.1
def defV (d:PDef) (wv:Value):Value:=.agg #[.string d.name, .int .i64 d.kind, .int .i64 d.lo, .int .i64 d.hi,wv]
def Defs (w:World) (v:Value) (l:List PDef):Prop:=
 ∃a cap b off,v = .slice a l.length cap∧l.length≤cap∧cap≤maxLen∧(0 < l.length→a=some ⟨b,off,none⟩) ∧
  ∀i d,l[i]? = some d→∃wv,DefAt w b (off+i * 5) d wv∧Strs w wv d.words
theorem Defs.below {w w' : World} {v:Value} {l:List PDef} (h:Defs w v l) (hb:Below w.heap.size w w'):Defs w' v l:=by
 obtain ⟨a,cap,b,off,h1,h2,h3,h4,h5⟩:=h
 refine ⟨a,cap,b,off,h1,h2,h3,h4,fun i d hd=>?_⟩
 obtain ⟨wv,h6,h7⟩:=h5 i d hd
 exact ⟨wv,h6.below hb,h7.below hb⟩
theorem Defs.open {w:World} {v:Value} {l:List PDef} (h:Defs w v l):∃a cap b off,v = .slice a l.length cap∧l.length≤cap∧cap≤maxLen ∧
  (0 < l.length→a=some ⟨b,off,none⟩)∧Hid (∀i d,l[i]? = some d→∃wv,DefAt w b (off+i * 5) d wv∧Strs w wv d.words):=h
def SchemaV (w:World) (v:Value) (s:PSchema):Prop:=∃dv,v = .agg #[.int .i64 s.dims, .int .i64 s.metric,dv]∧Defs w dv s.defs
theorem SchemaV.below {w w' : World} {v:Value} {s:PSchema} (h:SchemaV w v s) (hb:Below w.heap.size w w'):SchemaV w' v s:=by
 obtain ⟨dv,h1,h2⟩:=h
 exact ⟨dv,h1,h2.below hb⟩
def entryVal (e:PEntry) (vv av:Value):Value:=.agg #[.int .i64 e.id, .int .i64 e.ver, .int .i64 e.owner, .int .i64 e.filed, .int .i64 e.frm, .int .i64 e.to, .int .i64 e.born,vv,av]
def EntryV (w:World) (v:Value) (e:PEntry):Prop:=∃vv av,v=entryVal e vv av∧Ints w vv e.vec∧Attrs w av e.attrs
theorem EntryV.below {w w' : World} {v:Value} {e:PEntry} (h:EntryV w v e) (hb:Below w.heap.size w w'):EntryV w' v e:=by
 obtain ⟨vv,av,h1,h2,h3⟩:=h
 exact ⟨vv,av,h1,h2.below hb,h3.below hb⟩
def RetB (w:World) (b:Bool) (e:Ending) (w' : World):Prop:=e = .returned (.bool b)∧Below w.heap.size w w'
def RetI (w:World) (n:Int) (e:Ending) (w' : World):Prop:=e = .returned (.int .i64 n)∧Below w.heap.size w w'
theorem RetB.mk {w w' : World} {a b:Bool} (h:a=b) (hb:Below w.heap.size w w'):RetB w b (.returned (.bool a)) w':=⟨by rw [h],hb⟩
theorem RetI.mk {w w' : World} {a b:Int} (h:a=b) (hb:Below w.heap.size w w'):RetI w b (.returned (.int .i64 a)) w':=⟨by rw [h],hb⟩
theorem any_drop (l:List ByteArray) (p:ByteArray→Bool) (k:Nat) (x:ByteArray) (h:l[k]? = some x):(l.drop k).any p=(p x || (l.drop (k+1)).any p):=by
 obtain ⟨hk,rfl⟩:=List.getElem?_eq_some_iff.1 h
 rw [List.drop_eq_getElem_cons (by omega),List.any_cons]
theorem any_end (l:List ByteArray) (p:ByteArray→Bool) (k:Nat) (h:l.length≤k):(l.drop k).any p=false:=by
 rw [List.drop_eq_nil_of_le h];rfl
set_option maxRecDepth 100000 in
set_option maxHeartbeats 400000 in
theorem refHasS (v:Value) (l:List ByteArray) (s:ByteArray) (w:World) (hv:Strs w v l) (hl:l.length≤1000000000) :
  Calls Tryz.prog 86 #[v, .string s] w fun e w' => e = .returned (.bool (hasB l s))∧w=w':=by
 obtain ⟨a,cap,b,off,rfl,hcap,hm,ha,hc⟩:=hv.open
 go_enter Tryz.func86,Tryz.ntmps86
 go_wp2
 go_loop [5] (fun i=>∃k:Nat,k≤l.length∧i = .int .i64 k∧Hid (hasB l s=hasB (l.drop k) s)) (fun i=>l.length - (intOf i).toNat)
 case atStart=>exact ⟨0,by omega,rfl,rfl⟩
 case round=>
  obtain ⟨k,hk,rfl,hh⟩:=hrel
  by_cases hlt:k < l.length
  ·obtain ⟨y,hy⟩:=ints_get l k (by omega)
   have c0:=hc.out k y hy
   obtain rfl:=ha (by omega)
   have H:Hid (_=_):=any_drop l (fun x=>eqB x s) k y hy
   clear ha hy
   by_cases e:eqB y s=true
   ·have e' : (y.toList == s.toList)=true:=e
    go_wp2
    go_ret
    exact ⟨ret_bool (by rw [hh.out,hasB,H.out,e];rfl),rfl⟩
   ·have e2:eqB y s=false:=by simpa using e
    have e' : (y.toList == s.toList)=false:=e2
    go_wp2
    go_round
    case rel=>exact ⟨k+1,by omega,by go_num,by rw [Hid,hh.out,hasB,H.out,e2];rfl⟩
    case measure=>simp [intOf];omega
  ·go_wp2
   go_ret
   exact ⟨ret_bool (by rw [hh.out,hasB,any_end _ _ _ (by omega)]),rfl⟩
set_option maxRecDepth 100000 in
set_option maxHeartbeats 400000 in
theorem slicesIndexS (v:Value) (l:List ByteArray) (s:ByteArray) (w:World) (hv:Strs w v l) (hl:l.length≤1000000000) :
  Calls Tryz.prog 149 #[v, .string s] w fun e w' => e = .returned (.int .i64 (idxB (l.map fun x=>eqB x s)))∧w=w':=by
 obtain ⟨a,cap,b,off,rfl,hcap,hm,ha,hc⟩:=hv.open
 go_enter Tryz.func149,Tryz.ntmps149
 go_wp2
 go_loop [8] (fun i=>∃k:Nat,k≤l.length∧i = .int .i64 k∧Hid (idxB (l.map fun x=>eqB x s)=idxGo ((l.map fun x=>eqB x s).drop k) k)) (fun i=>l.length - (intOf i).toNat)
 case atStart=>exact ⟨0,by omega,rfl,rfl⟩
 case round=>
  obtain ⟨k,hk,rfl,hh⟩:=hrel
  by_cases hlt:k < l.length
  ·obtain ⟨y,hy⟩:=ints_get l k (by omega)
   have c0:=hc.out k y hy
   obtain rfl:=ha (by omega)
   have H:Hid (_=_):=idxGo_drop (l.map fun x=>eqB x s) k (eqB y s) (by simp [hy])
   clear ha hy
   by_cases e:eqB y s=true
   ·have e' : (s.toList == y.toList)=true:=by rw [eqB_comm] at e;exact e
    go_wp2
    go_ret
    exact ⟨ret_int (by rw [hh.out,H.out,e];rfl),rfl⟩
   ·have e2:eqB y s=false:=by simpa using e
    have e' : (s.toList == y.toList)=false:=by rw [eqB_comm] at e2;exact e2
    go_wp2
    go_round
    case rel=>exact ⟨k+1,by omega,by go_num,by rw [Hid,hh.out,H.out,e2];rfl⟩
    case measure=>simp [intOf];omega
  ·go_wp2
   go_ret
   exact ⟨ret_int (by rw [hh.out,idxGo_end _ _ (by simp;omega)]),rfl⟩
set_option maxRecDepth 100000 in
set_option maxHeartbeats 400000 in
theorem slicesContainsS (v:Value) (l:List ByteArray) (s:ByteArray) (w:World) (hv:Strs w v l) (hl:l.length≤1000000000) :
  Calls Tryz.prog 73 #[v, .string s] w fun e w' => e = .returned (.bool (hasB l s))∧w=w':=by
 have H:Hid (decide (0≤idxB (l.map fun x=>eqB x s))=hasB l s):=by rw [Hid,idxB_any,List.any_map];rfl
 go_enter Tryz.func73,Tryz.ntmps73
 go_wp2_with (go_at_call 149;refine (slicesIndexS _ l s _ hv hl).mono ?_;rintro e w' ⟨rfl,rfl⟩)
 go_ret
 exact ⟨ret_bool H.out,rfl⟩
set_option maxRecDepth 100000 in
set_option maxHeartbeats 400000 in
theorem attrRising (v:Value) (l:List ByteArray) (w:World) (hv:Strs w v l) (hl:l.length≤1000000000) :
  Calls Tryz.prog 224 #[v] w fun e w' => e = .returned (.bool (riseB l))∧Still w w':=by
 obtain ⟨a,cap,b,off,rfl,hcap,hm,ha,hc⟩:=hv.open
 by_cases h0:l.length=0
 ·have hb:Hid (riseB l=true):=by rw [List.length_eq_zero_iff.1 h0];rfl
  have hlt:l.length < 1:=by omega
  clear h0
  go_enter Tryz.func224,Tryz.ntmps224
  go_wp2
  go_loop [3] (fun i=>i = .int .i64 1) (fun i=>0)
  case atStart=>rfl
  case round=>
   obtain rfl:=hrel
   go_wp2
   go_ret
   exact ⟨ret_bool hb.out.symm,Still.refl _⟩
 ·obtain rfl:=ha (by omega)
  have hpos:1≤l.length:=by omega
  clear h0 ha
  obtain ⟨x0,hx0⟩:=ints_get l 0 (by omega)
  have S0:Hid (riseB l=riseGo x0 (l.drop 1)):=riseB_start l x0 hx0
  have X0:Hid (l[0]? = some x0):=hx0
  clear hx0
  go_enter Tryz.func224,Tryz.ntmps224
  go_wp2
  go_loopw [3] (fun i wr=>∃k n:Nat,∃p,k+1≤l.length∧i = .int .i64 ((k+1:Nat):Int)∧wr=w.drewN n∧Hid (l[k]? = some p)∧Hid (riseB l=riseGo p (l.drop (k+1)))) (fun i _=>l.length - (intOf i).toNat)
  case atStart=>exact ⟨0,0,x0,by omega,rfl,rfl,X0,S0⟩
  case round=>
   obtain ⟨k,n,p,hk,rfl,rfl,hp,hh⟩:=hrel
   by_cases hlt:k+1 < l.length
   ·obtain ⟨y,hy⟩:=ints_get l (k+1) (by omega)
    have c0:=hc.out (k+1) y hy
    have c1:=hc.out k p hp.out
    have H:Hid (_=_):=riseGo_drop l k p y hy
    have Y:Hid (l[k+1]? = some y):=hy
    clear hy
    by_cases e:leqB y p=true
    ·have e' : (Op.bytesLess y.toList p.toList || y.toList == p.toList)=true:=e
     go_wp2
     go_quiet (fail)
     go_wp2
     go_ret
     exact ⟨ret_bool (by rw [hh.out,H.out,e];rfl),by first|exact Still.two _ _ _|exact Still.one _ _⟩
    ·have e2:leqB y p=false:=by simpa using e
     have e' : (Op.bytesLess y.toList p.toList || y.toList == p.toList)=false:=e2
     go_wp2
     go_quiet (fail)
     go_wp2
     go_roundw
     case rel=>exact ⟨k+1,_,y,by omega,by go_num,rfl,Y,by rw [Hid,hh.out,H.out,e2];rfl⟩
     case measure=>simp [intOf];omega
   ·go_wp2
    go_ret
    exact ⟨ret_bool (by rw [hh.out,riseGo_end _ _ _ (by omega)]),Still.one _ _⟩
set_option maxRecDepth 100000 in
theorem refBytes (s:ByteArray) (w:World) (hs:s.size≤1000000000):Calls Tryz.prog 212 #[.string s] w (MadeBytes w (strB s)):=by
 have hl0:=intB_len s.size (by omega) (by omega)
 go_enter Tryz.func212,Tryz.ntmps212
 go_wp2_with (first|(at_builtin;refine wp_appendStr (.tmp 5) (.tmp 6) 92 9 5 elemByte rfl rfl Tryz.underlying92 Tryz.underlying9 w.heap.size _ _ s rfl ho1 rfl (by rw [List.length_map];omega) hb1.size ?_;intro v' w' hown' hb')|(go_at_call 211;refine (refInt _ _ (by omega) (by omega)).mono ?_;rintro e w1 ⟨v1,rfl,ho1,hb1⟩))
 go_ret
 exact ⟨_,rfl,by rw [strB,List.map_append,←strCells_eq];exact hown',hb1.trans hb'⟩
theorem StrsOpen {w:World} {v:Value} {l:List ByteArray} (h:Rd w v (l.map Value.string)):∃a cap b off,v = .slice a l.length cap∧l.length≤cap∧cap≤maxLen ∧
  (0 < l.length→a=some ⟨b,off,none⟩)∧Hid (∀j x,l[j]? = some x→w.cell? ⟨b,off+j,none⟩=some (.string x)):=by
 obtain ⟨a,cap,b,off,h1,h2,h3,h4,h5⟩:=h
 simp only [List.length_map] at h1 h2 h4
 exact ⟨a,cap,b,off,h1,h2,h3,h4,fun j x hx=>h5 j _ (by simp [hx])⟩
set_option maxRecDepth 100000 in
set_option maxHeartbeats 1000000 in
theorem refStrings (v:Value) (zs:List ByteArray) (w:World) (hv:Rd w v (zs.map Value.string)) (hf:SmallStrs zs) (hl:zs.length≤1000000):Calls Tryz.prog 129 #[v] w (MadeBytes w (strsB zs)):=by
 obtain ⟨a,cap,b,off,rfl,hcap,hm,ha,hc⟩:=StrsOpen hv
 have HF:=Hid.mk hf
 have hl0:=intB_len zs.length (by omega) (by omega)
 clear hv
 go_enter Tryz.func129,Tryz.ntmps129
 go_wp2_with (go_at_call 211;refine (refInt _ _ (by omega) (by omega)).mono ?_;rintro e w1 ⟨v1,rfl,ho1,hb1⟩)
 go_loopw [3,4] (fun o i wr=>∃k:Nat,k≤zs.length∧i = .int .i64 k∧Own w.heap.size 5 wr o ((intB zs.length ++ ((zs.take k).map strB).flatten).map (Value.int .u8))∧Below w.heap.size w wr) (fun _ i _=>zs.length - (intOf i).toNat)
 case atStart=>exact ⟨0,by omega,rfl,by simpa using ho1,hb1⟩
 case round=>
  obtain ⟨k,hk,rfl,hown,hb⟩:=hrel
  have HB:=Hid.mk hb
  clear hb
  have hb2:=HB.out.size
  by_cases hlt:k < zs.length
  ·obtain ⟨y,hy⟩:=ints_get zs k hlt
   have c1:=below_cell HB.out (hc.out k y hy)
   have y1:=HF.out y (List.mem_of_getElem? hy)
   have hl1:=strB_len y y1
   have hl2:=strs_len (zs.take k) (fun z hz=>HF.out z (List.mem_of_mem_take hz))
   have hl3:(zs.take k).length≤zs.length:=by rw [List.length_take];omega
   obtain rfl:=ha (by omega)
   have T:=Hid.mk (strs_take zs k y hy)
   clear ha hy
   go_wp2_with (first|(at_builtin;refine wp_append (.tmp 14) (.tmp 19) 92 5 1 _ elemByte rfl rfl Tryz.underlying92 w.heap.size _ _ _ _ rfl (hown.kept hb3) rfl ho3.rd (by simp only [List.length_map];omega) (oneCells _ _) (by simp only [List.length_map,List.length_append,maxLen];omega) (by simp only [List.length_map,List.length_append];omega) (by have:=hb3.size;omega) ?_;intro v' w' hown' hb')|(go_at_call 212;refine (refBytes _ _ (by omega)).mono ?_;rintro e w3 ⟨v3,rfl,ho3,hb3⟩))
   go_roundw
   case rel=>exact ⟨k+1,by omega,by go_num,by rw [T.out,←List.append_assoc,List.map_append];exact hown',(HB.out.trans (hb3.mono hb2)).trans hb'⟩
   case measure=>simp [intOf];omega
  ·have e:zs.take k=zs:=List.take_of_length_le (by omega)
   rw [e] at hown
   go_wp2
   go_ret
   exact ⟨_,rfl,hown,HB.out⟩
def inV (x:Int):Bool:=decide (-1000≤x) && decide (x≤1000)
theorem validV_eq (v:List Int):validV v=(v.all inV && (decide (1≤v.length) && decide (v.length≤32))):=rfl
theorem all_drop {α:Type} (l:List α) (p:α→Bool) (k:Nat) (x:α) (h:l[k]? = some x):(l.drop k).all p=(p x && (l.drop (k+1)).all p):=by
 obtain ⟨hk,rfl⟩:=List.getElem?_eq_some_iff.1 h
 rw [List.drop_eq_getElem_cons (by omega),List.all_cons]
theorem all_end {α:Type} (l:List α) (p:α→Bool) (k:Nat) (h:l.length≤k):(l.drop k).all p=true:=by
 rw [List.drop_eq_nil_of_le h];rfl
theorem valid1 (b:Bool) (x:Int) (w:World):Calls Tryz.prog 100 #[.bool b, .int .i64 x] w (fun e w' => e = .returned (.bool (b && inV x))∧w=w'):=by
 unfold inV
 cases b
 ·go_enter Tryz.func100,Tryz.ntmps100
  go_wp2
  go_ret
  exact ⟨rfl,rfl⟩
 ·cases e:decide (-1000≤x)
  all_goals
   go_enter Tryz.func100,Tryz.ntmps100
   go_wp2
   go_ret
   exact ⟨ret_bool (by simp),rfl⟩
set_option maxRecDepth 100000 in
set_option maxHeartbeats 400000 in
theorem foldValid (v:Value) (l:List Int) (w:World) (hv:Ints w v l) (hl:l.length≤1000000000) :
  Calls Tryz.prog 99 #[v, .bool true, .func (.func 100) #[] #[]] w (fun e w' => e = .returned (.bool (l.all inV))∧w=w'):=by
 obtain ⟨a,cap,b,off,rfl,hcap,hm,ha,hc⟩:=hv.open
 clear hv
 go_enter Tryz.func99,Tryz.ntmps99
 go_wp2
 go_loop [1,11] (fun t i=>∃(k:Nat) (b:Bool),k≤l.length∧t = .bool b∧i = .int .i64 k∧Hid (l.all inV=(b && (l.drop k).all inV))) (fun _ i=>l.length - (intOf i).toNat)
 case atStart=>exact ⟨0,true,by omega,rfl,rfl,by simp [Hid]⟩
 case round=>
  obtain ⟨k,b,hk,rfl,rfl,hh⟩:=hrel
  by_cases hlt:k < l.length
  ·obtain ⟨y,hy⟩:=ints_get l k (by omega)
   have c0:=hc.out k y hy
   have H:=Lib.hid (all_drop l inV k y hy)
   obtain rfl:=ha (by omega)
   clear hy ha hc
   go_wp2_with fail
   refine (valid1 b y _).mono ?_
   rintro e w' ⟨rfl,rfl⟩
   go_wp2
   go_round
   case rel=>exact ⟨k+1,_,by omega,rfl,by go_num,by rw [Hid,hh.out,H.out,Bool.and_assoc]⟩
   case measure=>simp [intOf];omega
  ·clear hc ha
   go_wp2
   go_ret
   exact ⟨ret_bool (by rw [hh.out,all_end _ _ _ (by omega)];simp),rfl⟩
set_option maxRecDepth 100000 in
set_option maxHeartbeats 400000 in
theorem vectorValid (v:Value) (l:List Int) (w:World) (hv:Ints w v l) (hl:l.length≤1000000000) :
  Calls Tryz.prog 38 #[v] w (fun e w' => e = .returned (.bool (validV l))∧w=w'):=by
 have HV:=Lib.hid hv
 obtain ⟨a,cap,b,off,rfl,hcap,hm,ha,hc⟩:=hv.open
 unfold maxLen at hm
 clear hv ha hc
 rw [validV_eq]
 cases e:l.all inV
 ·have E:=Lib.hid e
  clear e
  go_enter Tryz.func38,Tryz.ntmps38
  go_wp2_with fail
  refine (foldValid _ l _ HV.out (by omega)).mono ?_
  rintro e w' ⟨rfl,rfl⟩
  rw [E.out]
  go_wp2
  go_ret
  exact ⟨ret_bool (by simp),rfl⟩
 ·have E:=Lib.hid e
  clear e
  have e1:decide ((1:Int)≤(l.length:Int))=decide (1≤l.length):=by rw [Bool.eq_iff_iff];simp only [decide_eq_true_eq];omega
  have e2:decide ((l.length:Int)≤32)=decide (l.length≤32):=by rw [Bool.eq_iff_iff];simp only [decide_eq_true_eq];omega
  cases f1:decide (1≤l.length)<;>cases f2:decide (l.length≤32)
  all_goals
   rw [f1] at e1
   rw [f2] at e2
   clear f1 f2
   go_enter Tryz.func38,Tryz.ntmps38
   go_wp2_with fail
   refine (foldValid _ l _ HV.out (by omega)).mono ?_
   rintro e w' ⟨rfl,rfl⟩
   rw [E.out]
   go_wp2
   go_ret
   exact ⟨ret_bool (by simp),rfl⟩
end
end Go.Proofs.YtoamkpgaaanafaaGreat
