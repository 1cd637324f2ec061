/- Out of: AttrC, StrA. -/
import Derived.Laws.RangeAny
import Derived.Lib.OthersKept
import Derived.Outline
import Derived.Laws.EntriesVeiled
import Derived.Test.YtoamkpgaaanafaaGreatK1
import Derived.Test.YtoamkpgaaanafaaGreatK2
import Derived.Test.YtoamkpgaaanafaaGreatK4
namespace Go.Proofs.YtoamkpgaaanafaaGreat
set_option linter.unusedSimpArgs false
set_option linter.unusedVariables false
set_option linter.unnecessarySimpa false
section
open Go.RowKit
structure Rule where
 f:Nat
 caps:Array Value
 b:Bool
 e:Int
def ruleC (r:Rule):List Value := [.func (.func r.f) #[] r.caps, .int .i64 r.e]
def Rules (w:World) (v:Value) (rs:List Rule):Prop:=RdS w v 2 (rs.map ruleC)
theorem Rules.open {w:World} {v:Value} {l:List Rule} (h:Rules w v l):∃a cap b off,v = .slice a l.length cap∧l.length≤cap∧cap≤maxLen ∧
  (0 < l.length→a=some ⟨b,off,none⟩)∧Hid (∀i x,l[i]? = some x→w.cell? ⟨b,off+i * 2,none⟩=some (.func (.func x.f) #[] x.caps)∧w.cell? ⟨b,off+i * 2+1,none⟩=some (.int .i64 x.e)):=by
 obtain ⟨a,cap,b,off,h1,h2,h3,h4,h5⟩:=h
 simp only [List.length_map] at h1 h2 h4
 refine ⟨a,cap,b,off,h1,h2,h3,h4,fun i x hx=>?_⟩
 have e:(l.map ruleC)[i]? = some (ruleC x):=by simp [hx]
 exact ⟨h5 i 0 _ _ e rfl,h5 i 1 _ _ e rfl⟩
def CallOk (f:Nat):Prop:=∀(args:Array Value) (w:World),(callFunc f args).run Tryz.prog w = .ok (.enter f args) w
set_option maxRecDepth 100000 in
set_option maxHeartbeats 400000 in
theorem attrFirst (v:Value) (rs:List Rule) (w:World) (hv:Rules w v rs) (hl:rs.length≤1000) (hcf:Hid (∀r∈rs,CallOk r.f))
  (hr:Hid (∀r∈rs,∀w',Below w.heap.size w w'→Calls Tryz.prog r.f r.caps w' (RetB w' r.b))) :
  Calls Tryz.prog 87 #[v] w (RetI w (firstE (rs.map fun r=>(r.b,r.e)))):=by
 obtain ⟨a,cap,b,off,rfl,hcap,hm,ha,hc⟩:=hv.open
 clear hv
 go_enter Tryz.func87,Tryz.ntmps87
 go_wp2
 go_loopw [7] (fun i wr=>∃k:Nat,k≤rs.length∧i = .int .i64 k∧Below w.heap.size w wr∧Hid (firstE (rs.map fun r=>(r.b,r.e))=firstE ((rs.map fun r=>(r.b,r.e)).drop k))) (fun i _=>rs.length - (intOf i).toNat)
 case atStart=>exact ⟨0,by omega,rfl,Below.refl _ _,rfl⟩
 case round=>
  obtain ⟨k,hk,rfl,hb,hh⟩:=hrel
  by_cases hlt:k < rs.length
  ·obtain ⟨y,hy⟩:=ints_get rs k (by omega)
   obtain ⟨c0',c1'⟩:=hc.out k y hy
   have c0:=below_cell hb c0'
   have c1:=below_cell hb c1'
   clear c0' c1'
   obtain rfl:=ha (by omega)
   have hm:=List.mem_of_getElem? hy
   have H:Hid (_=_):=firstE_drop (rs.map fun r=>(r.b,r.e)) k y.b y.e (by simp [hy])
   have hcf1:=hcf.out y hm
   have hr1:Hid (∀w',Below w.heap.size w w'→Calls Tryz.prog y.f y.caps w' (RetB w' y.b)):=hr.out y hm
   have hbl:=World.block_lt_of_cell? _ _ c0
   clear hr hcf
   obtain ⟨yf,yc,yb,ye⟩:=y
   simp only at hcf1 c0 c1 H hr1
   unfold CallOk at hcf1
   clear ha hy hm hc
   cases yb
   ·go_wp2_with fail
    refine (hr1.out _ (hb.trans ((below_alloc _ _).mono hb.size))).mono ?_
    rintro e w1 ⟨rfl,hb1⟩
    go_wp2
    go_roundw
    case rel=>exact ⟨k+1,by omega,by go_num,(hb.trans ((below_alloc _ _).mono hb.size)).trans (hb1.mono (by have:=hb.size;simp;omega)),by rw [Hid,hh.out,H.out];rfl⟩
    case measure=>simp [intOf];omega
   ·go_wp2_with fail
    refine (hr1.out _ (hb.trans ((below_alloc _ _).mono hb.size))).mono ?_
    rintro e w1 ⟨rfl,hb1⟩
    have d1:w1.cell? ⟨wr.heap.size,1,none⟩=some (.int .i64 ye):=below_cell hb1 (by simp)
    go_wp2
    go_ret
    exact RetI.mk (by rw [hh.out,H.out];rfl) ((hb.trans ((below_alloc _ _).mono hb.size)).trans (hb1.mono (by have:=hb.size;simp;omega)))
  ·go_wp2
   go_ret
   exact RetI.mk (by rw [hh.out,firstE_end _ _ (by simp;omega)]) hb
set_option maxRecDepth 100000 in
set_option maxHeartbeats 400000 in
theorem indexAttr (v:Value) (l:List PAttr) (F g:Nat) (p:PAttr→Bool) (w:World) (hv:Attrs w v l) (hl:l.length≤1000000000) (hcf:CallOk F)
  (hr:Hid (∀x∈l,∀w',Below w.heap.size w w'→Calls Tryz.prog F #[attrV x, .pointer (some ⟨g,0,none⟩)] w' (RetB w' (p x)))) :
  Calls Tryz.prog 97 #[v, .func (.func F) #[] #[.pointer (some ⟨g,0,none⟩)]] w (RetI w (idxB (l.map p))):=by
 obtain ⟨a,cap,b,off,rfl,hcap,hm,ha,hc⟩:=hv.open
 unfold CallOk at hcf
 clear hv
 go_enter Tryz.func97,Tryz.ntmps97
 go_wp2
 go_loopw [8] (fun i wr=>∃k:Nat,k≤l.length∧i = .int .i64 k∧Below w.heap.size w wr∧Hid (idxB (l.map p)=idxGo ((l.map p).drop k) k)) (fun i _=>l.length - (intOf i).toNat)
 case atStart=>exact ⟨0,by omega,rfl,Below.refl _ _,rfl⟩
 case round=>
  obtain ⟨k,hk,rfl,hb,hh⟩:=hrel
  by_cases hlt:k < l.length
  ·obtain ⟨y,hy⟩:=ints_get l k (by omega)
   obtain ⟨c0,c1,c2,c3⟩:=(hc.out k y hy).below hb
   obtain rfl:=ha (by omega)
   have hm:=List.mem_of_getElem? hy
   have H:Hid (_=_):=idxGo_drop (l.map p) k (p y) (by simp [hy])
   have hr1:Hid (∀w',Below w.heap.size w w'→Calls Tryz.prog F #[attrV y, .pointer (some ⟨g,0,none⟩)] w' (RetB w' (p y))):=hr.out y hm
   unfold attrV at hr1
   clear hr ha hy hm hc
   cases e:p y
   ·have E:=Lib.hid e
    clear e
    go_wp2_with fail
    refine (hr1.out _ hb).mono ?_
    rintro e w1 ⟨rfl,hb1⟩
    rw [E.out]
    go_wp2
    go_roundw
    case rel=>exact ⟨k+1,by omega,by go_num,hb.trans (hb1.mono hb.size),by rw [Hid,hh.out,H.out,E.out];rfl⟩
    case measure=>simp [intOf];omega
   ·have E:=Lib.hid e
    clear e
    go_wp2_with fail
    refine (hr1.out _ hb).mono ?_
    rintro e w1 ⟨rfl,hb1⟩
    rw [E.out]
    go_wp2
    go_ret
    exact RetI.mk (by rw [hh.out,H.out,E.out];rfl) (hb.trans (hb1.mono hb.size))
  ·go_wp2
   go_ret
   exact RetI.mk (by rw [hh.out,idxGo_end _ _ (by simp;omega)]) hb
set_option maxRecDepth 100000 in
set_option maxHeartbeats 400000 in
theorem indexDef (v:Value) (l:List PDef) (F g:Nat) (p:PDef→Bool) (w:World) (hv:Defs w v l) (hl:l.length≤1000000000) (hcf:CallOk F)
  (hr:Hid (∀x∈l,∀wv,∀w',Below w.heap.size w w'→Calls Tryz.prog F #[defV x wv, .pointer (some ⟨g,0,none⟩)] w' (RetB w' (p x)))) :
  Calls Tryz.prog 175 #[v, .func (.func F) #[] #[.pointer (some ⟨g,0,none⟩)]] w (RetI w (idxB (l.map p))):=by
 obtain ⟨a,cap,b,off,rfl,hcap,hm,ha,hc⟩:=hv.open
 unfold CallOk at hcf
 clear hv
 go_enter Tryz.func175,Tryz.ntmps175
 go_wp2
 go_loopw [8] (fun i wr=>∃k:Nat,k≤l.length∧i = .int .i64 k∧Below w.heap.size w wr∧Hid (idxB (l.map p)=idxGo ((l.map p).drop k) k)) (fun i _=>l.length - (intOf i).toNat)
 case atStart=>exact ⟨0,by omega,rfl,Below.refl _ _,rfl⟩
 case round=>
  obtain ⟨k,hk,rfl,hb,hh⟩:=hrel
  by_cases hlt:k < l.length
  ·obtain ⟨y,hy⟩:=ints_get l k (by omega)
   obtain ⟨wv,hd,hs⟩:=hc.out k y hy
   obtain ⟨c0,c1,c2,c3,c4⟩:=hd.below hb
   clear hd hs
   obtain rfl:=ha (by omega)
   have hm:=List.mem_of_getElem? hy
   have H:Hid (_=_):=idxGo_drop (l.map p) k (p y) (by simp [hy])
   have hr1:Hid (∀w',Below w.heap.size w w'→Calls Tryz.prog F #[defV y wv, .pointer (some ⟨g,0,none⟩)] w' (RetB w' (p y))):=hr.out y hm wv
   unfold defV at hr1
   clear hr ha hy hm hc
   cases e:p y
   ·have E:=Lib.hid e
    clear e
    go_wp2_with fail
    refine (hr1.out _ hb).mono ?_
    rintro e w1 ⟨rfl,hb1⟩
    rw [E.out]
    go_wp2
    go_roundw
    case rel=>exact ⟨k+1,by omega,by go_num,hb.trans (hb1.mono hb.size),by rw [Hid,hh.out,H.out,E.out];rfl⟩
    case measure=>simp [intOf];omega
   ·have E:=Lib.hid e
    clear e
    go_wp2_with fail
    refine (hr1.out _ hb).mono ?_
    rintro e w1 ⟨rfl,hb1⟩
    rw [E.out]
    go_wp2
    go_ret
    exact RetI.mk (by rw [hh.out,H.out,E.out];rfl) (hb.trans (hb1.mono hb.size))
  ·go_wp2
   go_ret
   exact RetI.mk (by rw [hh.out,idxGo_end _ _ (by simp;omega)]) hb
set_option maxRecDepth 100000 in
set_option maxHeartbeats 400000 in
theorem indexStr (v:Value) (l:List ByteArray) (F:Nat) (p:ByteArray→Bool) (w:World) (hv:Strs w v l) (hl:l.length≤1000000000) (hcf:CallOk F)
  (hr:Hid (∀x∈l,∀w',Below w.heap.size w w'→Calls Tryz.prog F #[.string x] w' (RetB w' (p x)))) :
  Calls Tryz.prog 185 #[v, .func (.func F) #[] #[]] w (RetI w (idxB (l.map p))):=by
 obtain ⟨a,cap,b,off,rfl,hcap,hm,ha,hc⟩:=hv.open
 unfold CallOk at hcf
 clear hv
 go_enter Tryz.func185,Tryz.ntmps185
 go_wp2
 go_loopw [8] (fun i wr=>∃k:Nat,k≤l.length∧i = .int .i64 k∧Below w.heap.size w wr∧Hid (idxB (l.map p)=idxGo ((l.map p).drop k) k)) (fun i _=>l.length - (intOf i).toNat)
 case atStart=>exact ⟨0,by omega,rfl,Below.refl _ _,rfl⟩
 case round=>
  obtain ⟨k,hk,rfl,hb,hh⟩:=hrel
  by_cases hlt:k < l.length
  ·obtain ⟨y,hy⟩:=ints_get l k (by omega)
   have c0:=below_cell hb (hc.out k y hy)
   obtain rfl:=ha (by omega)
   have hm:=List.mem_of_getElem? hy
   have H:Hid (_=_):=idxGo_drop (l.map p) k (p y) (by simp [hy])
   have hr1:Hid (∀w',Below w.heap.size w w'→Calls Tryz.prog F #[.string y] w' (RetB w' (p y))):=hr.out y hm
   clear hr ha hy hm hc
   cases e:p y
   ·have E:=Lib.hid e
    clear e
    go_wp2_with fail
    refine (hr1.out _ hb).mono ?_
    rintro e w1 ⟨rfl,hb1⟩
    rw [E.out]
    go_wp2
    go_roundw
    case rel=>exact ⟨k+1,by omega,by go_num,hb.trans (hb1.mono hb.size),by rw [Hid,hh.out,H.out,E.out];rfl⟩
    case measure=>simp [intOf];omega
   ·have E:=Lib.hid e
    clear e
    go_wp2_with fail
    refine (hr1.out _ hb).mono ?_
    rintro e w1 ⟨rfl,hb1⟩
    rw [E.out]
    go_wp2
    go_ret
    exact RetI.mk (by rw [hh.out,H.out,E.out];rfl) (hb.trans (hb1.mono hb.size))
  ·go_wp2
   go_ret
   exact RetI.mk (by rw [hh.out,idxGo_end _ _ (by simp;omega)]) hb
set_option maxRecDepth 100000 in
set_option maxHeartbeats 400000 in
theorem containsStr (v:Value) (l:List ByteArray) (F:Nat) (p:ByteArray→Bool) (w:World) (hv:Strs w v l) (hl:l.length≤1000000000) (hcf:CallOk F)
  (hr:Hid (∀x∈l,∀w',Below w.heap.size w w'→Calls Tryz.prog F #[.string x] w' (RetB w' (p x)))) :
  Calls Tryz.prog 104 #[v, .func (.func F) #[] #[]] w (RetB w (l.any p)):=by
 have H:Hid (decide (0≤idxB (l.map p))=l.any p):=by rw [Hid,idxB_any,List.any_map];rfl
 have HCF:=Lib.hid hcf
 clear hcf
 go_enter Tryz.func104,Tryz.ntmps104
 go_wp2_with (go_at_call 185;refine (indexStr _ l F p _ hv hl HCF.out hr).mono ?_;rintro e w' ⟨rfl,hb⟩)
 go_ret
 exact RetB.mk H.out hb
theorem conv_bytes {w:World} {v:Value} {bs:List Int} (h:Bytes w v bs) :
  (convert 92 9 v).run Tryz.prog w = .ok (.string (strOf bs)) w:=by
 obtain ⟨a,cap,b,off,rfl,hcap,hm,ha,hc⟩:=h
 rw [run_convert_bytes_string w _ _ _ _ _ _ Tryz.underlying92 Tryz.underlying5 Tryz.underlying9]
 simp only [List.length_map] at *
 cases a with
 |none=>
  have:bs = []:=by
   cases bs with
   |nil=>rfl
   |cons x l=>simp at ha
  subst this
  rfl
 |some a=>
  refine run_bytesToString w a _ _ bs ?_
  have:=run_loadCells_list (P:=Tryz.prog) (w:=w) a (bs.map (Value.int .u8)) (fun j v hv=>by
   have hj:=(List.getElem?_eq_some_iff.1 hv).1
   have:=ha (by simp at hj;omega)
   simp only [Option.some.injEq] at this
   subst this
   rw [show (⟨b,off,none⟩:Addr).add j=⟨b,off+j,none⟩ from by simp [Addr.add]]
   exact hc j v hv)
  simpa using this
theorem elemStr:Elem1 Tryz.prog 9 (.string ⟨#[]⟩) 16:=⟨by kernel_rfl,rfl⟩
set_option maxRecDepth 100000 in
theorem refBytes (s:ByteArray) (w:World) (hs:s.size≤1000000000):Calls Tryz.prog 212 #[.string s] w (MadeBytes w (strB s)):=by
 have hl0:=intB_len s.size (by omega) (by omega)
 go_enter Tryz.func212,Tryz.ntmps212
 go_wp2_with (first|(at_builtin;refine wp_appendStr (.tmp 5) (.tmp 6) 92 9 5 elemByte rfl rfl Tryz.underlying92 Tryz.underlying9 w.heap.size _ _ s rfl ho1 rfl (by rw [List.length_map];omega) hb1.size ?_;intro v' w' hown' hb')|(go_at_call 211;refine (refInt _ _ (by omega) (by omega)).mono ?_;rintro e w1 ⟨v1,rfl,ho1,hb1⟩))
 go_ret
 exact ⟨_,rfl,by rw [strB,List.map_append,←strCells_eq];exact hown',hb1.trans hb'⟩
theorem StrsOpen {w:World} {v:Value} {l:List ByteArray} (h:Rd w v (l.map Value.string)):∃a cap b off,v = .slice a l.length cap∧l.length≤cap∧cap≤maxLen ∧
  (0 < l.length→a=some ⟨b,off,none⟩)∧Hid (∀j x,l[j]? = some x→w.cell? ⟨b,off+j,none⟩=some (.string x)):=by
 obtain ⟨a,cap,b,off,h1,h2,h3,h4,h5⟩:=h
 simp only [List.length_map] at h1 h2 h4
 exact ⟨a,cap,b,off,h1,h2,h3,h4,fun j x hx=>h5 j _ (by simp [hx])⟩
set_option maxRecDepth 100000 in
set_option maxHeartbeats 1000000 in
theorem wireListS (v:Value) (zs:List ByteArray) (w:World) (hv:Rd w v (zs.map Value.string)) (hf:SmallStrs zs) (hl:zs.length≤1000000):Calls Tryz.prog 201 #[v, .func (.func 202) #[] #[]] w (MadeBytes w (strsB zs)):=by
 obtain ⟨a,cap,b,off,rfl,hcap,hm,ha,hc⟩:=StrsOpen hv
 have HF:=Hid.mk hf
 have hl0:=intB_len zs.length (by omega) (by omega)
 clear hv
 go_enter Tryz.func201,Tryz.ntmps201
 go_wp2_with (go_at_call 200;refine (wireInt _ _ (by omega) (by omega)).mono ?_;rintro e w1 ⟨v1,rfl,ho1,hb1⟩)
 go_loopw [5,13] (fun o i wr=>∃k:Nat,k≤zs.length∧i = .int .i64 k∧Own w.heap.size 5 wr o ((intB zs.length ++ ((zs.take k).map strB).flatten).map (Value.int .u8))∧Below w.heap.size w wr) (fun _ i _=>zs.length - (intOf i).toNat)
 case atStart=>exact ⟨0,by omega,rfl,by simpa using ho1,hb1⟩
 case round=>
  obtain ⟨k,hk,rfl,hown,hb⟩:=hrel
  have HB:=Hid.mk hb
  clear hb
  have hb2:=HB.out.size
  by_cases hlt:k < zs.length
  ·obtain ⟨y,hy⟩:=ints_get zs k hlt
   have c1:=below_cell HB.out (hc.out k y hy)
   have y1:=HF.out y (List.mem_of_getElem? hy)
   have hl1:=strB_len y y1
   have hl2:=strs_len (zs.take k) (fun z hz=>HF.out z (List.mem_of_mem_take hz))
   have hl3:(zs.take k).length≤zs.length:=by rw [List.length_take];omega
   obtain rfl:=ha (by omega)
   have T:=Hid.mk (strs_take zs k y hy)
   clear ha hy
   go_wp2_with (first|(at_builtin;refine wp_append (.tmp 17) (.tmp 20) 92 5 1 _ elemByte rfl rfl Tryz.underlying92 w.heap.size _ _ _ _ rfl (hown.kept hb3) rfl ho3.rd (by simp only [List.length_map];omega) (oneCells _ _) (by simp only [List.length_map,List.length_append,maxLen];omega) (by simp only [List.length_map,List.length_append];omega) (by have:=hb3.size;omega) ?_;intro v' w' hown' hb')|(go_at_call 202;refine (wireBytes _ _ (by omega)).mono ?_;rintro e w3 ⟨v3,rfl,ho3,hb3⟩))
   go_roundw
   case rel=>exact ⟨k+1,by omega,by go_num,by rw [T.out,←List.append_assoc,List.map_append];exact hown',(HB.out.trans (hb3.mono hb2)).trans hb'⟩
   case measure=>simp [intOf];omega
  ·have e:zs.take k=zs:=List.take_of_length_le (by omega)
   rw [e] at hown
   go_wp2
   go_ret
   exact ⟨_,rfl,hown,HB.out⟩
theorem wireStrings (v:Value) (zs:List ByteArray) (w:World) (hv:Rd w v (zs.map Value.string)) (hf:SmallStrs zs) (hl:zs.length≤1000000):Calls Tryz.prog 118 #[v] w (MadeBytes w (strsB zs)):=by
 go_enter Tryz.func118,Tryz.ntmps118
 go_wp2_with (go_at_call 201;refine (wireListS _ zs _ hv hf hl).mono ?_;rintro e w1 ⟨v1,rfl,ho1,hb1⟩)
 go_ret
 exact ⟨_,rfl,ho1,hb1⟩
set_option maxRecDepth 100000 in
set_option maxHeartbeats 1000000 in
theorem refStrings (v:Value) (zs:List ByteArray) (w:World) (hv:Rd w v (zs.map Value.string)) (hf:SmallStrs zs) (hl:zs.length≤1000000):Calls Tryz.prog 129 #[v] w (MadeBytes w (strsB zs)):=by
 obtain ⟨a,cap,b,off,rfl,hcap,hm,ha,hc⟩:=StrsOpen hv
 have HF:=Hid.mk hf
 have hl0:=intB_len zs.length (by omega) (by omega)
 clear hv
 go_enter Tryz.func129,Tryz.ntmps129
 go_wp2_with (go_at_call 211;refine (refInt _ _ (by omega) (by omega)).mono ?_;rintro e w1 ⟨v1,rfl,ho1,hb1⟩)
 go_loopw [3,4] (fun o i wr=>∃k:Nat,k≤zs.length∧i = .int .i64 k∧Own w.heap.size 5 wr o ((intB zs.length ++ ((zs.take k).map strB).flatten).map (Value.int .u8))∧Below w.heap.size w wr) (fun _ i _=>zs.length - (intOf i).toNat)
 case atStart=>exact ⟨0,by omega,rfl,by simpa using ho1,hb1⟩
 case round=>
  obtain ⟨k,hk,rfl,hown,hb⟩:=hrel
  have HB:=Hid.mk hb
  clear hb
  have hb2:=HB.out.size
  by_cases hlt:k < zs.length
  ·obtain ⟨y,hy⟩:=ints_get zs k hlt
   have c1:=below_cell HB.out (hc.out k y hy)
   have y1:=HF.out y (List.mem_of_getElem? hy)
   have hl1:=strB_len y y1
   have hl2:=strs_len (zs.take k) (fun z hz=>HF.out z (List.mem_of_mem_take hz))
   have hl3:(zs.take k).length≤zs.length:=by rw [List.length_take];omega
   obtain rfl:=ha (by omega)
   have T:=Hid.mk (strs_take zs k y hy)
   clear ha hy
   go_wp2_with (first|(at_builtin;refine wp_append (.tmp 14) (.tmp 19) 92 5 1 _ elemByte rfl rfl Tryz.underlying92 w.heap.size _ _ _ _ rfl (hown.kept hb3) rfl ho3.rd (by simp only [List.length_map];omega) (oneCells _ _) (by simp only [List.length_map,List.length_append,maxLen];omega) (by simp only [List.length_map,List.length_append];omega) (by have:=hb3.size;omega) ?_;intro v' w' hown' hb')|(go_at_call 212;refine (refBytes _ _ (by omega)).mono ?_;rintro e w3 ⟨v3,rfl,ho3,hb3⟩))
   go_roundw
   case rel=>exact ⟨k+1,by omega,by go_num,by rw [T.out,←List.append_assoc,List.map_append];exact hown',(HB.out.trans (hb3.mono hb2)).trans hb'⟩
   case measure=>simp [intOf];omega
  ·have e:zs.take k=zs:=List.take_of_length_le (by omega)
   rw [e] at hown
   go_wp2
   go_ret
   exact ⟨_,rfl,hown,HB.out⟩
end
end Go.Proofs.YtoamkpgaaanafaaGreat
