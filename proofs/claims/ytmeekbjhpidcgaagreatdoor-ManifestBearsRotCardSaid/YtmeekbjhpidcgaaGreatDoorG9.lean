/- Out of: Wire4, Hu, PwS, Ra, Rb, Rj, Rc, Rh, Rd, Re, Rf, Rg, Ri. -/
import Derived.Laws.BytesString
import Derived.Test.YtmeekbjhpidcgaaGreatDoorG2
import Derived.Test.YtmeekbjhpidcgaaGreatDoorG4
import Derived.Test.YtmeekbjhpidcgaaGreatDoorG5
namespace Go.Proofs.YtmeekbjhpidcgaaGreatDoor
set_option linter.unusedSimpArgs false
set_option linter.unusedVariables false
set_option linter.unnecessarySimpa false
section
open Go.RowKit
theorem Byte.all {bs:List Int} (h:Byte bs):∀c∈bs,0≤c∧c < 256:=by
 intro c hc
 obtain ⟨k,hk⟩:=List.getElem?_of_mem hc
 exact h k c hk
theorem Byte.of {bs:List Int} (h:∀c∈bs,0≤c∧c < 256):Byte bs:=fun _ c hk=>h c (List.mem_of_getElem? hk)
set_option maxRecDepth 100000 in
set_option maxHeartbeats 1000000 in
theorem wireLength (v:Value) (bs:List Int) (least:Int) (w:World) (hv:Bytes w v bs) (hby:Byte bs) (hl:1≤least) (hl2:least≤1000):Calls Tryz.prog 91 #[v, .int .i64 least] w (Ret3 w (lenL bs least)):=by
 obtain ⟨a,cap,b,off,hvv,hcap,hm,-⟩:=hv.open
 unfold maxLen at hm
 have ok:=Hid.mk (getI_ok bs hby.all)
 obtain ⟨n,u,er,hr⟩:∃n u er,getI bs=(n,u,er):=⟨_,_,_,rfl⟩
 have L:Hid (lenL bs least=if er≠0 then (0,0,er) else if n < 0 then (0,0,11) else if (bs.length - u) / least < n then (0,0,10) else (n,u,0)):=by
  rw [Hid,lenL,hr]
 have HR:=Hid.mk hr
 rw [hr] at ok
 clear hr
 subst hvv
 by_cases g:er=0
 ·obtain rfl:=g
  obtain ⟨o1,o2,o3,o4⟩:=ok.out rfl
  simp only at o1 o2 o3 o4
  by_cases g1:n < 0
  ·have L2:Hid (lenL bs least=(0,0,11)):=by rw [Hid,L.out,if_neg (by simp),if_pos g1]
   go_enter Tryz.func91,Tryz.ntmps91
   go_wp2_with (go_at_call 71;refine (wireGetInt _ bs _ hv hby).mono ?_;rintro e w' ⟨rfl,k,rfl⟩;rw [HR.out])
   go_ret3
   exact Ret3.mk L2.out (Still.one _ _)
  ·by_cases g2:(bs.length - u) / least < n
   ·have L2:Hid (lenL bs least=(0,0,10)):=by rw [Hid,L.out,if_neg (by simp),if_neg g1,if_pos g2]
    go_enter Tryz.func91,Tryz.ntmps91
    go_wp2_with (go_at_call 71;refine (wireGetInt _ bs _ hv hby).mono ?_;rintro e w' ⟨rfl,k,rfl⟩;rw [HR.out])
    go_ret3
    exact Ret3.mk L2.out (Still.one _ _)
   ·have L2:Hid (lenL bs least=(n,u,0)):=by rw [Hid,L.out,if_neg (by simp),if_neg g1,if_neg g2]
    go_enter Tryz.func91,Tryz.ntmps91
    go_wp2_with (go_at_call 71;refine (wireGetInt _ bs _ hv hby).mono ?_;rintro e w' ⟨rfl,k,rfl⟩;rw [HR.out])
    go_ret3
    exact Ret3.mk L2.out (Still.one _ _)
 ·have g' : (er == 0)=false:=by simpa using g
  have L2:Hid (lenL bs least=(0,0,er)):=by rw [Hid,L.out,if_pos g]
  go_enter Tryz.func91,Tryz.ntmps91
  go_wp2_with (go_at_call 71;refine (wireGetInt _ bs _ hv hby).mono ?_;rintro e w' ⟨rfl,k,rfl⟩;rw [HR.out])
  go_ret3
  exact Ret3.mk L2.out (Still.one _ _)
def Fit (l:List Int):Prop:=∀z∈l,-9223372036854775808≤z∧z≤9223372036854775807
theorem oneCells (k:IntKind) (l:List Int):∀c∈l.map (Value.int k),c.oneCell' = true:=by
 intro c hc
 obtain ⟨_,_,rfl⟩:=List.mem_map.1 hc
 rfl
set_option maxRecDepth 100000 in
set_option maxHeartbeats 1000000 in
theorem wireList (v:Value) (zs:List Int) (w:World) (hv:Ints w v zs) (hf:Fit zs) (hl:zs.length≤1000000000):Calls Tryz.prog 66 #[v, .func (.func 67) #[] #[]] w (MadeBytes w (intsB zs)):=by
 obtain ⟨a,cap,b,off,rfl,hcap,hm,ha,hc⟩:=hv.open
 have HF:=Hid.mk hf
 have hl0:=intB_len zs.length (by omega) (by omega)
 go_enter Tryz.func66,Tryz.ntmps66
 go_wp2_with (go_at_call 67;refine (wireInt _ _ (by omega) (by omega)).mono ?_;rintro e w1 ⟨v1,rfl,ho1,hb1⟩)
 go_loopw [5,13] (fun o i wr=>∃k:Nat,k≤zs.length∧i = .int .i64 k∧Own w.heap.size 5 wr o ((intB zs.length ++ ((zs.take k).map intB).flatten).map (Value.int .u8))∧Below w.heap.size w wr) (fun _ i _=>zs.length - (intOf i).toNat)
 case atStart=>exact ⟨0,by omega,rfl,by simpa using ho1,hb1⟩
 case round=>
  obtain ⟨k,hk,rfl,hown,hb⟩:=hrel
  have HB:=Hid.mk hb
  clear hb
  have hb2:=HB.out.size
  by_cases hlt:k < zs.length
  ·obtain ⟨y,hy⟩:=ints_get zs k hlt
   have c1:=below_cell HB.out (hc.out k y hy)
   obtain ⟨y1,y2⟩:=HF.out y (List.mem_of_getElem? hy)
   have hl1:=intB_len y y1 y2
   have hl2:=flat_len (zs.take k) (fun z hz=>HF.out z (List.mem_of_mem_take hz))
   have hl3:(zs.take k).length≤zs.length:=by rw [List.length_take];omega
   obtain rfl:=ha (by omega)
   have T:=Hid.mk (flat_take zs k y hy)
   clear ha hy
   go_wp2_with (first|(at_builtin;refine wp_append (.tmp 17) (.tmp 20) 26 5 1 _ elemByte rfl rfl Tryz.underlying26 w.heap.size _ _ _ _ rfl (hown.kept hb3) rfl ho3.rd (by simp only [List.length_map];omega) (oneCells _ _) (by simp only [List.length_map,List.length_append,maxLen];omega) (by simp only [List.length_map,List.length_append];omega) (by have:=hb3.size;omega) ?_;intro v' w' hown' hb')|(go_at_call 67;refine (wireInt _ _ y1 y2).mono ?_;rintro e w3 ⟨v3,rfl,ho3,hb3⟩))
   go_roundw
   case rel=>exact ⟨k+1,by omega,by go_num,by rw [T.out,←List.append_assoc,List.map_append];exact hown',(HB.out.trans (hb3.mono hb2)).trans hb'⟩
   case measure=>simp [intOf];omega
  ·have e:zs.take k=zs:=List.take_of_length_le (by omega)
   rw [e] at hown
   go_wp2
   go_ret
   exact ⟨_,rfl,hown,HB.out⟩
theorem wireInts (v:Value) (zs:List Int) (w:World) (hv:Ints w v zs) (hf:Fit zs) (hl:zs.length≤1000000000):Calls Tryz.prog 34 #[v] w (MadeBytes w (intsB zs)):=by
 go_enter Tryz.func34,Tryz.ntmps34
 go_wp2_with (go_at_call 66;refine (wireList _ zs _ hv hf hl).mono ?_;rintro e w1 ⟨v1,rfl,ho1,hb1⟩)
 go_ret
 exact ⟨_,rfl,ho1,hb1⟩
theorem strCells_eq (s:ByteArray):Lib.strCells s=(bytesL s).map (Value.int .u8):=by
 simp [Lib.strCells,bytesL]
set_option maxRecDepth 100000 in
theorem wireBytes (s:ByteArray) (w:World) (hs:s.size≤1000000000):Calls Tryz.prog 69 #[.string s] w (MadeBytes w (strB s)):=by
 have hl0:=intB_len s.size (by omega) (by omega)
 go_enter Tryz.func69,Tryz.ntmps69
 go_wp2_with (first|(at_builtin;refine wp_appendStr (.tmp 5) (.tmp 6) 26 9 5 elemByte rfl rfl Tryz.underlying26 Tryz.underlying9 w.heap.size _ _ s rfl ho1 rfl (by rw [List.length_map];omega) hb1.size ?_;intro v' w' hown' hb')|(go_at_call 67;refine (wireInt _ _ (by omega) (by omega)).mono ?_;rintro e w1 ⟨v1,rfl,ho1,hb1⟩))
 go_ret
 exact ⟨_,rfl,by rw [strB,List.map_append,←strCells_eq];exact hown',hb1.trans hb'⟩
set_option maxRecDepth 100000 in
set_option maxHeartbeats 1000000 in
theorem slicesCloneI (v:Value) (zs:List Int) (w:World) (hv:Ints w v zs) (hl:zs.length≤1000000000):Calls Tryz.prog 83 #[v] w (MadeInts 3 w zs):=by
 have HV:=Lib.hid hv
 obtain ⟨a,cap,b,off,rfl,hcap,hm,ha,hc⟩:=hv.open
 clear hv hc
 cases a with
 |none=>
  have hz:zs = []:=List.eq_nil_of_length_eq_zero (by
   rcases Nat.eq_zero_or_pos zs.length with h|h
   ·exact h
   ·have:=ha h;cases this)
  subst hz
  clear ha
  have he:=fun (w:World)=>Lib.run_eql_slice_nil (P:=Tryz.prog) w 22 3 none 0 cap 0 0 (by kernel_rfl)
  go_enter Tryz.func83,Tryz.ntmps83
  simp only [Option.isNone_none] at he
  go_wp2
  go_ret
  exact ⟨_,rfl,Own.nil _ _ _,Below.refl _ _⟩
 |some ad=>
  clear ha
  have he:=fun (w:World)=>Lib.run_eql_slice_nil (P:=Tryz.prog) w 22 3 (some ad) zs.length cap 0 0 (by kernel_rfl)
  go_enter Tryz.func83,Tryz.ntmps83
  simp only [Option.isNone_some] at he
  have h0:=Lib.hid (show Own w.heap.size 3 (w.alloc (.cells #[] 3)) (.slice (some ⟨w.heap.size,0,none⟩) 0 0) [] from Own.lit w [] 3 w.heap.size (Nat.le_refl _) (by simp [maxLen]))
  have h1:=Lib.hid (show Rd (w.alloc (.cells #[] 3)) (.slice (some ad) zs.length cap) (zs.map (Value.int .i64)) from HV.out.below ((Below.refl _ _).alloc (Nat.le_refl _) _))
  go_wp2_with (at_builtin;refine wp_appendR _ _ 22 3 8 _ elemInt rfl rfl (by kernel_rfl) w.heap.size _ _ [] (zs.map (Value.int .i64)) rfl h0.out rfl h1.out (by intro c hc;obtain ⟨z,-,rfl⟩:=List.mem_map.1 hc;rfl) (by simp [maxLen];omega) (by simp;omega) (by simp) ?_;intro v' w' ho hb)
  go_ret
  exact ⟨_,rfl,by simpa using ho,((Below.refl _ _).alloc (Nat.le_refl _) _).trans hb⟩
end
section
structure PRef where
 kind:Int
 id:Int
 dig:List Int
deriving Inhabited,DecidableEq
structure PMan where
 ver:Int
 notes:List Int
 refs:List PRef
deriving Inhabited
def zeroM:PMan:=⟨0,[],[]⟩
def refLt (a b:PRef):Bool:=decide (a.kind < b.kind) || (decide (a.kind=b.kind) && decide (a.id < b.id))
def refOK (r:PRef):Bool:=decide (1≤r.kind) && (decide (r.kind≤9) && (decide (1≤r.id) && decide (r.id≤1099511627776)))
def risesM:List PRef→Bool
 | []=>true
 | [r]=>refOK r
 |r :: x :: l=>refOK r && (refLt r x && risesM (x :: l))
def noteOK (n:Int):Bool:=decide (-1099511627776≤n) && decide (n≤1099511627776)
def rightM (m:PMan):Bool:=decide (0≤m.ver) && (decide (m.ver≤1099511627776) && (m.notes.all noteOK && ((decide (0 < m.ver) || decide (m.notes.length+m.refs.length=0)) && risesM m.refs)))
def nosM (l:List PRef):List Int:=l.flatMap fun r => [r.kind,r.id]
def digsM (l:List PRef):List ByteArray:=l.map fun r=>strOf r.dig
def encM (m:PMan):List Int:=intsB (m.ver :: m.notes) ++ (intsB (nosM m.refs) ++ strsB (digsM m.refs))
def refsOf:List Int→List ByteArray→List PRef
 |k :: i :: r,s :: t=>⟨k,i,bytesL s⟩ :: refsOf r t
 |_,_ => []
def DigsOK (m:PMan):Prop:=∀r∈m.refs,r.dig.length=16∧∀c∈r.dig,0≤c∧c < 256
theorem refsOf_enc:∀l:List PRef,(∀r∈l,∀c∈r.dig,0≤c∧c < 256)→refsOf (nosM l) (digsM l)=l
 | [],_=>rfl
 |r :: l,h=>by
  show (⟨r.kind,r.id,bytesL (strOf r.dig)⟩:PRef) :: refsOf (nosM l) (digsM l)=r :: l
  rw [refsOf_enc l (fun x hx=>h x (by simp [hx])),bytesL_strOf _ (h r (by simp))]
theorem refsOf_back:∀(t:List ByteArray) (r:List Int),r.length=2 * t.length→nosM (refsOf r t)=r∧digsM (refsOf r t)=t∧(refsOf r t).length=t.length
 | [],r,h=>by
  have:r = []:=List.eq_nil_of_length_eq_zero (by simpa using h)
  subst this
  exact ⟨rfl,rfl,rfl⟩
 |s :: t,r,h=>by
  match r,h with
  | [],h=>simp at h
  | [k],h=>simp at h;omega
  |k :: i :: r,h=>
   obtain ⟨h1,h2,h3⟩:=refsOf_back t r (by simp at h;omega)
   refine ⟨?_,?_,?_⟩
   ·show k :: i :: nosM (refsOf r t)=_
    rw [h1]
   ·show strOf (bytesL s) :: digsM (refsOf r t)=_
    rw [h2,strOf_bytesL]
   ·show (refsOf r t).length+1=_
    rw [h3];rfl
theorem nosM_len (l:List PRef):(nosM l).length=2 * l.length:=by
 induction l with
 |nil=>rfl
 |cons r l ih=>
  show (nosM l).length+2=_
  rw [ih];simp;omega
theorem digsM_len (l:List PRef):(digsM l).length=l.length:=by simp [digsM]
def checkM (e1 e2:Int) (m:PMan):Int:=if 16 < m.notes.length∨600 < m.refs.length then e1 else if rightM m=true then 0 else e2
def decM (bs:List Int):Option PMan:=
 if (getInts bs).2.2≠0∨(getInts bs).1 = [] then none
 else
  let n:=(getInts bs).2.1.toNat
  if (getInts (bs.drop n)).2.2≠0 then none
  else
   let k:=(getInts (bs.drop n)).2.1.toNat
   let g:=getStrs (bs.drop (n+k))
   if g.2.2≠0∨n+k+g.2.1≠bs.length∨(getInts (bs.drop n)).1.length≠2 * g.1.length then none
   else if g.1.any (fun s=>decide (s.size≠16))=true then none
   else
    let m:PMan:=⟨(getInts bs).1.headD 0,(getInts bs).1.tail,refsOf (getInts (bs.drop n)).1 g.1⟩
    if checkM 1 2 m=0 then some m else none
theorem rises_all:∀l:List PRef,risesM l=true→∀r∈l,refOK r=true
 | [],_,r,hr=>by simp at hr
 | [x],h,r,hr=>by
  simp only [List.mem_cons,List.not_mem_nil,or_false] at hr
  subst hr
  exact h
 |x :: y :: l,h,r,hr=>by
  simp only [risesM,Bool.and_eq_true] at h
  rcases List.mem_cons.1 hr with rfl|hr
  ·exact h.1
  ·exact rises_all (y :: l) h.2.2 r hr
theorem checkM_ok {a b:Int} (ha:a≠0) (hb:b≠0) {m:PMan} (h:checkM a b m=0):m.notes.length≤16∧m.refs.length≤600∧rightM m=true:=by
 unfold checkM at h
 split at h
 ·exact absurd h ha
 ·split at h
  ·rename_i h1 h2
   exact ⟨by omega,by omega,h2⟩
  ·exact absurd h hb
theorem rightM_fit {m:PMan} (h:rightM m=true):(∀z∈m.ver :: m.notes,-9223372036854775808≤z∧z≤9223372036854775807)∧∀z∈nosM m.refs,-9223372036854775808≤z∧z≤9223372036854775807:=by
 simp only [rightM,Bool.and_eq_true,decide_eq_true_eq] at h
 obtain ⟨h1,h2,h3,-,h5⟩:=h
 refine ⟨fun z hz=>?_,fun z hz=>?_⟩
 ·rcases List.mem_cons.1 hz with rfl|hz
  ·omega
  ·have:=List.all_eq_true.1 h3 z hz
   simp only [noteOK,Bool.and_eq_true,decide_eq_true_eq] at this
   omega
 ·obtain ⟨r,hr,hz⟩:=List.mem_flatMap.1 hz
  have:=rises_all _ h5 r hr
  simp only [refOK,Bool.and_eq_true,decide_eq_true_eq] at this
  simp only [List.mem_cons,List.not_mem_nil,or_false] at hz
  rcases hz with rfl|rfl<;>omega
theorem digs_small {m:PMan} (h:DigsOK m):SmallStrs (digsM m.refs):=fun s hs=>by
 obtain ⟨r,hr,rfl⟩:=List.mem_map.1 hs
 rw [strOf_size,(h r hr).1];decide
theorem decM_enc {m:PMan} (hc:checkM 1 2 m=0) (hd:DigsOK m):decM (encM m)=some m:=by
 obtain ⟨n1,n2,hr⟩:=checkM_ok (by decide) (by decide) hc
 obtain ⟨f1,f2⟩:=rightM_fit hr
 have h1:getInts (encM m)=(m.ver :: m.notes,((intsB (m.ver :: m.notes)).length:Int),0):=getInts_rest _ _ f1 (by simp only [List.length_cons];omega)
 have h2:(encM m).drop (intsB (m.ver :: m.notes)).length=intsB (nosM m.refs) ++ strsB (digsM m.refs):=by rw [encM,List.drop_left]
 have h3:getInts (intsB (nosM m.refs) ++ strsB (digsM m.refs))=(nosM m.refs,((intsB (nosM m.refs)).length:Int),0):=getInts_rest _ _ f2 (by rw [nosM_len];omega)
 have h4:(encM m).drop ((intsB (m.ver :: m.notes)).length+(intsB (nosM m.refs)).length)=strsB (digsM m.refs) ++ []:=by rw [←List.drop_drop,h2,List.drop_left];simp
 have h5:=getStrs_rest (digsM m.refs) [] (digs_small hd) (by rw [digsM_len];omega)
 have hlen:(encM m).length=(intsB (m.ver :: m.notes)).length+((intsB (nosM m.refs)).length+(strsB (digsM m.refs)).length):=by simp [encM]
 unfold decM
 rw [h1]
 simp only [Int.toNat_natCast]
 rw [if_neg (by simp),h2,h3]
 simp only [Int.toNat_natCast]
 rw [if_neg (by simp),h4,h5]
 simp only
 rw [if_neg (by
  simp only [not_or,Classical.not_not]
  refine ⟨trivial,?_,?_⟩
  ·rw [hlen];omega
  ·rw [nosM_len,digsM_len]),if_neg (by
  rw [List.any_eq_true]
  rintro ⟨s,hs,h⟩
  obtain ⟨r,hr,rfl⟩:=List.mem_map.1 hs
  rw [strOf_size,(hd r hr).1] at h
  simp at h)]
 rw [refsOf_enc _ (fun r hr=>(hd r hr).2)]
 show (if checkM 1 2 ⟨m.ver,m.notes,m.refs⟩=0 then some (⟨m.ver,m.notes,m.refs⟩:PMan) else none)=some m
 rw [show (⟨m.ver,m.notes,m.refs⟩:PMan)=m by cases m;rfl,if_pos hc]
def decA (bs:List Int):Option PMan:=
 if (getInts bs).2.2≠0∨(getInts bs).1 = [] then none
 else
  let n:=(getInts bs).2.1.toNat
  if (getInts (bs.drop n)).2.2≠0 then none
  else
   let k:=(getInts (bs.drop n)).2.1.toNat
   let g:=getStrs (bs.drop (n+k))
   if g.2.2≠0∨(getInts (bs.drop n)).1.length≠2 * g.1.length then none
   else if g.1.any (fun s=>decide (s.size≠16))=true then none
   else
    let m:PMan:=⟨(getInts bs).1.headD 0,(getInts bs).1.tail,refsOf (getInts (bs.drop n)).1 g.1⟩
    if checkM 1 2 m≠0∨encM m≠bs then none else some m
theorem decA_eq {bs:List Int} (hby:∀c∈bs,0≤c∧c < 256):decA bs=decM bs:=by
 unfold decA decM
 obtain ⟨a,u,e,h1⟩:∃a u e,getInts bs=(a,u,e):=⟨_,_,_,rfl⟩
 rw [h1]
 simp only
 by_cases g1:e≠0∨a = []
 ·rw [if_pos g1,if_pos g1]
 rw [if_neg g1,if_neg g1]
 simp only [not_or,Classical.not_not] at g1
 obtain ⟨rfl,g1⟩:=g1
 obtain ⟨t1,t2,t3⟩:=getInts_take bs a u hby h1
 have hby2:∀k,∀c∈bs.drop k,0≤c∧c < 256:=fun k c hc=>hby c (List.mem_of_mem_drop hc)
 obtain ⟨b,v,e,h2⟩:∃b v e,getInts (bs.drop u.toNat)=(b,v,e):=⟨_,_,_,rfl⟩
 rw [h2]
 simp only
 by_cases g2:e≠0
 ·rw [if_pos g2,if_pos g2]
 rw [if_neg g2,if_neg g2]
 simp only [Classical.not_not] at g2
 subst g2
 obtain ⟨t4,t5,t6⟩:=getInts_take _ b v (hby2 _) h2
 obtain ⟨d,w,e,h3⟩:∃d w e,getStrs (bs.drop (u.toNat+v.toNat))=(d,w,e):=⟨_,_,_,rfl⟩
 rw [h3]
 simp only
 by_cases g3:e≠0∨b.length≠2 * d.length
 ·rw [if_pos g3,if_pos (g3.imp id .inr)]
 rw [if_neg g3]
 simp only [not_or,Classical.not_not] at g3
 obtain ⟨rfl,g5⟩:=g3
 obtain ⟨t7,t8,t9⟩:=getStrs_take _ d w (hby2 _) h3
 obtain ⟨b1,b2,b3⟩:=refsOf_back d b g5
 have ea:a.headD 0 :: a.tail=a:=by cases a with|nil=>exact absurd rfl g1|cons x y=>rfl
 have hE:encM ⟨a.headD 0,a.tail,refsOf b d⟩=bs.take u.toNat ++ ((bs.drop u.toNat).take v.toNat ++ (bs.drop (u.toNat+v.toNat)).take w.toNat):=by
  unfold encM
  simp only
  rw [b1,b2,ea,t1,t4,t7]
 rw [List.length_drop] at t6 t9
 have hl:(encM ⟨a.headD 0,a.tail,refsOf b d⟩).length=u.toNat+(v.toNat+w.toNat):=by
  rw [hE]
  simp only [List.length_append,List.length_take,List.length_drop]
  omega
 have hI:encM ⟨a.headD 0,a.tail,refsOf b d⟩=bs↔(u.toNat:Int)+v.toNat+w=bs.length:=by
  constructor
  ·intro h
   rw [h] at hl
   omega
  ·intro h
   have t10:(bs.drop (u.toNat+v.toNat)).take w.toNat=bs.drop (u.toNat+v.toNat):=List.take_of_length_le (by rw [List.length_drop];omega)
   rw [hE,t10,←List.drop_drop,List.take_append_drop,List.take_append_drop]
 by_cases g4:(u.toNat:Int)+v.toNat+w=bs.length
 ·have hN:¬((0:Int)≠0∨(u.toNat:Int)+v.toNat+w≠bs.length∨b.length≠2 * d.length):=by
   rintro (h|h|h)
   ·exact h rfl
   ·exact h g4
   ·exact h g5
  rw [if_neg hN]
  by_cases g6:d.any (fun s=>decide (s.size≠16))=true
  ·rw [if_pos g6,if_pos g6]
  ·rw [if_neg g6,if_neg g6]
   by_cases g7:checkM 1 2 ⟨a.headD 0,a.tail,refsOf b d⟩=0
   ·rw [if_pos g7,if_neg (by rintro (h|h);exact h g7;exact h (hI.2 g4))]
   ·rw [if_neg g7,if_pos (.inl g7)]
 ·have hN:(0:Int)≠0∨(u.toNat:Int)+v.toNat+w≠bs.length∨b.length≠2 * d.length:=.inr (.inl g4)
  rw [if_pos hN]
  split
  ·rfl
  ·rw [if_pos (.inr fun h=>g4 (hI.1 h))]
def hasR (l:List PRef) (k i:Int):Option PRef:=l.find? fun r=>decide (r.kind=k) && decide (r.id=i)
def OneKey (l:List PRef):Prop:=∀x∈l,∀y∈l,x.kind=y.kind→x.id=y.id→x=y
theorem refLt_iff {a b:PRef} : refLt a b=true↔a.kind < b.kind∨a.kind=b.kind∧a.id < b.id:=by simp [refLt]
theorem rises_lt:∀(l:List PRef) (r:PRef),risesM (r :: l)=true→∀x∈l,refLt r x=true
 | [],r,_,x,hx=>by simp at hx
 |y :: l,r,h,x,hx=>by
  simp only [risesM,Bool.and_eq_true] at h
  rcases List.mem_cons.1 hx with rfl|hx
  ·exact h.2.1
  ·have h1:=rises_lt l y h.2.2 x hx
   rw [refLt_iff] at h1 ⊢
   have h2:=refLt_iff.1 h.2.1
   omega
theorem rises_tail {r:PRef} {l:List PRef} (h:risesM (r :: l)=true):risesM l=true:=by
 cases l with
 |nil=>rfl
 |cons y l=>simp only [risesM,Bool.and_eq_true] at h;exact h.2.2
theorem rises_one:∀l:List PRef,risesM l=true→OneKey l∧l.Nodup
 | [],_=>⟨fun x hx=>by simp at hx,List.nodup_nil⟩
 |r :: l,h=>by
  obtain ⟨h1,h2⟩:=rises_one l (rises_tail h)
  have h3:=rises_lt l r h
  refine ⟨fun x hx y hy e1 e2=>?_,List.nodup_cons.2 ⟨fun hr=>?_,h2⟩⟩
  ·rcases List.mem_cons.1 hx with p1|p1<;>rcases List.mem_cons.1 hy with p2|p2
   ·rw [p1,p2]
   ·have:=refLt_iff.1 (h3 y p2);rw [p1] at e1 e2;omega
   ·have:=refLt_iff.1 (h3 x p1);rw [p2] at e1 e2;omega
   ·exact h1 x p1 y p2 e1 e2
  ·have:=refLt_iff.1 (h3 r hr);omega
theorem rises_get:∀(l:List PRef),risesM l=true→∀j x,j < x→x < l.length→refLt (l.getD j default) (l.getD x default)=true
 | [],_,j,x,_,hx=>by simp at hx
 |r :: l,h,j,x,hj,hx=>by
  cases x with
  |zero=>omega
  |succ x=>
   have hx2:x < l.length:=by simpa using hx
   have e:(r :: l).getD (x+1) default=l.getD x default:=rfl
   rw [e]
   cases j with
   |zero=>
    refine rises_lt l r h _ ?_
    rw [List.getD_eq_getElem?_getD,List.getElem?_eq_getElem hx2]
    exact List.getElem_mem _
   |succ j=>exact rises_get l (rises_tail h) j x (by omega) hx2
def ltK (r:PRef) (k i:Int):Bool:=decide (r.kind < k) || (decide (r.kind=k) && decide (r.id < i))
theorem has_split {l:List PRef} (h:risesM l=true) {k i:Int} {j:Nat} (h2:∀x,j≤x→x < l.length→ltK (l.getD x default) k i=false) (h1:∀x,x < j→x < l.length→ltK (l.getD x default) k i=true) :
  hasR l k i=if j < l.length∧(l.getD j default).kind=k∧(l.getD j default).id=i then some (l.getD j default) else none:=by
 obtain ⟨o1,-⟩:=rises_one l h
 have hm:∀x,x < l.length→l.getD x default∈l:=fun x hx=>by
  rw [List.getD_eq_getElem?_getD,List.getElem?_eq_getElem hx]
  exact List.getElem_mem _
 split
 ·rename_i g
  obtain ⟨g1,g2,g3⟩:=g
  unfold hasR
  cases hf:l.find? (fun r=>decide (r.kind=k) && decide (r.id=i)) with
  |none=>
   rw [List.find?_eq_none] at hf
   exact absurd (by simp only [Bool.and_eq_true,decide_eq_true_eq];exact ⟨g2,g3⟩) (hf _ (hm j g1))
  |some x=>
   have q:=List.find?_some hf
   simp only [Bool.and_eq_true,decide_eq_true_eq] at q
   rw [o1 x (List.mem_of_find?_eq_some hf) _ (hm j g1) (by rw [q.1,g2]) (by rw [q.2,g3])]
 ·rename_i g
  unfold hasR
  rw [List.find?_eq_none]
  intro r hr hk
  simp only [Bool.and_eq_true,decide_eq_true_eq] at hk
  obtain ⟨x,hx,rfl⟩:=List.getElem_of_mem hr
  have e:l.getD x default=l[x]:=by rw [List.getD_eq_getElem?_getD,List.getElem?_eq_getElem hx];rfl
  rw [←e] at hk
  rcases Nat.lt_trichotomy x j with hj|rfl|hj
  ·have:=h1 x hj hx
   simp only [ltK,Bool.or_eq_true,Bool.and_eq_true,decide_eq_true_eq] at this
   omega
  ·exact g ⟨hx,hk⟩
  ·have q1:=refLt_iff.1 (rises_get l h j x hj hx)
   have q2:=h2 j (by omega) (by omega)
   have q3:ltK (l.getD j default) k i=true:=by
    simp only [ltK,Bool.or_eq_true,Bool.and_eq_true,decide_eq_true_eq]
    omega
   rw [q3] at q2
   cases q2
theorem ltK_mono {l:List PRef} (h:risesM l=true) {k i:Int} {x y:Nat} (hx:x≤y) (hy:y < l.length) (hl:ltK (l.getD y default) k i=true):ltK (l.getD x default) k i=true:=by
 rcases Nat.lt_or_ge x y with g|g
 ·have q:=refLt_iff.1 (rises_get l h x y g hy)
  simp only [ltK,Bool.or_eq_true,Bool.and_eq_true,decide_eq_true_eq] at hl ⊢
  omega
 ·rw [show x=y by omega];exact hl
theorem intB_one {n:Int} (h1:0≤n) (h2:n≤63):(intB n).length=1:=by
 unfold intB
 rw [leb_small _ (by unfold zig;split<;>omega)];rfl
theorem intB_six {n:Int} (h1:0≤n) (h2:n≤1099511627776):(intB n).length≤6:=
 leb_len 5 _ (by have:128 ^ (5+1)=4398046511104:=rfl;unfold zig;split<;>omega)
theorem nos_len:∀l:List PRef,(∀r∈l,refOK r=true)→((nosM l).map intB).flatten.length≤7 * l.length
 | [],_=>by simp [nosM]
 |r :: l,h=>by
  have ih:=nos_len l (fun x hx=>h x (by simp [hx]))
  have h1:=h r (by simp)
  simp only [refOK,Bool.and_eq_true,decide_eq_true_eq] at h1
  have h2:=intB_one (n:=r.kind) (by omega) (by omega)
  have h3:=intB_six (n:=r.id) (by omega) (by omega)
  show (intB r.kind ++ (intB r.id ++ ((nosM l).map intB).flatten)).length≤_
  simp only [List.length_append,List.length_cons]
  omega
theorem digs_len:∀l:List PRef,(∀r∈l,r.dig.length=16)→((digsM l).map strB).flatten.length=17 * l.length
 | [],_=>by simp [digsM]
 |r :: l,h=>by
  have ih:=digs_len l (fun x hx=>h x (by simp [hx]))
  have h1:=h r (by simp)
  show (strB (strOf r.dig) ++ ((digsM l).map strB).flatten).length=_
  have h2:=intB_one (n:=(strOf r.dig).size) (by omega) (by rw [strOf_size,h1];decide)
  rw [List.length_append,strB,List.length_append,bytesL_len,strOf_size,ih]
  rw [strOf_size] at h2
  rw [h2,h1,List.length_cons]
  omega
theorem encM_len {m:PMan} (hc:checkM 1 2 m=0) (hd:DigsOK m):3≤(encM m).length∧(encM m).length≤24 * m.refs.length+200:=by
 obtain ⟨n1,n2,hr⟩:=checkM_ok (by decide) (by decide) hc
 obtain ⟨f1,f2⟩:=rightM_fit hr
 have h1:=flat_len (m.ver :: m.notes) f1
 have h2:=nos_len m.refs (by
  simp only [rightM,Bool.and_eq_true] at hr
  exact rises_all _ hr.2.2.2.2)
 have h3:=digs_len m.refs (fun r hr=>(hd r hr).1)
 have l1:=intB_len ((m.ver :: m.notes).length:Nat) (by omega) (by simp only [List.length_cons];omega)
 have l2:=intB_len ((nosM m.refs).length:Nat) (by omega) (by rw [nosM_len];omega)
 have l3:=intB_len ((digsM m.refs).length:Nat) (by omega) (by rw [digsM_len];omega)
 simp only [List.length_cons] at h1
 unfold encM intsB strsB
 simp only [List.length_append]
 omega
theorem getGo_cut:∀(z j k:Nat) (acc:Int),j < (leb z).length→(getGo ((leb z).take j) k acc).2.2≠0:=by
 intro z
 induction z using Nat.strongRecOn with
 |_ z ih=>
  intro j k acc hj
  cases j with
  |zero=>rw [List.take_zero,getGo];decide
  |succ j=>
   by_cases h:z < 128
   ·rw [leb_small z h] at hj
    simp at hj
   ·rw [leb_big z (by omega)] at hj ⊢
    rw [List.take_succ_cons,getGo]
    split
    ·decide
    ·rw [if_neg (by omega)]
     exact ih (z / 128) (by omega) j _ _ (by simpa using hj)
theorem getS_cut (s:ByteArray) (hs:s.size≤1000000) (k:Nat) (hk:k < (strB s).length):(getS ((strB s).take k)).2.2≠0:=by
 have hL:(lenL ((strB s).take k) 1).2.2≠0:=by
  unfold lenL
  by_cases h:k < (intB s.size).length
  ·have e:(strB s).take k=(leb (zig s.size)).take k:=by
    rw [strB,List.take_append_of_le_length (by omega)];rfl
   have:(getI ((leb (zig s.size)).take k)).2.2≠0:=getGo_cut (zig s.size) k 0 0 h
   rw [e,if_pos this]
   exact this
  ·have e:(strB s).take k=intB s.size ++ (bytesL s).take (k - (intB s.size).length):=by
    rw [strB,List.take_append,List.take_of_length_le (by omega)]
   have h0:=getI_intB s.size ((bytesL s).take (k - (intB s.size).length)) (by omega) (by omega)
   rw [e,h0]
   simp only [ne_eq,not_true_eq_false,if_false]
   rw [if_neg (by omega),if_pos (by
    rw [strB,List.length_append,bytesL_len] at hk
    rw [List.length_append,List.length_take,bytesL_len,Int.ediv_one]
    omega)]
   decide
 unfold getS
 rw [if_pos hL]
 exact hL
def readM (hf:ByteArray→List Int) (b:List Int):Option PMan:=
 if b.length < 16 then none
 else if (getS (b.drop 16)).2.2≠0 then none
 else if hf (getS (b.drop 16)).1≠b.take 16 then none
 else decM (bytesL (getS (b.drop 16)).1)
def slotM (hf:ByteArray→List Int) (m:PMan):List Int:=hf (strOf (encM m)) ++ strB (strOf (encM m))
theorem encM_byte {m:PMan} : ∀c∈encM m,0≤c∧c < 256:=by
 have hl:∀n:Int,∀c∈intB n,0≤c∧c < 256:=fun n=>by
  have:∀z:Nat,∀c∈leb z,0≤c∧c < 256:=by
   intro z
   induction z using Nat.strongRecOn with
   |_ z ih=>
    intro c hc
    by_cases h:z < 128
    ·rw [leb_small z h] at hc
     simp only [List.mem_cons,List.not_mem_nil,or_false] at hc
     omega
    ·rw [leb_big z (by omega)] at hc
     rcases List.mem_cons.1 hc with rfl|hc
     ·omega
     ·exact ih (z / 128) (by omega) c hc
  exact this _
 intro c hc
 unfold encM intsB strsB at hc
 simp only [List.mem_append,List.mem_flatten,List.mem_map] at hc
 rcases hc with (hc|⟨l,⟨n,-,rfl⟩,hc⟩)|(hc|⟨l,⟨n,-,rfl⟩,hc⟩)|(hc|⟨l,⟨s,-,rfl⟩,hc⟩)
 ·exact hl _ c hc
 ·exact hl _ c hc
 ·exact hl _ c hc
 ·exact hl _ c hc
 ·exact hl _ c hc
 ·rw [strB] at hc
  rcases List.mem_append.1 hc with hc|hc
  ·exact hl _ c hc
  ·exact bytesL_byte s c hc
theorem readM_whole {hf:ByteArray→List Int} (h16:∀s,(hf s).length=16) {m:PMan} (hc:checkM 1 2 m=0) (hd:DigsOK m) (rest:List Int):readM hf (slotM hf m ++ rest)=some m:=by
 have h2:=(encM_len hc hd).2
 have h3:=(checkM_ok (by decide) (by decide) hc).2.1
 have e1:slotM hf m ++ rest=hf (strOf (encM m)) ++ (strB (strOf (encM m)) ++ rest):=by rw [slotM,List.append_assoc]
 have e2:=getS_strB (strOf (encM m)) rest (by rw [strOf_size];omega)
 unfold readM
 rw [e1,if_neg (by rw [List.length_append,h16];omega),List.drop_left' (h16 _),List.take_left' (h16 _),e2]
 simp only [ne_eq,not_true_eq_false,if_false]
 rw [bytesL_strOf _ encM_byte,decM_enc hc hd]
theorem readM_cut {hf:ByteArray→List Int} (h16:∀s,(hf s).length=16) {m:PMan} (hc:checkM 1 2 m=0) (hd:DigsOK m) (k:Nat) (hk:k < (slotM hf m).length):readM hf ((slotM hf m).take k)=none:=by
 have h2:=(encM_len hc hd).2
 have h3:=(checkM_ok (by decide) (by decide) hc).2.1
 unfold readM
 by_cases h:k < 16
 ·rw [if_pos (by rw [List.length_take];omega)]
 ·rw [if_neg (by rw [List.length_take];omega)]
  have e:((slotM hf m).take k).drop 16=(strB (strOf (encM m))).take (k - 16):=by
   rw [slotM,List.take_append,List.take_of_length_le (by rw [h16];omega),List.drop_left' (h16 _),h16]
  have hl:(slotM hf m).length=16+(strB (strOf (encM m))).length:=by rw [slotM,List.length_append,h16]
  rw [e,if_pos (getS_cut _ (by rw [strOf_size];omega) _ (by omega))]
theorem readM_zeros {hf:ByteArray→List Int} (b:List Int) (hz:∀c∈b.take 17,c=0) (hl:b.length=0∨17≤b.length):readM hf b=none:=by
 unfold readM
 rcases hl with hl|hl
 ·rw [if_pos (by omega)]
 ·rw [if_neg (by omega)]
  have hg:b[16]? = some 0:=by
   have h1:b[16]? = (b.take 17)[16]?:=by rw [List.getElem?_take_of_lt (by omega)]
   have h2:(b.take 17)[16]? = some ((b.take 17)[16]'(by rw [List.length_take];omega)):=List.getElem?_eq_getElem _
   rw [h1,h2,hz _ (List.getElem_mem _)]
  obtain ⟨hk,he⟩:=List.getElem?_eq_some_iff.1 hg
  have e:b.drop 16=0 :: b.drop 17:=by rw [List.drop_eq_getElem_cons hk,he]
  have hi:getI (0 :: b.drop 17)=(0,1,0):=by
   unfold getI
   rw [getGo,if_neg (by omega),if_pos (by decide)]
   rfl
  have hL:lenL (0 :: b.drop 17) 1=(0,1,0):=by
   unfold lenL
   rw [hi]
   simp only [ne_eq,not_true_eq_false,if_false]
   rw [if_neg (by omega),if_neg (by rw [Int.ediv_one,List.length_cons];omega)]
  have hS:getS (0 :: b.drop 17)=(strOf [],1,0):=by
   unfold getS
   rw [hL]
   rfl
  rw [e,hS]
  simp only [ne_eq,not_true_eq_false,if_false]
  split
  ·rfl
  ·have:bytesL (strOf []) = []:=bytesL_strOf [] (by simp)
   rw [this]
   rfl
def upTo (c:Nat→Option (List Int)):Nat→Nat→List Int
 |_,0 => []
 |a,n+1=>match c a with
  |none => []
  |some b=>b ++ upTo c (a+1) n
def allOf (W:Nat→List Int):Nat→Nat→List Int
 |_,0 => []
 |a,n+1=>W a ++ allOf W (a+1) n
theorem allOf_len {W:Nat→List Int} (hW:∀i,(W i).length=64):∀n a,(allOf W a n).length=64 * n
 |0,a=>rfl
 |n+1,a=>by
  rw [allOf,List.length_append,hW,allOf_len hW n]
  omega
theorem upTo_take {c:Nat→Option (List Int)} {W:Nat→List Int} (hW:∀i,(W i).length=64):∀n a,(∀i,a≤i→i < a+n→c i=none∨c i=some (W i))→∃k,k≤n∧upTo c a n=(allOf W a n).take (64 * k)∧(k < n→c (a+k)=none)
 |0,a,_=>⟨0,by omega,rfl,by omega⟩
 |n+1,a,h=>by
  rcases h a (by omega) (by omega) with h0|h0
  ·exact ⟨0,by omega,by rw [upTo,h0];simp,fun _=>h0⟩
  ·obtain ⟨k,k1,k2,k3⟩:=upTo_take hW n (a+1) (fun i h1 h2=>h i (by omega) (by omega))
   refine ⟨k+1,by omega,?_,fun hk=>?_⟩
   ·rw [upTo,h0,allOf,List.take_append,List.take_of_length_le (by rw [hW];omega),hW]
    simp only
    rw [k2,show 64 * (k+1) - 64=64 * k by omega]
   ·have:=k3 (by omega)
    rwa [show a+1+k=a+(k+1) by omega] at this
theorem slot_reads {hf:ByteArray→List Int} (h16:∀s,(hf s).length=16) {m:PMan} (hc:checkM 1 2 m=0) (hd:DigsOK m) {c:Nat→Option (List Int)} {W:Nat→List Int} (hW:∀i,(W i).length=64) {a n:Nat} (h:∀i,a≤i→i < a+n→c i=none∨c i=some (W i)) {rest:List Int} (hs:allOf W a n=slotM hf m ++ rest) :
  (readM hf (upTo c a n)=none∨readM hf (upTo c a n)=some m)∧((∀i,i < n→64 * i < (slotM hf m).length→c (a+i)≠none)→readM hf (upTo c a n)=some m):=by
 obtain ⟨k,k1,k2,k3⟩:=upTo_take hW n a h
 rw [k2,hs]
 by_cases hk:64 * k < (slotM hf m).length
 ·have e:(slotM hf m ++ rest).take (64 * k)=(slotM hf m).take (64 * k):=List.take_append_of_le_length (by omega)
  rw [e]
  refine ⟨.inl (readM_cut h16 hc hd _ hk),fun h=>?_⟩
  have hl:=allOf_len hW n a
  rw [hs,List.length_append] at hl
  exact absurd (k3 (by omega)) (h k (by omega) hk)
 ·have e:(slotM hf m ++ rest).take (64 * k)=slotM hf m ++ rest.take (64 * k - (slotM hf m).length):=by
   rw [List.take_append,List.take_of_length_le (by omega)]
  rw [e]
  exact ⟨.inr (readM_whole h16 hc hd _),fun _=>readM_whole h16 hc hd _⟩
theorem slot_zeros {hf:ByteArray→List Int} {c:Nat→Option (List Int)} {W:Nat→List Int} (hW:∀i,(W i).length=64) {a n:Nat} (h:∀i,a≤i→i < a+n→c i=none∨c i=some (W i)) (h0:∀x∈W a,x=0):readM hf (upTo c a n)=none:=by
 obtain ⟨k,k1,k2,-⟩:=upTo_take hW n a h
 rw [k2]
 have hl:=allOf_len hW n a
 refine readM_zeros _ (fun x hx=>?_) (by rw [List.length_take];omega)
 cases n with
 |zero=>simp [allOf] at hx
 |succ n=>
  rw [allOf,List.take_take] at hx
  have h1:((W a ++ allOf W (a+1) n).take (min 17 (64 * k)))=(W a).take (min 17 (64 * k)):=List.take_append_of_le_length (by rw [hW];omega)
  rw [h1] at hx
  exact h0 x (List.mem_of_mem_take hx)
def blk (S:List Int) (i:Nat):List Int:=(S.drop (64 * i)).take 64 ++ List.replicate (64 - ((S.drop (64 * i)).take 64).length) 0
theorem blk_len (S:List Int) (i:Nat):(blk S i).length=64:=by
 unfold blk
 rw [List.length_append,List.length_replicate]
 have:((S.drop (64 * i)).take 64).length≤64:=by rw [List.length_take];omega
 omega
theorem blk_succ (S:List Int) (i:Nat):blk S (i+1)=blk (S.drop 64) i:=by
 unfold blk
 rw [List.drop_drop,show 64 * (i+1)=64+64 * i by omega]
theorem allOf_blk {W:Nat→List Int} : ∀(n a:Nat) (S:List Int),S.length≤64 * n→(∀i,64 * i < S.length→W (a+i)=blk S i)→∃rest,allOf W a n=S ++ rest
 |0,a,S,hl,_=>⟨[],by
  have:S = []:=List.eq_nil_of_length_eq_zero (by omega)
  rw [this];rfl⟩
 |n+1,a,S,hl,h=>by
  by_cases h0:S.length=0
  ·have:S = []:=List.eq_nil_of_length_eq_zero h0
   exact ⟨allOf W a (n+1),by rw [this];rfl⟩
  ·have hW:=h 0 (by omega)
   rw [Nat.add_zero] at hW
   by_cases h1:S.length≤64
   ·refine ⟨List.replicate (64 - S.length) 0 ++ allOf W (a+1) n,?_⟩
    rw [allOf,hW]
    unfold blk
    rw [Nat.mul_zero,List.drop_zero,List.take_of_length_le h1,List.append_assoc]
   ·obtain ⟨rest,hr⟩:=allOf_blk n (a+1) (S.drop 64) (by rw [List.length_drop];omega) (fun i hi=>by
     rw [List.length_drop] at hi
     have:=h (i+1) (by omega)
     rw [blk_succ] at this
     rw [←this,show a+1+i=a+(i+1) by omega])
    refine ⟨rest,?_⟩
    rw [allOf,hW,hr]
    unfold blk
    have hl2:(S.take 64).length=64:=by rw [List.length_take];omega
    rw [Nat.mul_zero,List.drop_zero,hl2,Nat.sub_self,List.replicate_zero,List.append_nil,←List.append_assoc,List.take_append_drop]
def newerM (x y:PMan):PMan:=if x.ver < y.ver then y else x
def copiesM (rd:Nat→Option PMan):List (Nat×PMan):=(List.range 4).filterMap fun k=>(rd k).map fun m=>(k,m)
def bestM (rd:Nat→Option PMan):PMan:=(copiesM rd).foldl (fun x y=>newerM x y.2) zeroM
theorem mem_copies {rd:Nat→Option PMan} {y:Nat×PMan} : y∈copiesM rd↔y.1 < 4∧rd y.1=some y.2:=by
 obtain ⟨k,m⟩:=y
 unfold copiesM
 simp only [List.mem_filterMap,List.mem_range,Option.map_eq_some_iff,Prod.mk.injEq]
 constructor
 ·rintro ⟨a,h1,b,h2,rfl,rfl⟩
  exact ⟨h1,h2⟩
 ·rintro ⟨h1,h2⟩
  exact ⟨k,h1,m,h2,rfl,rfl⟩
theorem best_fold {now:PMan} : ∀(l:List (Nat×PMan)) (x:PMan),(x=now∨x.ver < now.ver)→(∀y∈l,y.2=now∨y.2.ver < now.ver)→((∃y∈l,y.2=now)∨x=now)→l.foldl (fun x y=>newerM x y.2) x=now
 | [],x,_,_,h=>by
  rcases h with ⟨y,hy,-⟩|h
  ·simp at hy
  ·exact h
 |z :: l,x,hx,hl,h=>by
  rw [List.foldl_cons]
  have hz:=hl z (by simp)
  have hn:newerM x z.2=now∨(newerM x z.2).ver < now.ver:=by
   unfold newerM
   split
   ·exact hz
   ·exact hx
  refine best_fold l _ hn (fun y hy=>hl y (by simp [hy])) ?_
  rcases h with ⟨y,hy,e⟩|h
  ·rcases List.mem_cons.1 hy with rfl|hy
   ·right
    unfold newerM
    split
    ·exact e
    ·rename_i g
     rcases hx with hx|hx
     ·exact hx
     ·rw [e] at g;omega
   ·exact .inl ⟨y,hy,e⟩
  ·right
   unfold newerM
   split
   ·rename_i g
    rcases hz with hz|hz
    ·exact hz
    ·rw [h] at g;omega
   ·exact h
theorem best_is {rd:Nat→Option PMan} {now:PMan} (h0:0 < now.ver) {s:Nat} (hs:s < 4) (h1:rd s=some now) (h:∀k m,k < 4→rd k=some m→m=now∨m.ver < now.ver):bestM rd=now:=
 best_fold _ _ (.inr (by unfold zeroM;exact h0)) (fun y hy=>by
  obtain ⟨y1,y2⟩:=mem_copies.1 hy
  exact h _ _ y1 y2) (.inl ⟨(s,now),mem_copies.2 ⟨hs,h1⟩,rfl⟩)
theorem best_zero {rd:Nat→Option PMan} (h:∀k,k < 4→rd k=none):bestM rd=zeroM:=by
 unfold bestM
 rw [show copiesM rd = [] from List.eq_nil_iff_forall_not_mem.2 fun y hy=>by
  obtain ⟨y1,y2⟩:=mem_copies.1 hy
  rw [h _ y1] at y2
  cases y2]
 rfl
end
end Go.Proofs.YtmeekbjhpidcgaaGreatDoor
