/- Merged: Row18, Row18b, Wa, Wb, Wc, Wd. -/
import Derived.Test.YtoamkpgaaanafaaGreatS10
import Derived.Test.YtoamkpgaaanafaaGreatS40
import Derived.Test.YtoamkpgaaanafaaGreatS41
import Derived.Test.YtoamkpgaaanafaaGreatS42
import Derived.Test.YtoamkpgaaanafaaGreatS46
import Derived.Test.YtoamkpgaaanafaaGreatS48
/- The arguments of the laws of zone, opened. -/
namespace Go.Proofs.YtoamkpgaaanafaaGreat
set_option linter.unusedSimpArgs false
set_option linter.unusedVariables false
set_option linter.unnecessarySimpa false
open Go.ChangeShapes Go.WideShapes Go.ChangeAt Go.RowKit
theorem opensShell:Opens Tryz.prog 119 pshL (fun s=>Fit64 s.lo∧Fit64 s.hi):=
 (opens_struct Tryz.underlying119 (opensFs_1 rfl opensInt (by kernel_rfl) (opensFs_1 rfl opensInt (by kernel_rfl) opensFs_nil)) (by kernel_rfl)).map
  (fun p=>(⟨p.1,p.2.1⟩:PShell)) (fun _ _=>rfl) (fun _ h=>⟨h.1,h.2.1⟩)
theorem opensShells:Opens Tryz.prog 30 (fun l => [pshells l]) (fun l=>(∀s∈l,Fit64 s.lo∧Fit64 s.hi)∧l.length * 16≤reachBytes):=
 (opens_slice Tryz.underlying30 (by kernel_rfl) (by decide) (by kernel_rfl) opensShell (fun _ _=>rfl)).map id (fun a _=>rfl) (fun _ h=>h)
theorem opensField:Opens Tryz.prog 100 pfldL (fun f=>(Fit64 f.has∧Fit64 f.lo∧Fit64 f.hi)∧f.words.length * 16≤reachBytes):=
 (opens_struct Tryz.underlying100 (opensFs_1 rfl opensInt (by kernel_rfl) (opensFs_1 rfl opensInt (by kernel_rfl) (opensFs_1 rfl opensInt (by kernel_rfl) (opensFs_1 rfl opensStrs (by kernel_rfl) opensFs_nil)))) (by kernel_rfl)).map
  (fun p=>(⟨p.1,p.2.1,p.2.2.1,p.2.2.2.1⟩:PField)) (fun _ _=>rfl) (fun _ h=>by obtain ⟨a,b,c,d,-⟩:=h;exact ⟨⟨a,b,c⟩,d.2⟩)
theorem opensFields:Opens Tryz.prog 31 (fun l => [pflds l]) (fun l=>(∀f∈l,(Fit64 f.has∧Fit64 f.lo∧Fit64 f.hi)∧f.words.length * 16≤reachBytes)∧l.length * 48≤reachBytes):=
 (opens_slice Tryz.underlying31 (by kernel_rfl) (by decide) (by kernel_rfl) opensField (fun _ _=>rfl)).map id (fun a _=>rfl) (fun _ h=>h)
theorem opensBox:Opens Tryz.prog 29 pboxL (fun b=>((∀z∈b.lo,Fit64 z)∧b.lo.length * 8≤reachBytes)∧(∀z∈b.hi,Fit64 z)∧b.hi.length * 8≤reachBytes):=
 (opens_struct Tryz.underlying29 (opensFs_1 rfl opensInts (by kernel_rfl) (opensFs_1 rfl opensInts (by kernel_rfl) opensFs_nil)) (by kernel_rfl)).map
  (fun p=>(⟨p.1,p.2.1⟩:PBox)) (fun _ _=>rfl) (fun _ h=>⟨h.1,h.2.1⟩)
structure GoodZ (z:PSum):Prop where
 head:Fit64 z.count∧Fit64 z.fromLo∧Fit64 z.fromHi∧Fit64 z.toHi∧Fit64 z.bornLo∧Fit64 z.bornHi
 lo:(∀x∈z.box.lo,Fit64 x)∧z.box.lo.length * 8≤reachBytes
 hi:(∀x∈z.box.hi,Fit64 x)∧z.box.hi.length * 8≤reachBytes
 shells:(∀s∈z.shells,Fit64 s.lo∧Fit64 s.hi)∧z.shells.length * 16≤reachBytes
 fields:(∀f∈z.fields,(Fit64 f.has∧Fit64 f.lo∧Fit64 f.hi)∧f.words.length * 16≤reachBytes)∧z.fields.length * 48≤reachBytes
theorem argSum:ArgOpens Tryz.prog 33 psum GoodZ:=
 (arg_struct Tryz.underlying33 (opens_struct Tryz.underlying33 (opensFs_1 rfl opensInt (by kernel_rfl) (opensFs_cons (k:=2) rfl (by kernel_rfl) opensBox (opensFs_1 rfl opensShells (by kernel_rfl) (opensFs_1 rfl opensInt (by kernel_rfl) (opensFs_1 rfl opensInt (by kernel_rfl) (opensFs_1 rfl opensInt (by kernel_rfl) (opensFs_1 rfl opensInt (by kernel_rfl) (opensFs_1 rfl opensInt (by kernel_rfl) (opensFs_1 rfl opensFields (by kernel_rfl) opensFs_nil))))))))) (by kernel_rfl))).map
  (fun p=>(⟨p.1,p.2.1,p.2.2.1,p.2.2.2.1,p.2.2.2.2.1,p.2.2.2.2.2.1,p.2.2.2.2.2.2.1,p.2.2.2.2.2.2.2.1,p.2.2.2.2.2.2.2.2.1⟩:PSum)) (fun _ _=>rfl) (fun _ h=>by
   obtain ⟨h1,h2,h3,h4,h5,h6,h7,h8,h9,_⟩:=h
   exact ⟨⟨h1,h4,h5,h6,h7,h8⟩,h2.1,h2.2,h3,h9⟩)
theorem GoodZ.num {z:PSum} (h:GoodZ z) (hf:fewZ z=true):NumZ z:=by
 obtain ⟨f1,f2,f3,f4,f5⟩:=fewZ_get hf
 obtain ⟨⟨a1,a2,a3,a4,a5,a6⟩,l1,l2,l3,l4⟩:=h
 refine ⟨?_,l1.1,l2.1,l3.1,fun f hf=>⟨(l4.1 f hf).1,by have:=(f5 f hf).1;omega,fun w hw=>by have:=(f5 f hf).2 w hw;omega⟩,by omega,by omega,by omega,by omega⟩
 intro x hx
 simp only [headZ,List.mem_cons,List.not_mem_nil,or_false] at hx
 rcases hx with rfl|rfl|rfl|rfl|rfl|rfl<;>assumption
theorem GoodZ.big {z:PSum} (h:GoodZ z):z.box.lo.length≤20000000000000∧z.box.hi.length≤20000000000000∧z.shells.length≤20000000000000∧z.fields.length≤20000000000000∧∀f∈z.fields,f.words.length≤20000000000000:=by
 have e:=reach_eq
 obtain ⟨-,l1,l2,l3,l4⟩:=h
 have q1:=l1.2
 have q2:=l2.2
 have q3:=l3.2
 have q4:=l4.2
 exact ⟨by omega,by omega,by omega,by omega,fun f hf=>by have:=(l4.1 f hf).2;omega⟩
theorem GoodS.big {s:PSchema} (h:GoodS s):s.defs.length≤20000000000000∧∀d∈s.defs,d.words.length≤20000000000000:=by
 have e:=reach_eq
 have q:=h.len
 exact ⟨by omega,fun d hd=>by have:=(h.defs d hd).2.2.2;omega⟩
end Go.Proofs.YtoamkpgaaanafaaGreat

/- The arguments of the laws of zone, opened: vectors, entries. -/
namespace Go.Proofs.YtoamkpgaaanafaaGreat
set_option linter.unusedSimpArgs false
set_option linter.unusedVariables false
set_option linter.unnecessarySimpa false
open Go.ChangeShapes Go.WideShapes Go.ChangeAt Go.RowKit
theorem argVecs:ArgOpens Tryz.prog 25 pvecs (fun l=>(∀v∈l,(∀z∈v,Fit64 z)∧v.length * 8≤reachBytes)∧l.length * 24≤reachBytes):=
 arg_slice Tryz.underlying25 ((opens_slice Tryz.underlying25 (by kernel_rfl) (by decide) (by kernel_rfl) opensInts (fun _ _=>rfl)).map id (fun a _=>by show [pvecs a]=_;rw [flatMap_one];rfl) (fun _ h=>h))
theorem opensEntry:Opens Tryz.prog 50 entCellsP GoodE:=
 (opens_struct Tryz.underlying50 (opensFs_1 rfl opensInt (by kernel_rfl) (opensFs_1 rfl opensInt (by kernel_rfl) (opensFs_1 rfl opensInt (by kernel_rfl) (opensFs_1 rfl opensInt (by kernel_rfl) (opensFs_1 rfl opensInt (by kernel_rfl) (opensFs_1 rfl opensInt (by kernel_rfl) (opensFs_1 rfl opensInt (by kernel_rfl) (opensFs_1 rfl opensInts (by kernel_rfl) (opensFs_1 rfl opensAttrs (by kernel_rfl) opensFs_nil))))))))) (by kernel_rfl)).map
  (fun p=>(⟨p.1,p.2.1,p.2.2.1,p.2.2.2.1,p.2.2.2.2.1,p.2.2.2.2.2.1,p.2.2.2.2.2.2.1,p.2.2.2.2.2.2.2.1,p.2.2.2.2.2.2.2.2.1⟩:PEntry)) (fun _ _=>rfl) (fun _ h=>by obtain ⟨h1,h2,h3,h4,h5,h6,h7,h8,h9,_⟩:=h;exact ⟨⟨h1,h2,h3,h4,h5,h6,h7,h8.1,h9.1⟩,h8.2,h9.2⟩)
theorem argEntries:ArgOpens Tryz.prog 26 pentries (fun l=>(∀e∈l,GoodE e)∧l.length * 104≤reachBytes):=
 arg_slice Tryz.underlying26 ((opens_slice Tryz.underlying26 (by kernel_rfl) (by decide) (by kernel_rfl) opensEntry (fun _ _=>rfl)).map id (fun a _=>rfl) (fun _ h=>h))
theorem GoodE.big {e:PEntry} (h:GoodE e):e.attrs.length≤20000000000000∧e.vec.length≤20000000000000:=by
 have r:=reach_eq
 have a:=h.vec
 have b:=h.attrs
 exact ⟨by omega,by omega⟩
end Go.Proofs.YtoamkpgaaanafaaGreat

/- The specification's FewEntries. -/
namespace Go.Proofs.YtoamkpgaaanafaaGreat
set_option linter.unusedSimpArgs false
set_option linter.unusedVariables false
set_option linter.unnecessarySimpa false
open Go.RowKit
def fewEs (l:List PEntry) (m:Int):Bool:=decide ((l.length:Int)≤m) && l.all fewB
set_option maxRecDepth 10000 in
set_option maxHeartbeats 1000000 in
theorem pw_fewEs (l:List PEntry) (m:Int) (hl:l.length≤20000000000000) (h:∀e∈l,e.attrs.length≤20000000000000∧e.vec.length≤20000000000000):PCalls Tryz.prog 12 [pentries l,pint m] (· = pbool (fewEs l m)):=by
 have hll:Low (pentries l):=(low_pentries l).2 trivial
 have g:∀w,fewEs l m=w→pbool w=pbool (fewEs l m):=fun v h=>by rw [h]
 refine pcalls_of_pw typeTab_ok Tryz.func12 rfl (by kernel_rfl) (by simp [low_pint,low_pints,low_pstr,low_pbool,low_pbox,low_pvecs,low_pentry,low_pentries,low_psum,low_pschema,low_pshells,low_pstrs,low_pfld,low_pdef]) (by simp [pint,pints,pstr,pbool,pbox,pvecs,pentry,pentries,psum,psumL,pschema,pshells,pstrs,pfld,pfldL,pdefL,PV.ownB]) (by rw [Tryz.ntmps12];simp) ?_
 rw [Tryz.ntmps12,Tryz.results12]
 by_cases e1:(l.length:Int) > m
 ·refine wk ?_
  exact retP rfl (by exact lw) (g _ (by rw [fewEs,decide_eq_false (by omega),Bool.false_and]))
 refine wk ?_
 refine PW.loop (fun k:Nat=>(bot.put 0 (pentries l) |>.put 5 (pint k))) (fun k=>k≤l.length∧∀j,j < k→fewB (l.getD j default)=true) (fun k=>l.length - k) 0 ⟨by omega,by simp⟩ ?_ ?_
 ·exact sb
 rintro k ⟨hk,ha⟩
 by_cases hlt:k < l.length
 ·obtain ⟨q1,q2⟩:=h _ (getD_mem hlt)
  have c1:=pw_few (l.getD k default) q1 q2
  have hle:=low_entCells (l.getD k default)
  cases e2:fewB (l.getD k default) with
  |false=>
   rw [e2] at c1
   have hall:l.all fewB=false:=by rw [List.all_eq_false];exact ⟨_,getD_mem hlt,by rw [e2];decide⟩
   refine wk ?_
   exact retP rfl (by exact lw) (g _ (by rw [fewEs,hall,Bool.and_false]))
  |true=>
   rw [e2] at c1
   refine wk ?_
   refine loopP (k+1) ⟨by omega,fun j hj=>?_⟩ (by omega) ?_
   ·rcases Nat.lt_succ_iff_lt_or_eq.1 hj with h|h
    ·exact ha j h
    ·rw [h];exact e2
   ·exact sb
 ·have hall:l.all fewB=true:=by
   rw [List.all_eq_true]
   intro e he
   obtain ⟨q,hq,rfl⟩:=List.getElem_of_mem he
   have:=ha q (by omega)
   rwa [getD_atW hq] at this
  refine wk ?_
  exact retP rfl (by exact lw) (g _ (by rw [fewEs,hall,decide_eq_true (by omega)];rfl))
theorem fewEs_get {l:List PEntry} {m:Int} (h:fewEs l m=true):(l.length:Int)≤m∧∀e∈l,e.vec.length≤40∧e.attrs.length≤20∧∀a∈e.attrs,a.s.size≤300:=by
 simp only [fewEs,Bool.and_eq_true,decide_eq_true_eq,List.all_eq_true] at h
 refine ⟨h.1,fun e he=>?_⟩
 have h2:=h.2 e he
 simp only [fewB,Bool.and_eq_true,decide_eq_true_eq,List.all_eq_true,smallA] at h2
 obtain ⟨a,b,c⟩:=h2
 rw [List.take_of_length_le (by omega)] at a
 exact ⟨b,c,fun x hx=>(a x hx).2⟩
end Go.Proofs.YtoamkpgaaanafaaGreat

/- zone: what sums hold (no program). -/
namespace Go.Proofs.YtoamkpgaaanafaaGreat
set_option linter.unusedSimpArgs false
set_option linter.unusedVariables false
set_option linter.unnecessarySimpa false
open Go.RowKit
structure FP (B n:Nat) (f:PField):Prop where
 has:0≤f.has∧f.has≤n
 lo:Fit64 f.lo
 hi:Fit64 f.hi
 len:f.words.length≤n
 sz:∀w∈f.words,w.size≤B
theorem fit0:Fit64 0:=⟨by decide,by decide⟩
theorem getA_all {p:PAttr→Prop} (h0:p zeroA) {l:List PAttr} {nm:ByteArray} (h:∀a∈l,p a):p (getA l nm).1:=by
 induction l with
 |nil=>simpa [getA] using h0
 |cons a r ih=>
  unfold getA
  split
  ·exact h a (by simp)
  ·exact ih fun x hx=>h x (by simp [hx])
theorem fldOne_fp {B:Nat} (d:PDef) {e:PEntry} (h:∀a∈e.attrs,Fit64 a.n∧a.s.size≤B):FP B 1 (fldOne d e):=by
 have hg:=getA_all (p:=fun a=>Fit64 a.n∧a.s.size≤B) (nm:=d.name) ⟨fit0,by simp [zeroA]⟩ h
 unfold fldOne
 split
 ·refine ⟨by simp,hg.1,hg.1,?_,?_⟩
  ·simp only;split<;>simp
  ·simp only
   intro w hw
   split at hw
   ·simp only [List.mem_cons,List.not_mem_nil,or_false] at hw;subst hw;exact hg.2
   ·cases hw
 ·exact ⟨by simp,fit0,fit0,by simp,by simp⟩
theorem FP.join {B n m:Nat} {a b:PField} (ha:FP B n a) (hb:FP B m b) (oa:Asc a.words) (ob:Asc b.words):FP B (n+m) (joinR a b):=by
 obtain ⟨a1,a2,a3,a4,a5⟩:=ha
 obtain ⟨b1,b2,b3,b4,b5⟩:=hb
 unfold joinR
 split
 ·exact ⟨by omega,b2,b3,by omega,b5⟩
 ·split
  ·exact ⟨by omega,a2,a3,by omega,a5⟩
  ·refine ⟨by simp only;omega,(fit_min a2 b2).1,(fit_min a3 b3).2,?_,fun w hw=>?_⟩
   ·have:=mergeW_len a.words b.words
    simp only;omega
   ·rcases ((mergeW_spec _ _ oa ob).2 w).1 hw with h|h
    ·exact a5 w h
    ·exact b5 w h
theorem fieldOfP_fp {B:Nat} (d:PDef) (l:List PEntry) (h0:0 < l.length) (h:∀e∈l,∀a∈e.attrs,Fit64 a.n∧a.s.size≤B):FP B l.length (fieldOfP d l):=by
 revert h
 refine snoc_ind (P:=fun l=>(∀e∈l,∀a∈e.attrs,Fit64 a.n∧a.s.size≤B)→FP B l.length (fieldOfP d l)) (fun a h=>?_) (fun l a h0 ih h=>?_) l h0
 ·rw [fieldOfP_one];exact fldOne_fp d (h a (by simp))
 ·rw [fieldOfP_snoc,List.length_append]
  exact (ih fun e he=>h e (by simp [he])).join (fldOne_fp d (h a (by simp))) (fieldOfP_ok d l).asc (fldOne_ok d a).asc
def FitL (l:List PEntry):Prop:=∀e∈l,∀a∈e.attrs,Fit64 a.n∧a.s.size≤1000
theorem of_fields {s:PSchema} {pv:List (List Int)} {m:List PEntry} (k:Nat) (hS:SumOK s pv m) (h0:0 < m.length) (hl:m.length≤1000) (hA:FitL m):FP 1000 m.length ((ofL s pv m).fields.getD k default):=by
 rw [ofL_eq hS h0 (by omega)]
 simp only
 rcases Nat.lt_or_ge k s.defs.length with hk|hk
 ·rw [map_getD _ hk];exact fieldOfP_fp _ m h0 hA
 ·rw [List.getD_eq_getElem?_getD,List.getElem?_eq_none (by simpa using hk)]
  exact ⟨⟨by decide,by simp [default,instInhabitedPField.default]⟩,fit0,fit0,by simp [default,instInhabitedPField.default],by intro w hw;simp [default,instInhabitedPField.default] at hw⟩
theorem of_len {s:PSchema} {pv:List (List Int)} {m:List PEntry} (hS:SumOK s pv m) (h0:0 < m.length) (hl:m.length≤1000):(ofL s pv m).fields.length=s.defs.length∧(ofL s pv m).shells.length=pv.length∧(ofL s pv m).count=m.length∧boxB (ofL s pv m).box=true:=by
 have he:=hS.ent _ (getD_mem h0)
 obtain ⟨⟨v1,v2⟩,-⟩:=vecB_get he.1
 have hb:=(sum_box he.2 m h0 hS).valid v1 v2
 rw [ofL_eq hS h0 (by omega)]
 exact ⟨by simp,by simp,rfl,hb⟩
theorem of_small {s:PSchema} {pv:List (List Int)} {m:List PEntry} (hS:SumOK s pv m) (h0:0 < m.length) (hl:m.length≤1000) (hs:SmallS s) (hA:FitL m):SmallZ (ofL s pv m)∧CountZ (ofL s pv m)∧∀k,WordsZ ((ofL s pv m).fields.getD k default):=by
 obtain ⟨q1,q2,q3,q4⟩:=of_len hS h0 hl
 obtain ⟨b1,b2,b3⟩:=boxB_len q4
 have hp:=hS.len
 have hd:=hs.1
 refine ⟨⟨by omega,by omega,by omega,by omega,fun k=>?_⟩,⟨by omega,fun k=>?_⟩,fun k=>⟨?_,fun w hw=>?_⟩⟩<;>have hf:=of_fields k hS h0 hl hA
 ·have:=hf.len;omega
 ·have:=hf.has;omega
 ·have:=hf.len;omega
 ·have:=hf.sz w hw;omega
theorem tSt_fit {l:List PEntry} (h0:0 < l.length) (h:∀e∈l,Fit64 e.frm∧Fit64 e.to∧Fit64 e.born):Fit64 (tSt l).fromLo∧Fit64 (tSt l).fromHi∧Fit64 (tSt l).toHi∧Fit64 (tSt l).bornLo∧Fit64 (tSt l).bornHi:=by
 revert h
 refine snoc_ind (P:=fun l=>(∀e∈l,Fit64 e.frm∧Fit64 e.to∧Fit64 e.born)→Fit64 (tSt l).fromLo∧Fit64 (tSt l).fromHi∧Fit64 (tSt l).toHi∧Fit64 (tSt l).bornLo∧Fit64 (tSt l).bornHi) (fun a h=>?_) (fun l a h0 ih h=>?_) l h0
 ·obtain ⟨a1,a2,a3⟩:=h a (by simp)
  rw [tSt_one];exact ⟨a1,a1,a2,a3,a3⟩
 ·obtain ⟨a1,a2,a3⟩:=h a (by simp)
  obtain ⟨i1,i2,i3,i4,i5⟩:=ih fun e he=>h e (by simp [he])
  rw [tSt_snoc h0]
  exact ⟨(fit_min i1 a1).1,(fit_min i2 a1).2,(fit_min i3 a2).2,(fit_min i4 a3).1,(fit_min i5 a3).2⟩
theorem of_num {s:PSchema} {pv:List (List Int)} {m:List PEntry} (hS:SumOK s pv m) (h0:0 < m.length) (hl:m.length≤1000) (hs:s.defs.length≤100) (hA:FitL m) (hT:∀e∈m,Fit64 e.frm∧Fit64 e.to∧Fit64 e.born):NumZ (ofL s pv m):=by
 obtain ⟨q1,q2,q3,q4⟩:=of_len hS h0 hl
 obtain ⟨b1,b2,b3⟩:=boxB_len q4
 obtain ⟨n1,n2⟩:=box_num q4
 have hp:=hS.len
 obtain ⟨t1,t2,t3,t4,t5⟩:=tSt_fit h0 hT
 refine ⟨?_,n1,n2,?_,fun f hf=>?_,by omega,by omega,by omega,by omega⟩
 ·have hc:Fit64 (m.length:Int):=⟨by omega,by omega⟩
  rw [ofL_eq hS h0 (by omega)]
  intro x hx
  simp only [headZ,List.mem_cons,List.not_mem_nil,or_false] at hx
  rcases hx with rfl|rfl|rfl|rfl|rfl|rfl<;>assumption
 ·rw [ofL_eq hS h0 (by omega)]
  intro x hx
  obtain ⟨p,hp,rfl⟩:=List.mem_map.1 hx
  have:=shellB_iff.1 (shK_ok hp m h0 hS)
  exact ⟨⟨by omega,by omega⟩,⟨by omega,by omega⟩⟩
 ·obtain ⟨k,hk,rfl⟩:=List.getElem_of_mem hf
  have h:=of_fields k hS h0 hl hA
  rw [getD_atW hk] at h
  obtain ⟨f1,f2,f3,f4,f5⟩:=h
  exact ⟨⟨⟨by omega,by omega⟩,f2,f3⟩,by omega,fun w hw=>by have:=f5 w hw;omega⟩
theorem take_snoc {l:List PEntry} {k:Nat} (h:k < l.length):l.take (k+1)=l.take k ++ [l.getD k default]:=by
 rw [List.take_add_one,List.getElem?_eq_getElem h,getD_atW h];rfl
theorem SumOK.take {s:PSchema} {pv:List (List Int)} {l:List PEntry} (h:SumOK s pv l) (k:Nat):SumOK s pv (l.take k):=⟨h.met,h.len,h.piv,fun e he=>h.ent e (List.mem_of_mem_take he)⟩
end Go.Proofs.YtoamkpgaaanafaaGreat

/- The specification's Of. -/
namespace Go.Proofs.YtoamkpgaaanafaaGreat
set_option linter.unusedSimpArgs false
set_option linter.unusedVariables false
set_option linter.unnecessarySimpa false
open Go.RowKit
set_option maxRecDepth 10000 in
set_option maxHeartbeats 8000000 in
theorem pw_rOf (s:PSchema) (pv:List (List Int)) (l:List PEntry) (hs:SmallS s) (h1:pv.length≤1000000) (h2:∀v∈pv,v.length≤1000000) (h3:l.length≤1000) (h4:∀e∈l,e.vec.length≤1000000∧e.attrs.length≤1000000) (hA:FitL l) :
  PCalls Tryz.prog 16 [pschema s,pvecs pv,pentries l] (· = .agg (psumL (refOf s pv l).1 ++ [pint (refOf s pv l).2])):=by
 have c0:=pcRefCheck s hs
 have c1:=pw_rPivots s pv h1 h2
 have hls:=low_schCells s
 have hlp:Low (pvecs pv):=(low_pvecs pv).2 trivial
 have hll:Low (pentries l):=(low_pentries l).2 trivial
 have hz1:∀c∈zNil ++ [pint 0],Low c:=by
  intro c hc
  rcases List.mem_append.1 hc with h|h
  ·exact low_zNil c h
  ·simp only [List.mem_cons,List.not_mem_nil,or_false] at h;subst h;exact .val _
 have bad:∀c:Int,Weak (.agg (zNil ++ [pint c])) (.agg (psumL zeroZ ++ [pint c])):=fun c=>Weak.agg (.cons (.refl _) (.cons (.nil 1) (.cons (.nil 1) (.cons (.nil 2) (.cons (.refl _) (.cons (.refl _) (.cons (.refl _) (.cons (.refl _) (.cons (.refl _) (.cons (.nil 4) (.cons (.refl _) .nil)))))))))))
 have lowB:∀c:Int,Low (.agg (zNil ++ [pint c])):=fun c=>.agg _ (by
  intro x hx
  rcases List.mem_append.1 hx with h|h
  ·exact low_zNil x h
  ·simp only [List.mem_cons,List.not_mem_nil,or_false] at h;subst h;exact .val _)
 have hpiv:pivS s pv=true↔¬(8 < pv.length∨pv.any (wrongV s)=true):=by
  simp only [pivS,Bool.and_eq_true,Bool.not_eq_true',decide_eq_true_eq,not_or,Bool.not_eq_true]
  constructor
  ·rintro ⟨a,b⟩;exact ⟨by omega,a⟩
  ·rintro ⟨a,b⟩;exact ⟨b,by omega⟩
 refine PCalls.weak ?_
 refine pcalls_of_pw typeTab_ok Tryz.func16 rfl (by kernel_rfl) (by simp [low_pint,low_pints,low_pstr,low_pbool,low_pbox,low_pvecs,low_pentry,low_pentries,low_psum,low_pschema,low_pshells,low_pstrs,low_pfld,low_pdef,low_pvecs,low_pentries]) (by simp [pint,pints,pstr,pbool,pbox,pvecs,pentry,pentries,psum,psumL,pschema,pshells,pstrs,pfld,pfldL,pdefL,PV.ownB,pvecs,pentries]) (by rw [Tryz.ntmps16];simp) ?_
 rw [Tryz.ntmps16,Tryz.results16]
 unfold refOf
 by_cases e0:checkE s=0
 rotate_left
 ·rw [if_pos (.inl e0)]
  clear c1
  refine wk ?_
  exact retP (r:=.agg (zNil ++ [pint 1])) rfl (lowB 1) (bad 1)
 rw [e0] at c0
 cases e1:pivS s pv with
 |false=>
  rw [e1] at c1
  have hw:checkE s≠0∨8 < pv.length∨pv.any (wrongV s)=true:=.inr (Classical.not_not.1 fun h=>by rw [hpiv.2 h] at e1;cases e1)
  rw [if_pos hw]
  refine wk ?_
  exact retP (r:=.agg (zNil ++ [pint 1])) rfl (lowB 1) (bad 1)
 |true=>
 rw [e1] at c1
 have hw:=hpiv.1 e1
 rw [if_neg (by simp only [not_or,e0,ne_eq,Classical.not_not,true_and];exact not_or.1 hw)]
 refine wk ?_
 clear c0 c1
 refine PW.loop (fun k:Nat=>(bot.setb 0 (schCellsP s) |>.setb 1 (zNil ++ [pint 0]) |>.put 1 (pvecs pv) |>.put 2 (pentries l) |>.put 3 (.ptr 0 0) |>.put 6 (.ptr 1 0) |>.put 7 (pint k))) (fun k=>k≤l.length∧∀j,j < k→entryE s (l.getD j default)=0) (fun k=>l.length - k) 0 ⟨by omega,by simp⟩ ?_ ?_
 ·exact sb
 rintro k ⟨hk,ha⟩
 by_cases hlt:k < l.length
 ·obtain ⟨q1,q2⟩:=h4 _ (getD_mem hlt)
  have c2:=pcRefEntry s (l.getD k default) hs q1 q2
  have hle:=low_entCells (l.getD k default)
  by_cases e2:entryE s (l.getD k default)=0
  ·rw [e2] at c2
   refine wk ?_
   refine loopP (k+1) ⟨by omega,fun j hj=>?_⟩ (by omega) ?_
   ·rcases Nat.lt_succ_iff_lt_or_eq.1 hj with h|h
    ·exact ha j h
    ·rw [h];exact e2
   ·exact sb
  ·rw [if_pos (.inl (List.any_eq_true.2 ⟨_,getD_mem hlt,by simpa using e2⟩))]
   refine wk ?_
   exact retP (r:=.agg (zNil ++ [pint 3])) rfl (lowB 3) (bad 3)
 have hE:∀e∈l,entryE s e=0:=fun e he=>by
  obtain ⟨q,hq,rfl⟩:=List.getElem_of_mem he
  have:=ha q (by omega)
  rwa [getD_atW hq] at this
 clear ha
 by_cases e3:l.length=0
 ·rw [if_pos (.inr e3)]
  refine wk ?_
  exact retP (r:=.agg (zNil ++ [pint 3])) rfl (lowB 3) (bad 3)
 rw [if_neg (by simp only [not_or,e3,not_false_iff,and_true];intro h;obtain ⟨e,he,hq⟩:=List.any_eq_true.1 h;simp [hE e he] at hq)]
 rw [if_neg (show ¬4096 < l.length by omega)]
 have hS:SumOK s pv l:=sumOK_of e0 (not_or.1 hw).1 (not_or.1 hw).2 hE
 rw [refL_of l (by omega) hS (by omega)]
 have hsgl:∀j,j < l.length→PCalls Tryz.prog 61 [pschema s,pvecs pv,pentry (l.getD j default)] (· = psum (singleP s pv (l.getD j default))):=fun j hj=>by
  obtain ⟨v1,v2⟩:=hS.ent _ (getD_mem hj)
  exact pw_rSingle s pv _ hS.met (by have:=hS.len;omega) (fun k hk=>by
   obtain ⟨p1,p2⟩:=hS.piv _ (getD_mem hk)
   exact ⟨p1,by omega⟩) v1 (h4 _ (getD_mem hj)).2 hs.1
 have c3:=hsgl 0 (by omega)
 have hle:=low_entCells (l.getD 0 default)
 have hly:=low_psumL (singleP s pv (l.getD 0 default))
 refine wk ?_
 clear c3 hle
 refine PW.loop (fun k:Nat=>(bot.setb 0 (schCellsP s) |>.setb 1 (zNil ++ [pint 0]) |>.setb 12006 (psumL (ofL s pv (l.take k))) |>.put 1 (pvecs pv) |>.put 2 (pentries l) |>.put 3 (.ptr 0 0) |>.put 6 (.ptr 1 0) |>.put 8 (.ptr 12006 0) |>.put 9 (pint k))) (fun k=>1≤k∧k≤l.length) (fun k=>l.length - k) 1 ⟨by omega,by omega⟩ ?_ ?_
 ·have e4:ofL s pv (l.take 1)=singleP s pv (l.getD 0 default):=by
   have h:=take_snoc (l:=l) (k:=0) (by omega)
   rw [List.take_zero,List.nil_append] at h
   rw [h,ofL_one (by rw [←h];exact hS.take 1)]
  rw [e4]
  exact sb
 rintro k ⟨hk1,hk⟩
 have hlz:=low_psumL (ofL s pv (l.take k))
 by_cases hlt2:k < l.length
 ·have hlen:(l.take k).length=k:=by rw [List.length_take];omega
  have hsk:=take_snoc hlt2
  have hSk:=hS.take k
  have hS1:SumOK s pv (l.take k ++ [l.getD k default]):=by rw [←hsk];exact hS.take (k+1)
  have hSe:SumOK s pv [l.getD k default]:=⟨hS.met,hS.len,hS.piv,fun e he=>by simp only [List.mem_cons,List.not_mem_nil,or_false] at he;subst he;exact hS.ent _ (getD_mem hlt2)⟩
  have hAk:FitL (l.take k):=fun e he=>hA e (List.mem_of_mem_take he)
  have hAe:FitL [l.getD k default]:=fun e he=>by simp only [List.mem_cons,List.not_mem_nil,or_false] at he;subst he;exact hA _ (getD_mem hlt2)
  obtain ⟨s1,s2,s3⟩:=of_small hSk (by omega) (by omega) hs hAk
  obtain ⟨y1,y2,y3⟩:=of_small hSe (by simp) (by simp) hs hAe
  have d1:=(of_len hSk (by omega) (by omega)).1
  have d2:=(of_len hSe (by simp) (by simp)).1
  rw [ofL_one hSe] at y1 y2 y3 d2
  have c3:=hsgl k hlt2
  have c4:=pw_rJoin s (ofL s pv (l.take k)) (singleP s pv (l.getD k default)) s1 y1 s2 y2 s3 y3 (by have:=hs.1;omega) (by omega) (by omega)
  rw [join_of hS1 (by omega) (by omega),←hsk] at c4
  clear s1 s2 s3 y1 y2 y3 d1 d2
  have hle:=low_entCells (l.getD k default)
  have hlz2:=low_psumL (ofL s pv (l.take (k+1)))
  have hly:=low_psumL (singleP s pv (l.getD k default))
  unfold psum at c3 c4
  refine wk ?_
  refine loopP (k+1) ⟨by omega,by omega⟩ (by omega) ?_
  exact sb
 have hkk:k=l.length:=by omega
 subst hkk
 rw [List.take_length] at hlz ⊢
 refine wk ?_
 refine retP (r:=.agg (psumL (ofL s pv l) ++ [pint 0])) rfl (.agg _ ?_) (Weak.refl _)
 intro c hc
 rcases List.mem_append.1 hc with h|h
 ·exact hlz c h
 ·simp only [List.mem_cons,List.not_mem_nil,or_false] at h;subst h;exact .val _
end Go.Proofs.YtoamkpgaaanafaaGreat

/- The specification's Obeys. -/
namespace Go.Proofs.YtoamkpgaaanafaaGreat
set_option linter.unusedSimpArgs false
set_option linter.unusedVariables false
set_option linter.unnecessarySimpa false
open Go.RowKit
def badO (f one:PField) (count:Int):Bool:=(decide (one.has=0) && decide (f.has=count)) || (decide (one.has=1) && (decide (f.has=0) || !betB one f))
def obeysR (s:PSchema) (pv:List (List Int)) (z:PSum) (e:PEntry):Bool:=
 decide (entryE s e=0) && (boxHas z.box e.vec && (decide (z.shells.length=pv.length) && ((List.range z.shells.length).all (obeyK s pv z e) && (withinB e.frm z.fromLo z.fromHi && (decide (e.to≤z.toHi) && (withinB e.born z.bornLo z.bornHi &&
  (List.range z.fields.length).all fun k => !badO (z.fields.getD k default) (fldOne (s.defs.getD k default) e) z.count))))))
set_option maxRecDepth 10000 in
set_option maxHeartbeats 16000000 in
theorem pw_rObeys (s:PSchema) (pv:List (List Int)) (z:PSum) (e:PEntry) (hz:SmallZ z) (hs:SmallS s) (hv:e.vec.length≤1000000) (ha:e.attrs.length≤1000000) (hw:∀a∈e.attrs,Fit64 a.n∧a.s.size≤1000) (hm:keyB s.metric=true)
  (h1:pv.length≤1000) (hp:∀k,k < pv.length→vecB (pv.getD k default)=true∧((pv.getD k default).length:Int)=s.dims) (he:entryE s e=0→vecB e.vec=true∧(e.vec.length:Int)=s.dims) (hf:z.fields.length=s.defs.length) :
  PCalls Tryz.prog 23 [pschema s,pvecs pv,psum z,pentry e] (· = pbool (obeysR s pv z e)):=by
 obtain ⟨z1,z2,z3,z4,z5⟩:=hz
 have h0:s.defs.length≤1000:=hs.1
 have c1:=pcRefEntry s e hs hv ha
 have c2:=pw_r6Has z.box e.vec (by omega) (by omega) (by omega)
 have hlz:=low_psumL z
 have hls:=low_schCells s
 have hle:=low_entCells e
 have hlp:Low (pvecs pv):=(low_pvecs pv).2 trivial
 have f:∀v,obeysR s pv z e=v→pbool v=pbool (obeysR s pv z e):=fun v h=>by rw [h]
 refine pcalls_of_pw typeTab_ok Tryz.func23 rfl (by kernel_rfl) (by simp [low_pint,low_pints,low_pstr,low_pbool,low_pbox,low_pvecs,low_pentry,low_pentries,low_psum,low_pschema,low_pshells,low_pstrs,low_pfld,low_pdef]) (by simp [pint,pints,pstr,pbool,pbox,pvecs,pentry,pentries,psum,psumL,pschema,pshells,pstrs,pfld,pfldL,pdefL,PV.ownB]) (by rw [Tryz.ntmps23];simp) ?_
 rw [Tryz.ntmps23,Tryz.results23]
 unfold pbox pboxL at c2
 by_cases e0:entryE s e=0
 rotate_left
 ·refine wk ?_
  exact retP rfl (by exact lw) (f _ (by simp only [obeysR,decide_eq_false e0,Bool.false_and]))
 obtain ⟨v1,v2⟩:=he e0
 have c3:=pw_rSingle s pv e hm h1 (fun k hk=>by obtain ⟨p1,p2⟩:=hp k hk;exact ⟨p1,by omega⟩) v1 ha hs.1
 have hy1:(singleP s pv e).shells.length=pv.length:=by simp [singleP]
 have hy2:∀k,k < pv.length→((singleP s pv e).shells.getD k default).lo=keyV s.metric (pv.getD k default) e.vec:=fun k hk=>by
  simp only [singleP]
  rw [map_getD _ hk]
 have hy3:(singleP s pv e).fields.length=s.defs.length:=by simp [singleP]
 have hy4:∀k,k < s.defs.length→(singleP s pv e).fields.getD k default=fldOne (s.defs.getD k default) e:=fun k hk=>by
  simp only [singleP]
  rw [map_getD _ hk]
 have hy5:∀k,FP 1000 1 (fldOne (s.defs.getD k default) e):=fun k=>fldOne_fp _ hw
 generalize singleP s pv e=y at *
 have hly:=low_psumL y
 cases e1:boxHas z.box e.vec with
 |false=>
  rw [e1] at c2
  refine wk ?_
  exact retP rfl (by exact lw) (f _ (by simp only [obeysR,e1,Bool.false_and,Bool.and_false]))
 |true=>
 rw [e1] at c2
 by_cases e2:z.shells.length=pv.length
 rotate_left
 ·refine wk ?_
  exact retP rfl (by exact lw) (f _ (by simp only [obeysR,decide_eq_false e2,Bool.false_and,Bool.and_false]))
 refine wk ?_
 clear c1 c2 c3
 refine PW.loop (fun k:Nat=>(bot.setb 1 (psumL z) |>.setb 2 (entCellsP e) |>.setb 3004 (psumL y) |>.put 6 (.ptr 1 0) |>.put 7 (.ptr 2 0) |>.put 9 (.ptr 3004 0) |>.put 10 (pint k))) (fun k=>k≤z.shells.length∧∀j,j < k→obeyK s pv z e j=true) (fun k=>z.shells.length - k) 0 ⟨by omega,by simp⟩ ?_ ?_
 ·exact sb
 rintro k ⟨hk,hall⟩
 by_cases hlt:k < z.shells.length
 ·have hyk:=hy2 k (by omega)
  have hbad:(decide ((z.shells.getD k default).lo≤(y.shells.getD k default).lo) && decide ((y.shells.getD k default).lo≤(z.shells.getD k default).hi))=false→(List.range z.shells.length).all (obeyK s pv z e)=false:=fun h=>by
   rw [List.all_eq_false]
   refine ⟨k,by simp [hlt],?_⟩
   rw [obeyK,withinB,←hyk,h];decide
  by_cases g1:(z.shells.getD k default).lo≤(y.shells.getD k default).lo
  ·by_cases g2:(y.shells.getD k default).lo≤(z.shells.getD k default).hi
   ·refine wk ?_
    refine loopP (k+1) ⟨by omega,fun j hj=>?_⟩ (by omega) ?_
    ·rcases Nat.lt_succ_iff_lt_or_eq.1 hj with h|h
     ·exact hall j h
     ·rw [h,obeyK,withinB,←hyk];simp only [g1,g2,decide_true,Bool.and_self]
    ·exact sb
   ·have hb:=hbad (by simp only [decide_eq_false g2,Bool.and_false])
    refine wk ?_
    exact retP rfl (by exact lw) (f _ (by simp only [obeysR,hb,Bool.false_and,Bool.and_false]))
  ·have hb:=hbad (by simp only [decide_eq_false g1,Bool.false_and])
   refine wk ?_
   exact retP rfl (by exact lw) (f _ (by simp only [obeysR,hb,Bool.false_and,Bool.and_false]))
 have e3:(List.range z.shells.length).all (obeyK s pv z e)=true:=by
  rw [List.all_eq_true];intro j hj;exact hall j (by simp at hj;omega)
 clear hall
 by_cases e4:z.fromLo≤e.frm
 rotate_left
 ·refine wk ?_
  exact retP rfl (by exact lw) (f _ (by simp only [obeysR,withinB,decide_eq_false e4,Bool.false_and,Bool.and_false]))
 by_cases e5:e.frm≤z.fromHi
 rotate_left
 ·refine wk ?_
  exact retP rfl (by exact lw) (f _ (by simp only [obeysR,withinB,decide_eq_false e5,Bool.false_and,Bool.and_false]))
 by_cases e6:e.to≤z.toHi
 rotate_left
 ·refine wk ?_
  exact retP rfl (by exact lw) (f _ (by simp only [obeysR,decide_eq_false e6,Bool.false_and,Bool.and_false]))
 by_cases e7:z.bornLo≤e.born
 rotate_left
 ·refine wk ?_
  exact retP rfl (by exact lw) (f _ (by simp only [obeysR,withinB,decide_eq_false e7,Bool.false_and,Bool.and_false]))
 by_cases e8:e.born≤z.bornHi
 rotate_left
 ·refine wk ?_
  exact retP rfl (by exact lw) (f _ (by simp only [obeysR,withinB,decide_eq_false e8,Bool.false_and,Bool.and_false]))
 have hR:obeysR s pv z e=(List.range z.fields.length).all fun k => !badO (z.fields.getD k default) (fldOne (s.defs.getD k default) e) z.count:=by
  rw [obeysR,decide_eq_true e0,e1,decide_eq_true e2,e3,withinB,decide_eq_true e4,decide_eq_true e5,decide_eq_true e6,withinB,decide_eq_true e7,decide_eq_true e8];rfl
 refine wk ?_
 refine PW.loop (fun k:Nat=>(bot.setb 1 (psumL z) |>.setb 3004 (psumL y) |>.put 6 (.ptr 1 0) |>.put 9 (.ptr 3004 0) |>.put 12 (pint k))) (fun k=>k≤z.fields.length∧∀j,j < k→badO (z.fields.getD j default) (fldOne (s.defs.getD j default) e) z.count=false) (fun k=>z.fields.length - k) 0 ⟨by omega,by simp⟩ ?_ ?_
 ·exact sb
 rintro j ⟨hj,hbf⟩
 by_cases hlj:j < z.fields.length
 ·have hyj:=hy4 j (by omega)
  have hyw:=(hy5 j).len
  rw [←hyj] at hyw
  have cbt:=pw_rBetween (y.fields.getD j default) (z.fields.getD j default) (by omega) (z5 j)
  have lx:=low_pfldL (z.fields.getD j default)
  have ly:=low_pfldL (y.fields.getD j default)
  have hbad:badO (z.fields.getD j default) (y.fields.getD j default) z.count=true→obeysR s pv z e=false:=fun h=>by
   rw [hyj] at h
   rw [hR,List.all_eq_false];exact ⟨j,by simp [hlj],by rw [h];decide⟩
  have hgood:badO (z.fields.getD j default) (y.fields.getD j default) z.count=false→∀i,i < j+1→badO (z.fields.getD i default) (fldOne (s.defs.getD i default) e) z.count=false:=fun h i hi=>by
   rcases Nat.lt_succ_iff_lt_or_eq.1 hi with h2|h2
   ·exact hbf i h2
   ·rw [h2,←hyj];exact h
  unfold pfld at cbt
  by_cases q1:(y.fields.getD j default).has=0
  ·by_cases q2:(z.fields.getD j default).has=z.count
   ·refine wk ?_
    exact retP rfl (by exact lw) (f _ (hbad (by rw [badO,decide_eq_true q1,decide_eq_true q2];rfl)))
   ·refine wk ?_
    refine loopP (j+1) ⟨by omega,hgood (by rw [badO,decide_eq_false q2,Bool.and_false,decide_eq_false (by omega)];rfl)⟩ (by omega) ?_
    exact sb
  by_cases q3:(y.fields.getD j default).has=1
  ·by_cases q4:(z.fields.getD j default).has=0
   ·refine wk ?_
    exact retP rfl (by exact lw) (f _ (hbad (by rw [badO,decide_eq_true q3,decide_eq_true q4];simp)))
   ·cases q5:betB (y.fields.getD j default) (z.fields.getD j default) with
    |false=>
     rw [q5] at cbt
     refine wk ?_
     exact retP rfl (by exact lw) (f _ (hbad (by rw [badO,decide_eq_true q3,q5];simp)))
    |true=>
     rw [q5] at cbt
     refine wk ?_
     refine loopP (j+1) ⟨by omega,hgood (by rw [badO,decide_eq_false q1,decide_eq_false q4,q5];simp)⟩ (by omega) ?_
     exact sb
  ·clear cbt
   refine wk ?_
   refine loopP (j+1) ⟨by omega,hgood (by rw [badO,decide_eq_false q1,decide_eq_false q3];rfl)⟩ (by omega) ?_
   exact sb
 ·refine wk ?_
  refine retP rfl (by exact lw) (f _ ?_)
  rw [hR,List.all_eq_true]
  intro i hi
  rw [hbf i (by simp at hi;omega)];rfl
/- It answers as zone.Obeys. -/
theorem getA_found {l:List PAttr} {nm:ByteArray} (h:(getA l nm).2=true):(getA l nm).1∈l∧eqB (getA l nm).1.name nm=true:=by
 induction l with
 |nil=>simp [getA] at h
 |cons a r ih=>
  unfold getA at h ⊢
  split
  ·rename_i q;exact ⟨by simp,q⟩
  ·rename_i q
   rw [if_neg q] at h
   exact ⟨by simp [(ih h).1],(ih h).2⟩
theorem found_value {s:PSchema} {e:PEntry} {k:Nat} {d:PDef} (hc:checkE s=0) (he:entryE s e=0) (hd:s.defs[k]? = some d) (hf:(getA e.attrs d.name).2=true):valueE d (getA e.attrs d.name).1=0:=by
 obtain ⟨m,hn⟩:=getA_found hf
 generalize (getA e.attrs d.name).1=a at *
 have hA:entryA s e=0:=by rw [entryA_E hc];exact he
 unfold entryA at hA
 split at hA
 ·rename_i h1;exact absurd hA h1
 ·obtain ⟨-,h2,h3⟩:=((fits_iff _ _).1 hA).1 a m
  have hn2:a.name=d.name:=toList_inj (by simpa [eqB] using hn)
  rw [hn2,findI_at (checkE_ok hc) hd,Int.toNat_natCast,hd] at h3
  exact h3
theorem bad_obeyF {d:PDef} {f:PField} {count:Int} {e:PEntry} (hk:d.kind=1∨d.kind=2) (hf:fieldB d f count=true) (hn:d.kind=2→(getA e.attrs d.name).2=true→(getA e.attrs d.name).1.n=0):badO f (fldOne d e) count = !obeyF d f count e:=by
 unfold badO obeyF fldOne
 cases q:(getA e.attrs d.name).2 with
 |false=>simp
 |true=>
  by_cases h0:f.has=0
  ·simp [h0]
  ·rcases hk with k1|k2
   ·simp [betB,withinB,k1,h0]
   ·obtain ⟨fo,-,hz⟩:=fieldB_ok hf
    have:=fo.has
    obtain ⟨l,h⟩:=hz (by omega) (by omega)
    simp [betB,k2,h0,hn k2 q,l,h]
theorem obeysR_eq {s:PSchema} {pv:List (List Int)} {z:PSum} {e:PEntry} {n:Int} (hc:checkE s=0) (hz:SumV s n z):obeysR s pv z e=obeysZ s pv z e:=by
 unfold obeysR obeysZ
 rw [entryA_E hc]
 by_cases h0:entryE s e=0
 ·by_cases h1:z.shells.length=pv.length
  ·rw [h1,hz.len]
   congr 7
   rw [Bool.eq_iff_iff,List.all_eq_true,List.all_eq_true]
   refine forall_congr' fun k=>forall_congr' fun hk=>?_
   have hk' : k < s.defs.length:=by simpa using hk
   rw [bad_obeyF ((checkE_ok hc).one _ (getD_mem hk')).2.1 (hz.field k hk') fun k2 hf=>?_]
   ·simp
   ·have hv:=found_value hc h0 (k:=k) (by rw [List.getElem?_eq_getElem hk',getD_atW hk']) hf
    unfold valueE at hv
    split at hv
    ·simp at hv
    ·rename_i q1
     rw [if_neg (by omega)] at hv
     split at hv
     ·simp at hv
     ·rename_i q2;simpa using q2
  ·simp only [decide_eq_false h1,Bool.false_and,Bool.and_false]
 ·simp only [decide_eq_false h0,Bool.false_and]
end Go.Proofs.YtoamkpgaaanafaaGreat
