/- Out of: Aa0, Base, BitOps, PlainW, Wire, Row, Base3, Base4, Glob, PwA, PwB, PwC, PwD, PwE, PwF, PwF2, PwG, PwH, PwR, PwI, PlainX, StrA. -/
import Derived.Test.YtmciloafahkolaaGreatDoorProg
import Derived.KernelRfl
import Derived.Test.YtmciloafahkolaaGreatDoorRows
import Derived.WalkKit
import Derived.WalkSpells
import Derived.WalkLawsBesides
import Derived.Deep.QuietTactic
import Derived.BigQuiet
import Derived.RegionTactic
import Derived.ProofKit
import Derived.OpenShut
import Derived.SizedLaws
import Derived.Lib.AppendZeros
import Derived.Lib.AppendStr
import Derived.Lib.Hide
import Derived.OrdersIn
import Derived.Laws.BytesString
import Derived.WideLaws
namespace Go.Proofs.YtmciloafahkolaaGreatDoor
set_option maxRecDepth 100000
set_option maxHeartbeats 40000000
set_option linter.unusedSimpArgs false
set_option linter.unusedVariables false
set_option linter.unnecessarySimpa false
section
theorem O_ {p:Prop} (h:p:=by omega):p:=h
theorem D_ {p:Prop} (h:p:=by decide):p:=h
theorem S_ {p:Prop} (h:p:=by simp):p:=h
theorem K_ {p:Prop} (h:p:=by kernel_rfl):p:=h
theorem N_ {a b:Nat} (h:Nat.ble a b = true:=by exact rfl):a≤b:=Nat.le_of_ble_eq_true h
theorem G_ {α:Type _} {l:List α} {i:Nat} {a:α}:l.getD i a = l[i]?.getD a:=List.getD_eq_getElem?_getD
theorem T_ {α:Type _} {i:Nat} {l:List α}:(List.take i l).length = min i l.length:=List.length_take
theorem A_ {α:Type _} {l m:List α}:(l ++ m).length = l.length+m.length:=List.length_append
theorem E_ {α:Type _} {l:List α} {i:Nat} (h:i < l.length):l[i]? = some l[i]:=List.getElem?_eq_getElem h
theorem L_ {α:Type _} {i:Nat} {l:List α}:(List.drop i l).length = l.length - i:=List.length_drop
theorem C_ {α:Type _} {a:α} {l:List α}:(a::l).length = l.length+1:=rfl
theorem H_ {α:Type _} {i:Nat} {l:List α}:l.length≤i→List.take i l = l:=List.take_of_length_le
theorem M_ {α:Type _} {β:Type _} {f:α→β} {l:List α} {i:Nat}:(List.map f l)[i]? = Option.map f l[i]?:=List.getElem?_map
end
section
open Go.RowKit
def Rd (w:World) (v:Value) (cs:List Value):Prop:=
 ∃a cap b off,v = .slice a cs.length cap∧cs.length≤cap∧cap≤maxLen∧(0 < cs.length→a=some ⟨b,off,none⟩) ∧
  ∀j u,cs[j]? = some u→w.cell? ⟨b,off+j,none⟩=some u
def Ints (w:World) (v:Value) (zs:List Int):Prop:=Rd w v (zs.map (Value.int .i64))
theorem Rd.below {w w' : World} {v:Value} {cs:List Value} (h:Rd w v cs) (hb:Below w.heap.size w w'):Rd w' v cs:=by
 obtain ⟨a,cap,b,off,h1,h2,h3,h4,h5⟩:=h
 refine ⟨a,cap,b,off,h1,h2,h3,h4,fun j u hu=>?_⟩
 have:=h5 j u hu
 rw [←this]
 exact hb.cell (World.block_lt_of_cell? _ _ this)
theorem Ints.open {w:World} {v:Value} {zs:List Int} (h:Ints w v zs):∃a cap b off,v = .slice a zs.length cap∧zs.length≤cap∧cap≤maxLen ∧
  (0 < zs.length→a=some ⟨b,off,none⟩)∧Hid (∀j x,zs[j]? = some x→w.cell? ⟨b,off+j,none⟩=some (.int .i64 x)):=by
 obtain ⟨a,cap,b,off,h1,h2,h3,h4,h5⟩:=h
 simp only [List.length_map] at h1 h2 h4
 exact ⟨a,cap,b,off,h1,h2,h3,h4,fun j x hx=>h5 j _ (by simp [hx])⟩
def Own (B:Nat) (E:TypeId) (w:World) (v:Value) (cs:List Value):Prop:=w.ownsRow B E 1 v cs.length cs
theorem Own.nil (B E w):Own B E w (.slice none 0 0) []:=World.ownsRow_nil w B E 1
theorem Own.rd {B E:Nat} {w:World} {v:Value} {cs:List Value} (h:Own B E w v cs):Rd w v cs:=by
 rcases h.2 with ⟨rfl,hn⟩|⟨g,cap,cur,rfl,hb,hgg,hc,hm,hs,ht⟩
 ·exact ⟨none,0,0,0,by rw [hn],O_,by unfold maxLen;omega,fun hh=>by omega,fun j u hu=>by
   have:cs = []:=List.eq_nil_of_length_eq_zero hn
   subst this;simp at hu⟩
 ·refine ⟨_,cap,g,0,rfl,hc,hm,fun _=>rfl,fun j u hu=>?_⟩
  have:=World.ownsRow.cells h (g:=g) rfl j u hu
  rw [←this];unfold Addr.add;split<;>simp_all
theorem Own.kept {B E:Nat} {w w' : World} {v:Value} {cs:List Value} (h:Own B E w v cs) (hb:Below w.heap.size w w'):Own B E w' v cs:=by
 refine ⟨h.1,?_⟩
 rcases h.2 with hn|⟨g,cap,cur,rfl,hb1,hgg,rest⟩
 ·exact .inl hn
 ·exact .inr ⟨g,cap,cur,rfl,hb1,by rw [hb.block g (Array.getElem?_eq_some_iff.1 hgg).1];exact hgg,rest⟩
theorem Own.alloc {B E:Nat} {w:World} {v:Value} {cs:List Value} (h:Own B E w v cs) (o:Obj):Own B E (w.alloc o) v cs:=World.ownsRow.alloc h o
theorem Own.drewN {B E:Nat} {w:World} {v:Value} {cs:List Value} (h:Own B E w v cs) {n:Nat} : Own B E (w.drewN n) v cs:=h
theorem Own.drew {B E:Nat} {w:World} {v:Value} {cs:List Value} (h:Own B E w v cs):Own B E w.drew v cs:=h
structure Xju (P:Program) (E:TypeId) (z:Value) (bytes:Nat):Prop where
 info:(P.info? E).map (fun i=>(i.zero,i.size,i.bytes))=some (some z,1,bytes)
 one:z.cells = #[z]
theorem Xrx {P:Program} {ops:Array Oper} {rest:List Oper} {o:Oper} {a:Act} {Q:Exit→Act→World→Prop} {w0:World} (s x:Operand) (t T E bytes:TypeId) (z:Value) (he:Xju P E z bytes)
  (hgd:o.guard=none) (ho:o.op = .call { callee:=.builtin .append,args := #[s,x],argTypes := #[t,t] })
  (ht:P.underlying t=some (.slice E)) (B:Nat) (v u:Value) (cs:List Value) (hs:a.eval s=v) (hown:Own B E w0 v cs)
  (hx:a.eval x = .slice (some ⟨w0.heap.size,0,none⟩) 1 1) (h1:u.oneCell' = true)
  (h63:cs.length+1≤maxLen) (hbytes:(cs.length+1) * bytes≤140737488355328) (hB:B≤w0.heap.size)
  (h:∀v' w',Own B E w' v' (cs ++ [u])→Below B w0 w'→wpList P ops Q rest (a.put o.dst v') w'):wpList P ops Q (o :: rest) a (w0.alloc (.cells #[u] T)):=by
 obtain ⟨i0,hi,hz0,hz1,hz2⟩:=info_parts he.info
 refine wpList_append_own _ hgd s x t ho B E i0 z 1 bytes ht hi hz0 hz1 hz2 (by rw [he.one];rfl) D_ v cs.length cs hs (World.ownsRow.alloc hown _) ⟨w0.heap.size,0,none⟩ 1 1 [u] hx rfl ?_ ?_ h63 hbytes (by simp;omega) ?_
 ·intro j y hj
  match j,hj with
  |0,hj=>simp at hj;subst hj;simp [Addr.add]
 ·intro y hy;simp at hy;subst hy;exact h1
 ·intro v' w' hown' hg _
  refine h v' w' (by simpa [Own] using hown') ?_
  exact ((Below.refl _ _).alloc hB _).grown hg (by simp;omega) (fun k hk=>(World.ownsRow.lt hown k hk).1)
theorem Own.lit (w:World) (cs:List Value) (E B:Nat) (hB:B≤w.heap.size) (hm:cs.length≤maxLen) :
  Own B E (w.alloc (.cells cs.toArray E)) (.slice (some ⟨w.heap.size,0,none⟩) cs.length cs.length) cs:=
 ⟨S_, .inr ⟨w.heap.size,cs.length,cs.toArray,rfl,hB,heap_alloc_new w _,Nat.le_refl _,hm,S_,S_⟩⟩
def Y3c (E:TypeId) (w:World) (cs:List Value) (e:Ending) (w' : World):Prop:=
 ∃v,e = .returned v∧Own w.heap.size E w' v cs∧Below w.heap.size w w'
theorem Xz {w w' : World} {p:Addr} {v:Value} (h:Below w.heap.size w w') (hc:w.cell? p=some v):w'.cell? p=some v:=
 (h.cell (World.block_lt_of_cell? _ _ hc)).trans hc
theorem Own.block {B E:Nat} {w:World} {v:Value} {cs:List Value} (h:Own B E w v cs) (hne:0 < cs.length):∃g cap,v = .slice (some ⟨g,0,none⟩) cs.length cap∧B≤g∧g < w.heap.size ∧
  Hid (∀(j:Nat) (u:Value),cs[j]? = some u→w.cell? ⟨g,j,none⟩=some u)∧Hid (∀j:Nat,w.frozen? ⟨g,j,none⟩=false) ∧
  Hid (∀(j:Nat) (u:Value),Own B E (w.setCell ⟨g,j,none⟩ u) (.slice (some ⟨g,0,none⟩) cs.length cap) (cs.set j u)):=by
 rcases h.2 with ⟨rfl,hn⟩|⟨g,cap,cur,rfl,hb,hgg,hc,hm,hs,ht⟩
 ·omega
 ·refine ⟨g,cap,rfl,hb,(Array.getElem?_eq_some_iff.1 hgg).1,?_,?_,?_⟩
  ·intro j u hu
   have:=World.ownsRow.cells h (g:=g) rfl j u hu
   rw [←this];unfold Addr.add;split<;>simp_all
  ·intro j;simp [World.frozen?,hgg]
  ·intro j u
   refine ⟨S_, .inr ⟨g,cap,cur.setIfInBounds j u,S_,hb,?_,by simpa using hc,hm,by simpa using hs,?_⟩⟩
   ·simp [World.setCell,Array.getElem?_modify,hgg]
   ·simp only [List.length_set,Nat.mul_one] at ht ⊢
    rw [Array.toList_setIfInBounds,List.take_set,ht]
theorem Hid.mk {p:Prop} (h:p):Hid p:=h
def X9f (w w' : World):Prop:=∃n,w' = w.drewN n
theorem X9f.refl (w:World):X9f w w:=⟨0,rfl⟩
theorem X9f.one (w:World) (n:Nat):X9f w (w.drewN n):=⟨n,rfl⟩
theorem X9f.two (w:World) (n m:Nat):X9f w ((w.drewN n).drewN m):=⟨_,World.drewN_drewN _ _ _⟩
theorem X9f.below {w w' : World} (h:X9f w w') (B:Nat):Below B w w':=by
 obtain ⟨n,rfl⟩:=h
 exact ⟨rfl,rfl,rfl,Nat.le_refl _,fun _ _=>rfl⟩
end
section
theorem Xtz (x:Int) (h0:0≤x) (h1:x < 18446744073709551616):bits .xor .u64 x 0=x:=by
 obtain ⟨a,rfl⟩:∃a:Nat,x=a:=⟨x.toNat,O_⟩
 have:=bits_xor_u64_nat a 0 O_ O_
 simpa using this
theorem Xi8 (x:Int) (h0:0≤x) (h1:x < 18446744073709551616):bits .xor .u64 x 18446744073709551615=18446744073709551615 - x:=by
 obtain ⟨a,rfl⟩:∃a:Nat,x=a:=⟨x.toNat,O_⟩
 have e:(BitVec.ofInt IntKind.u64.bits 18446744073709551615:BitVec IntKind.u64.bits)=BitVec.allOnes 64:=rfl
 have e2:((BitVec.ofInt IntKind.u64.bits (a:Int):BitVec IntKind.u64.bits) ^^^ BitVec.ofInt IntKind.u64.bits 18446744073709551615).toNat=18446744073709551615 - a:=by
  rw [e]
  show ((BitVec.ofInt 64 (a:Int)) ^^^ BitVec.allOnes 64).toNat=_
  rw [BitVec.xor_allOnes,BitVec.toNat_not,BitVec.toNat_ofInt]
  omega
 show IntKind.u64.wrap _=_
 simp only []
 rw [e2,IntKind.wrap_u64]
 omega
theorem Xt6 (q:Int) (h0:0≤q):bits .or .u8 (q % 256) 128=q % 128+128:=by
 obtain ⟨a,rfl⟩:∃a:Nat,q=a:=⟨q.toNat,O_⟩
 have h:=(bits_nat .u8 8 D_ wraps_u8 (a % 256) 128 O_ O_).2
 have e:(a % 256 ||| 128:Nat)=a % 128+128:=by
  have key:∀x:Fin 256,(x.val ||| 128:Nat)=x.val % 128+128:=by decide +kernel
  have:=key ⟨a % 256,O_⟩
  simp only at this
  rw [this];omega
 rw [e] at h
 have c1:((a % 256:Nat):Int)=(a:Int) % 256:=O_
 have c2:((128:Nat):Int)=128:=rfl
 rw [c1,c2] at h
 rw [h];omega
def zig (n:Int):Nat:=if 0≤n then (2 * n).toNat else (-2 * n - 1).toNat
theorem Xra (n:Int) (h1 : -9223372036854775808≤n) (h2:n≤9223372036854775807):zig n < 18446744073709551616:=by unfold zig;split<;>omega
def leb (z:Nat):List Int:=if z < 128 then [(z:Int)] else ((z % 128+128:Nat):Int) :: leb (z / 128)
decreasing_by omega
theorem X3t (z:Nat) (h:z < 128):leb z = [(z:Int)]:=by rw [leb,if_pos h]
theorem Xc0 (z:Nat) (h:128≤z):leb z=((z % 128+128:Nat):Int) :: leb (z / 128):=by rw [leb,if_neg O_]
theorem Xfd (z:Nat):1≤(leb z).length:=by rw [leb];split<;>simp
theorem Y1z (k:Nat):∀z,z < 128 ^ (k+1)→(leb z).length≤k+1:=by
 induction k with
 |zero=>intro z h;rw [X3t z (by simpa using h)];simp
 |succ k ih=>
  intro z h
  by_cases g:z < 128
  ·rw [X3t z g];simp
  ·rw [Xc0 z O_]
   have:=ih (z / 128) (by rw [Nat.pow_succ] at h;exact Nat.div_lt_of_lt_mul O_)
   simp;omega
def intB (n:Int):List Int:=leb (zig n)
theorem Y82 (z:Nat) (h:z < 18446744073709551616):(leb z).length≤10:=Y1z 9 z (by have:128 ^ (9+1)=1180591620717411303424:=rfl;omega)
end
section
open Go.RowKit
theorem Xhd:Xju Tryz.prog 5 (.int .u8 0) 1:=⟨K_,rfl⟩
def Xj8 (w:World) (bs:List Int) (e:Ending) (w' : World):Prop:=
 ∃v,e = .returned v∧Own w.heap.size 5 w' v (bs.map (Value.int .u8))∧Below w.heap.size w w'
def X7g (w:World) (v:Value) (bs:List Int):Prop:=Rd w v (bs.map (Value.int .u8))
theorem X7g.open {w:World} {v:Value} {zs:List Int} (h:X7g w v zs):∃a cap b off,v = .slice a zs.length cap∧zs.length≤cap∧cap≤maxLen ∧
  (0 < zs.length→a=some ⟨b,off,none⟩)∧Hid (∀(j:Nat) (x:Int),zs[j]? = some x→w.cell? ⟨b,off+j,none⟩=some (.int .u8 x)):=by
 obtain ⟨a,cap,b,off,h1,h2,h3,h4,h5⟩:=h
 simp only [List.length_map] at h1 h2 h4
 exact ⟨a,cap,b,off,h1,h2,h3,h4,fun j x hx=>h5 j _ (by simp [hx])⟩
def Byte (bs:List Int):Prop:=∀(k:Nat) (c:Int),bs[k]? = some c→0≤c∧c < 256
theorem Xzn (n:Int) (h1 : -9223372036854775808≤n) (h2:n≤9223372036854775807) :
  bits BinOp.xor IntKind.u64 (IntKind.u64.wrap (IntKind.u64.wrap n * 2)) (IntKind.u64.wrap (n / 9223372036854775808))=zig n:=by
 simp only [IntKind.wrap_u64]
 by_cases h:0≤n
 ·have e:n / 9223372036854775808 % 18446744073709551616=0:=O_
  rw [e,Xtz _ O_ O_];unfold zig;rw [if_pos h];omega
 ·have e:n / 9223372036854775808 % 18446744073709551616=18446744073709551615:=O_
  rw [e,Xi8 _ O_ O_];unfold zig;rw [if_neg h];omega
theorem Y2m (n:Int) (w:World) (h1 : -9223372036854775808≤n) (h2:n≤9223372036854775807):Calls Tryz.prog 131 #[.int .i64 n] w (Xj8 w (intB n)):=by
 have hz:=Xra n h1 h2
 have hlen:=Y82 _ hz
 go_enter Tryz.func131,Tryz.ntmps131
 go_wp2
 go_loopw [3,4] (fun z o wr=>∃(q:Nat) (out:List Int),q < 18446744073709551616∧z = .int .u64 q∧out.length≤9∧Own w.heap.size 5 wr o (out.map (Value.int .u8))∧Below w.heap.size w wr∧Hid (intB n=out ++ leb q)) (fun z _ _=>(intOf z).toNat)
 case atStart=>exact ⟨zig n,[],hz,by rw [Xzn n h1 h2],S_,Own.nil _ _ _,Below.refl _ _,rfl⟩
 case round=>
  obtain ⟨q,out,hq,rfl,ho,hown,hb,hh⟩:=hrel
  have HB:=Hid.mk hb
  clear hb
  have hb2:=HB.out.size
  by_cases g:127 < q
  ·have H:=Hid.mk (Xc0 q O_)
   have hl:out.length+1≤9:=by
    have e:=congrArg List.length hh.out
    rw [H.out] at e
    have:=Xfd (q / 128)
    simp at e
    unfold intB at e
    omega
   have eor:=Xt6 q O_
   go_wp2_with (at_builtin;refine Xrx (.tmp 16) (.tmp 20) 132 _ 5 1 _ Xhd rfl rfl Tryz.underlying132 w.heap.size _ _ _ rfl hown rfl rfl (by simp [maxLen];omega) (by simp;omega) hb2 ?_;intro v' w' hown' hb')
   go_roundw
   case rel=>exact ⟨q / 128,out ++ [((q % 128+128:Nat):Int)],O_,by go_num,by simpa using hl,by simpa using hown',HB.out.trans hb',by rw [Hid,hh.out,H.out];simp⟩
   case measure=>simp [intOf];omega
  ·have H:=Hid.mk (X3t q O_)
   go_wp2_with (at_builtin;refine Xrx (.tmp 22) (.tmp 25) 132 _ 5 1 _ Xhd rfl rfl Tryz.underlying132 w.heap.size _ _ _ rfl hown rfl rfl (by simp [maxLen];omega) (by simp;omega) hb2 ?_;intro v' w' hown' hb')
   go_ret
   exact ⟨_,rfl,by rw [hh.out,H.out];simpa using hown',HB.out.trans hb'⟩
end
section
open Go.ChangeShapes Go.WideShapes Go.ChangeAt Go.RowKit
theorem own:ownKnob Tryz.prog.godebug=none:=K_
theorem Xt9:laidOutB Tryz.prog=true:=K_
theorem X7o {H:Type} {enc:TypeId×Value→H} {P:Program} (hl:laidOutB P=true) {W W' : World} (hb:Below W.heap.size W W') :
  ∀(ts:List TypeId) (vs:List Value) (ds:List (DataW H)) (ps:List MemPlace),ts.all (fun t=>P.readableRec t && decide (t < P.types.size))=true→DataW.TrodAll enc P W 0 (fun _=>true) true ts vs ds ps →
   (∀x∈ps,x.block < W.heap.size)→DataW.TrodAll enc P W' 0 (fun b=>decide (b < W.heap.size)) true ts vs ds ps
 | [],[],[],ps,_,h,_=>h
 |t :: ts,v :: vs,d :: ds,ps,hr,h,hlt=>by
  obtain ⟨p,q,h1,h2,rfl⟩:=h
  simp only [List.all_cons,Bool.and_eq_true,decide_eq_true_eq] at hr
  exact ⟨p,q,Below.trod hl hr.1.1 hr.1.2 h1 hb (fun x hx=>hlt x (List.mem_append_left _ hx)),X7o hl hb ts vs ds q hr.2 h2 (fun x hx=>hlt x (List.mem_append_right _ hx)),rfl⟩
 | [],[],_ :: _,_,_,h,_=>by simp [DataW.TrodAll] at h
 | [],_ :: _,_,_,_,h,_=>by simp [DataW.TrodAll] at h
 |_ :: _,[],_,_,_,h,_=>by simp [DataW.TrodAll] at h
 |_ :: _,_ :: _,[],_,_,h,_=>by simp [DataW.TrodAll] at h
theorem Xo4 {H:Type} {enc:TypeId×Value→H} {P:Program} (hl:laidOutB P=true) {f:Func} {s:ChangeSpec} {W W' : World} {args:Array Value} {ds:List (DataW H)} {before:List MemPlace} {tb:TypeId}
  (htb:P.underlying tb=some .bool) (hres:f.resultTypes = #[tb]) (hvars:s.vars = []) (hread:f.params.toList.all (fun t=>P.readableRec t && decide (t < P.types.size))=true)
  (hW:DataW.Whole enc P f.params.toList s.vars false W args.toList ds [] before)
  (hr:(s.fn H (ds ++ [])).results = [.lit (.bool true)]) (ha:(s.fn H (ds ++ [])).args=ds) (hv:(s.fn H (ds ++ [])).vars = [])
  (hb:Below W.heap.size W W'):s.post enc P f false true false false W args (.bool true) W':=by
 have hW':=hW
 obtain ⟨p,q,hA,hV,rfl,_,_⟩:=hW
 rw [hvars] at hV
 obtain ⟨_,rfl⟩:=trodVars_none hV
 refine ⟨ds,[],p ++ [],[],p,[],hW',?_,?_,?_,hb.frame _,fun h=>by cases h⟩
 ·rw [hr,hres]
  exact trodAll_cons_mk (shut_bool htb true) trodAll_mk0
 ·rw [ha]
  exact X7o hl hb _ _ _ _ hread hA (fun x hx=>by simpa using hW'.lt x (by simp [hx]))
 ·rw [hv,hvars];rfl
end
section
open Go.RowKit
theorem Xru {P:Program} {ops:Array Oper} {rest:List Oper} {o:Oper} {a:Act} {Q:Exit→Act→World→Prop} {w:World} (s x:Operand) (t E:TypeId) (bytes:Nat) (z:Value) (he:Xju P E z bytes)
  (hgd:o.guard=none) (ho:o.op = .call { callee:=.builtin .append,args := #[s,x],argTypes := #[t,t] })
  (ht:P.underlying t=some (.slice E)) (B:Nat) (v u:Value) (cs cs2:List Value) (hs:a.eval s=v) (hown:Own B E w v cs)
  (hx:a.eval x=u) (hr:Rd w u cs2) (hne:0 < cs2.length) (h1:∀c∈cs2,c.oneCell' = true)
  (h63:cs.length+cs2.length≤maxLen) (hbytes:(cs.length+cs2.length) * bytes≤140737488355328) (hB:B≤w.heap.size)
  (h:∀v' w',Own B E w' v' (cs ++ cs2)→Below B w w'→wpList P ops Q rest (a.put o.dst v') w'):wpList P ops Q (o :: rest) a w:=by
 obtain ⟨i0,hi,hz0,hz1,hz2⟩:=info_parts he.info
 obtain ⟨aa,cap,b,off,rfl,r2,r3,r4,r5⟩:=hr
 have r4':=r4 hne
 subst r4'
 refine wpList_append_own _ hgd s x t ho B E i0 z 1 bytes ht hi hz0 hz1 hz2 (by rw [he.one];rfl) D_ v cs.length cs hs hown ⟨b,off,none⟩ cs2.length cap cs2 hx S_ ?_ h1 h63 hbytes hB ?_
 ·intro j y hj
  rw [Addr.add_lit];exact r5 j y hj
 ·intro v' w' hown' hg _
  refine h v' w' (by simpa [Own] using hown') ?_
  exact (Below.refl _ _).grown hg hB (fun k hk=>(World.ownsRow.lt hown k hk).1)
theorem X7c {P:Program} (w:World) (t ty e:TypeId) (i:TypeInfo) (ht:P.underlying t=some (.slice e)) (hi:P.info? e=some i) (a a2:Option Addr) (n c c2:Nat) (hnc:n≤c) :
  (Builtin.append_ #[t,t] ty #[.slice a n c, .slice a2 0 c2]).run P w = .ok (.slice a n c) w:=by
 cases a<;>cases a2<;>simp [Builtin.append_,run_underlying ht,sizeOf,typeInfo,hi,Builtin.lenOf,hnc,Builtin.firstCells,loadCells,loadCellsFrom,storeCells]
theorem Xp0 {P:Program} {ops:Array Oper} {rest:List Oper} {o:Oper} {a:Act} {Q:Exit→Act→World→Prop} {w:World} (s x:Operand) (t E:TypeId) (i:TypeInfo) (hi:P.info? E=some i)
  (hgd:o.guard=none) (ho:o.op = .call { callee:=.builtin .append,args := #[s,x],argTypes := #[t,t] })
  (ht:P.underlying t=some (.slice E)) (b b2:Option Addr) (n c c2:Nat) (hs:a.eval s = .slice b n c) (hx:a.eval x = .slice b2 0 c2) (hnc:n≤c)
  (h:wpList P ops Q rest (a.put o.dst (.slice b n c)) w):wpList P ops Q (o :: rest) a w:=
 Lib.wpList_append_run w hgd s x t t ho _ _ hs hx _ _ (X7c w t _ E i ht hi b b2 n c c2 hnc) h
theorem Own.cap {B E:Nat} {w:World} {v:Value} {cs:List Value} (h:Own B E w v cs):∃a c,v = .slice a cs.length c∧cs.length≤c:=by
 rcases h.2 with ⟨rfl,hn⟩|⟨g,cap,cur,rfl,hb,hgg,hc,_⟩
 ·exact ⟨none,0,by rw [hn],O_⟩
 ·exact ⟨_,cap,rfl,hc⟩
theorem Xpf {P:Program} {ops:Array Oper} {rest:List Oper} {o:Oper} {a:Act} {Q:Exit→Act→World→Prop} {w:World} (s x:Operand) (t E:TypeId) (bytes:Nat) (z:Value) (he:Xju P E z bytes)
  (hgd:o.guard=none) (ho:o.op = .call { callee:=.builtin .append,args := #[s,x],argTypes := #[t,t] })
  (ht:P.underlying t=some (.slice E)) (B:Nat) (v u:Value) (cs cs2:List Value) (hs:a.eval s=v) (hown:Own B E w v cs)
  (hx:a.eval x=u) (hr:Rd w u cs2) (h1:∀c∈cs2,c.oneCell' = true)
  (h63:cs.length+cs2.length≤maxLen) (hbytes:(cs.length+cs2.length) * bytes≤140737488355328) (hB:B≤w.heap.size)
  (h:∀v' w',Own B E w' v' (cs ++ cs2)→Below B w w'→wpList P ops Q rest (a.put o.dst v') w'):wpList P ops Q (o :: rest) a w:=by
 by_cases hne:0 < cs2.length
 ·exact Xru s x t E bytes z he hgd ho ht B v u cs cs2 hs hown hx hr hne h1 h63 hbytes hB h
 ·obtain rfl:cs2 = []:=List.eq_nil_of_length_eq_zero O_
  obtain ⟨i0,hi,-⟩:=info_parts he.info
  obtain ⟨b2,c2,-,-,rfl,-⟩:=hr
  obtain ⟨b1,c1,rfl,hc⟩:=hown.cap
  refine Xp0 s x t E i0 hi hgd ho ht b1 b2 _ c1 c2 hs hx hc (h _ w (by simpa using hown) (Below.refl _ _))
theorem Xiy {P:Program} {ops:Array Oper} {rest:List Oper} {o:Oper} {a:Act} {Q:Exit→Act→World→Prop} {w:World} (s x:Operand) (t ts E:TypeId) (he:Xju P E (.int .u8 0) 1)
  (hgd:o.guard=none) (ho:o.op = .call { callee:=.builtin .append,args := #[s,x],argTypes := #[t,ts] })
  (ht:P.underlying t=some (.slice E)) (hts:P.underlying ts=some .string) (B:Nat) (v:Value) (cs:List Value) (st:ByteArray) (hs:a.eval s=v) (hown:Own B E w v cs)
  (hx:a.eval x = .string st) (h63:cs.length+st.size≤1000000000000) (hB:B≤w.heap.size)
  (h:∀v' w',Own B E w' v' (cs ++ Lib.strCells st)→Below B w w'→wpList P ops Q rest (a.put o.dst v') w'):wpList P ops Q (o :: rest) a w:=by
 obtain ⟨i0,hi,hz0,hz1,hz2⟩:=info_parts he.info
 refine Lib.wpList_append_own_string w hgd s x t ts ho B E i0 ht hts hi hz0 hz1 hz2 v cs.length cs hs hown st hx (by unfold maxLen;omega) O_ hB ?_
 intro v' w' hown' hg _
 refine h v' w' (by simpa [Own,Lib.strCells_length] using hown') ?_
 exact (Below.refl _ _).grown hg hB (fun k hk=>(World.ownsRow.lt hown k hk).1)
def OwnS (B E k:Nat) (w:World) (v:Value) (rows:List (List Value)):Prop:=w.ownsRow B E k v rows.length rows.flatten∧∀r∈rows,r.length=k
theorem OwnS.nil (B E k:Nat) (w:World):OwnS B E k w (.slice none 0 0) []:=⟨World.ownsRow_nil w B E k,fun r hr=>by simp at hr⟩
theorem OwnS.kept {B E k:Nat} {w w' : World} {v:Value} {rows:List (List Value)} (h:OwnS B E k w v rows) (hb:Below w.heap.size w w'):OwnS B E k w' v rows:=by
 refine ⟨⟨h.1.1,?_⟩,h.2⟩
 rcases h.1.2 with hn|⟨g,cap,cur,rfl,hb1,hgg,rest⟩
 ·exact .inl hn
 ·exact .inr ⟨g,cap,cur,rfl,hb1,by rw [hb.block g (Array.getElem?_eq_some_iff.1 hgg).1];exact hgg,rest⟩
theorem OwnS.cap {B E k:Nat} {w:World} {v:Value} {rows:List (List Value)} (h:OwnS B E k w v rows):∃a cap,v = .slice a rows.length cap∧rows.length≤cap:=by
 rcases h.1.2 with ⟨rfl,hn⟩|⟨g,cap,cur,rfl,hb,hgg,hc,_⟩
 ·exact ⟨none,0,by rw [hn],O_⟩
 ·exact ⟨_,cap,rfl,hc⟩
theorem Xjy {α:Type} (k:Nat):∀(rows:List (List α)),(∀r∈rows,r.length=k)→∀(i j:Nat) (r:List α) (u:α),rows[i]? = some r→r[j]? = some u→rows.flatten[i * k+j]? = some u
 | [],_,i,j,r,u,h,_=>by simp at h
 |x :: xs,hk,0,j,r,u,h,hu=>by
  simp at h;subst h
  have hj:j < x.length:=(List.getElem?_eq_some_iff.1 hu).1
  rw [List.flatten_cons,Nat.zero_mul,Nat.zero_add,List.getElem?_append_left hj]
  exact hu
 |x :: xs,hk,i+1,j,r,u,h,hu=>by
  have hx:x.length=k:=hk x S_
  rw [List.flatten_cons,List.getElem?_append_right (by rw [hx,Nat.succ_mul];omega),hx,show (i+1) * k+j - k=i * k+j by rw [Nat.succ_mul];omega]
  exact Xjy k xs (fun r hr=>hk r (by simp [hr])) i j r u (by simpa using h) hu
theorem OwnS.cells {B E k:Nat} {w:World} {v:Value} {rows:List (List Value)} (h:OwnS B E k w v rows):∃a cap b off,v = .slice a rows.length cap∧rows.length≤cap∧cap≤maxLen∧(0 < rows.length→a=some ⟨b,off,none⟩) ∧
  ∀i j r u,rows[i]? = some r→r[j]? = some u→w.cell? ⟨b,off+i * k+j,none⟩=some u:=by
 rcases h.1.2 with ⟨rfl,hn⟩|⟨g,cap,cur,rfl,hb,hgg,hc,hm,hs,ht⟩
 ·exact ⟨none,0,0,0,by rw [hn],O_,by unfold maxLen;omega,fun hh=>by omega,fun i j r u hr hu=>by
   have:rows = []:=List.eq_nil_of_length_eq_zero hn
   subst this;simp at hr⟩
 ·refine ⟨_,cap,g,0,rfl,hc,hm,fun _=>rfl,fun i j r u hr hu=>?_⟩
  have:=World.ownsRow.cells h.1 (g:=g) rfl (i * k+j) u (Xjy k rows h.2 i j r u hr hu)
  rw [←this];unfold Addr.add;split<;>simp_all
def Yy:List Int := [1116352408,1899447441,3049323471,3921009573,961987163,1508970993,2453635748,2870763221,3624381080,310598401,607225278,1426881987,1925078388,2162078206,2614888103,3248222580,3835390401,4022224774,264347078,604807628,770255983,1249150122,1555081692,1996064986,2554220882,2821834349,2952996808,3210313671,3336571891,3584528711,113926993,338241895,666307205,773529912,1294757372,1396182291,1695183700,1986661051,2177026350,2456956037,2730485921,2820302411,3259730800,3345764771,3516065817,3600352804,4094571909,275423344,430227734,506948616,659060556,883997877,958139571,1322822218,1537002063,1747873779,1955562222,2024104815,2227730452,2361852424,2428436474,2756734187,3204031479,3329325298]
def X3b:List (Nat×IntKind×List Int) := [(0, .u32,Yy)]
inductive PV where
 |undef
 |val (v:Value)
 |nilsl
 |sl (n k:Nat) (cs:List PV) (own:Option TypeId)
 |ptr (id off:Nat)
 |msl (id off n k:Nat)
 |ep (cs:List PV) (off:Nat)
 |fn (f:FuncId) (caps:List PV)
 |agg (cs:List PV)
 |tup (vs:List PV)
 |mref (id:Nat)
 deriving Inhabited
def Y7m:Fn→Array Value→Array Value→Bool
 | .yield _,a,b=>a.isEmpty && b.isEmpty
 |_,_,_=>false
def X2v:Value→Bool
 | .bool _ | .int _ _ | .string _ | .nilFunc | .nilIface | .pointer none | .map none=>true
 | .func f a b=>Y7m f a b
 |_=>false
theorem Xp8 {v:Value} (h:X2v v=true):v.oneCell' = true∧v.cells = #[v]:=by
 cases v<;>simp_all [X2v,Value.oneCell',Value.cells]
abbrev Imm:=Nat→Nat→Option Value
def unB (f:Nat):Nat:=f - 1000000
def fnV (f:Nat) (us:Array Value):Value:=if f < 1000000 then .func (.func f) #[] us else .func (.func (unB f)) us #[]
theorem Xaq (f:Nat) (us:Array Value):∃n p q,fnV f us = .func (.func n) p q:=by unfold fnV;split<;>exact ⟨_,_,_,rfl⟩
inductive Rep (Φ:Imm) (μ:Nat→Option Nat):PV→Value→Prop
 |undef (v:Value):Rep Φ μ .undef v
 |val (v:Value) (h:X2v v=true):Rep Φ μ (.val v) v
 |nilsl:Rep Φ μ .nilsl (.slice none 0 0)
 |sl0 (k:Nat) (own:Option TypeId) (a:Option Addr) (cap:Nat) (h:cap≤maxLen):Rep Φ μ (.sl 0 k [] own) (.slice a 0 cap)
 |sl (n k:Nat) (cs:List PV) (own:Option TypeId) (b off cap:Nat) (us:Nat→Value) (h1:cs.length=n * k) (h2:n≤cap) (h3:cap≤maxLen)
   (hp:∀j,j < cs.length→Φ b (off+j)=some (us j)) (hr:∀j c,cs[j]? = some c→Rep Φ μ c (us j)):Rep Φ μ (.sl n k cs own) (.slice (some ⟨b,off,none⟩) n cap)
 |ptr (id off g:Nat) (h:μ id=some g):Rep Φ μ (.ptr id off) (.pointer (some ⟨g,off,none⟩))
 |msl (id off n k:Nat) (a:Option Addr) (cap:Nat) (h:0 < n→∃g,μ id=some g∧a=some ⟨g,off,none⟩) (h2:n≤cap) (h3:cap≤maxLen):Rep Φ μ (.msl id off n k) (.slice a n cap)
 |ep (cs:List PV) (off b o:Nat) (us:Nat→Value) (hp:∀j,j < cs.length→Φ b (o+j)=some (us j)) (hr:∀j c,cs[j]? = some c→Rep Φ μ c (us j)) :
   Rep Φ μ (.ep cs off) (.pointer (some ⟨b,o+off,none⟩))
 |fn (f:FuncId) (cs:List PV) (us:Nat→Value) (hr:∀j c,cs[j]? = some c→Rep Φ μ c (us j)):Rep Φ μ (.fn f cs) (fnV f ((List.range cs.length).map us).toArray)
 |agg (cs:List PV) (us:Nat→Value) (hr:∀j c,cs[j]? = some c→Rep Φ μ c (us j)):Rep Φ μ (.agg cs) (.agg ((List.range cs.length).map us).toArray)
 |tup (cs:List PV) (us:Nat→Value) (hr:∀j c,cs[j]? = some c→Rep Φ μ c (us j)):Rep Φ μ (.tup cs) (.tuple ((List.range cs.length).map us).toArray)
 |mref (id g:Nat) (h:μ id=some g):Rep Φ μ (.mref id) (.map (some g))
theorem Rep.mono {Φ Φ' : Imm} {μ μ' : Nat→Option Nat} (hΦ:∀b o u,Φ b o=some u→Φ' b o=some u) (hμ:∀i g,μ i=some g→μ' i=some g) {p:PV} {v:Value} (h:Rep Φ μ p v):Rep Φ' μ' p v:=by
 induction h with
 |undef v=>exact .undef v
 |val v h=>exact .val v h
 |nilsl=>exact .nilsl
 |sl0 k own a cap h=>exact .sl0 k own a cap h
 |sl n k cs own b off cap us h1 h2 h3 hp hr ih=>exact .sl n k cs own b off cap us h1 h2 h3 (fun j hj=>hΦ _ _ _ (hp j hj)) ih
 |ptr id off g h=>exact .ptr id off g (hμ _ _ h)
 |msl id off n k a cap h h2 h3=>exact .msl id off n k a cap (fun hn=>by obtain ⟨g,h1,h4⟩:=h hn;exact ⟨g,hμ _ _ h1,h4⟩) h2 h3
 |ep cs off b o us hp hr ih=>exact .ep cs off b o us (fun j hj=>hΦ _ _ _ (hp j hj)) ih
 |fn f cs us hr ih=>exact .fn f cs us ih
 |agg cs us hr ih=>exact .agg cs us ih
 |tup cs us hr ih=>exact .tup cs us ih
 |mref id g h=>exact .mref id g (hμ _ _ h)
theorem Rep.nilsl_inv {Φ:Imm} {μ:Nat→Option Nat} {v:Value} (h:Rep Φ μ .nilsl v):v = .slice none 0 0:=by cases h;rfl
def PV.bare:PV→PV
 | .sl n k cs _=>.sl n k cs none
 |p=>p
def PV.ownB:PV→Bool
 | .sl _ _ _ (some _)=>true
 |_=>false
theorem PV.bare_own (p:PV):p.bare.ownB=false:=by cases p<;>simp [PV.bare,PV.ownB]
theorem PV.bare_bare (p:PV):p.bare.bare=p.bare:=by cases p<;>rfl
theorem PV.bare_of (p:PV) (h:p.ownB=false):p.bare=p:=by
 cases p with
 |sl n k cs own=>cases own<;>simp_all [PV.bare,PV.ownB]
 |_=>rfl
theorem Rep.bare {Φ:Imm} {μ:Nat→Option Nat} {p:PV} {v:Value} (h:Rep Φ μ p v):Rep Φ μ p.bare v:=by
 cases h with
 |sl0 k own a cap h=>exact .sl0 k none a cap h
 |sl n k cs own b off cap us h1 h2 h3 hp hr=>exact .sl n k cs none b off cap us h1 h2 h3 hp hr
 |undef v=>exact .undef v
 |val v h=>exact .val v h
 |nilsl=>exact .nilsl
 |ptr id off g h=>exact .ptr id off g h
 |msl id off n k a cap h h2 h3=>exact .msl id off n k a cap h h2 h3
 |ep cs off b o us hp hr=>exact .ep cs off b o us hp hr
 |fn f cs us hr=>exact .fn f cs us hr
 |agg cs us hr=>exact .agg cs us hr
 |tup cs us hr=>exact .tup cs us hr
 |mref id g h=>exact .mref id g h
inductive Low:PV→Prop
 |undef:Low .undef
 |val (v:Value):Low (.val v)
 |nilsl:Low .nilsl
 |sl (n k:Nat) (cs:List PV) (own:Option TypeId) (h:∀c∈cs,Low c):Low (.sl n k cs own)
 |ep (cs:List PV) (off:Nat) (h:∀c∈cs,Low c):Low (.ep cs off)
 |fn (f:FuncId) (cs:List PV) (h:∀c∈cs,Low c):Low (.fn f cs)
 |agg (cs:List PV) (h:∀c∈cs,Low c):Low (.agg cs)
 |tup (cs:List PV) (h:∀c∈cs,Low c):Low (.tup cs)
theorem Xc {α:Type} {l:List α} {j:Nat} {c:α} (h:l[j]? = some c):c∈l:=List.mem_of_getElem? h
theorem Rep.low {Φ:Imm} {μ μ' : Nat→Option Nat} {p:PV} {v:Value} (h:Rep Φ μ p v) (hl:Low p):Rep Φ μ' p v:=by
 induction h with
 |undef v=>exact .undef v
 |val v h=>exact .val v h
 |nilsl=>exact .nilsl
 |sl0 k own a cap h=>exact .sl0 k own a cap h
 |sl n k cs own b off cap us h1 h2 h3 hp hr ih=>cases hl with|sl _ _ _ _ hl=>exact .sl n k cs own b off cap us h1 h2 h3 hp (fun j c hj=>ih j c hj (hl c (Xc hj)))
 |ptr id off g h=>cases hl
 |msl id off n k a cap h h2 h3=>cases hl
 |ep cs off b o us hp hr ih=>cases hl with|ep _ _ hl=>exact .ep cs off b o us hp (fun j c hj=>ih j c hj (hl c (Xc hj)))
 |fn f cs us hr ih=>cases hl with|fn _ _ hl=>exact .fn f cs us (fun j c hj=>ih j c hj (hl c (Xc hj)))
 |agg cs us hr ih=>cases hl with|agg _ hl=>exact .agg cs us (fun j c hj=>ih j c hj (hl c (Xc hj)))
 |tup cs us hr ih=>cases hl with|tup _ hl=>exact .tup cs us (fun j c hj=>ih j c hj (hl c (Xc hj)))
 |mref id g h=>cases hl
inductive Flat:PV→Prop
 |undef:Flat .undef
 |val (v:Value):Flat (.val v)
 |nilsl:Flat .nilsl
 |agg (cs:List PV) (h:∀c∈cs,Flat c):Flat (.agg cs)
 |tup (cs:List PV) (h:∀c∈cs,Flat c):Flat (.tup cs)
theorem Rep.flat {Φ Φ' : Imm} {μ μ' : Nat→Option Nat} {p:PV} {v:Value} (h:Rep Φ μ p v) (hl:Flat p):Rep Φ' μ' p v:=by
 induction h with
 |undef v=>exact .undef v
 |val v h=>exact .val v h
 |nilsl=>exact .nilsl
 |sl0 k own a cap h=>cases hl
 |sl n k cs own b off cap us h1 h2 h3 hp hr ih=>cases hl
 |ptr id off g h=>cases hl
 |msl id off n k a cap h h2 h3=>cases hl
 |ep cs off b o us hp hr ih=>cases hl
 |fn f cs us hr ih=>cases hl
 |agg cs us hr ih=>cases hl with|agg _ hl=>exact .agg cs us (fun j c hj=>ih j c hj (hl c (Xc hj)))
 |tup cs us hr ih=>cases hl with|tup _ hl=>exact .tup cs us (fun j c hj=>ih j c hj (hl c (Xc hj)))
 |mref id g h=>cases hl
inductive PMap where
 |map (es:List (Nat×PV×PV)) (clock:Nat)
 |iter (mid since:Nat) (seen:List Nat) (last:Nat)
 deriving Inhabited
structure PS where
 t:Nat→PV
 b:Nat→Option (List PV)
 m:Nat→Option PMap
def upd {α:Type} (f:Nat→α) (i:Nat) (x:α) (j:Nat):α:=cond (Nat.beq j i) x (f j)
theorem X8 {α:Type} (f:Nat→α) (i:Nat) (x:α) (j:Nat):upd f i x j=if j=i then x else f j:=by
 unfold upd
 by_cases h:j=i
 ·subst h;simp
 ·have:Nat.beq j i=false:=by
   cases hb:Nat.beq j i with
   |false=>rfl
   |true=>exact absurd (Nat.eq_of_beq_eq_true hb) h
  rw [this,if_neg h];rfl
theorem Xxy {α:Type} (f:Nat→α) (i:Nat) (x:α):upd f i x i=x:=by simp [X8]
theorem Xcb {α:Type} (f:Nat→α) {i j:Nat} (x:α) (h:j≠i):upd f i x j=f j:=by simp [X8,h]
theorem X81 {α:Type} (f:Nat→α) {i j:Nat} (x y:α) (h:i≠j):upd (upd f i x) j y=upd (upd f j y) i x:=by
 funext k;simp only [X8];by_cases h1:k=i<;>by_cases h2:k=j<;>simp_all
def PS.put (σ:PS) (d:Nat) (p:PV):PS:={ σ with t:=upd σ.t d p }
inductive Who where
 |box (id:Nat)
 |tmp (t:Nat)
 |cell (id off:Nat)
 deriving DecidableEq
def X4z (Φ:Imm):Prop:=∀x∈X3b,∀j z,x.2.2[j]? = some z→Φ x.1 j=some (.int x.2.1 z)
def Xe2 (g:Nat):List (Nat×IntKind×List Int)→PV
 | []=>.undef
 |(g',k,zs) :: l=>cond (Nat.beq g g') (.ep (zs.map fun z=>.val (.int k z)) 0) (Xe2 g l)
theorem Xfb {Φ:Imm} {μ:Nat→Option Nat} {g:Nat} : ∀(l:List (Nat×IntKind×List Int)),(∀x∈l,∀j z,x.2.2[j]? = some z→Φ x.1 j=some (.int x.2.1 z))→Rep Φ μ (Xe2 g l) (.pointer (some ⟨g,0,none⟩))
 | [],_=>.undef _
 |x :: l,h=>by
  unfold Xe2
  cases hb:Nat.beq g x.1 with
  |false=>exact Xfb l fun y hy=>h y (List.mem_cons_of_mem _ hy)
  |true=>
   have e:=Nat.eq_of_beq_eq_true hb
   subst e
   refine Rep.ep (Φ:=Φ) (μ:=μ) _ 0 x.1 0 (fun j=>.int x.2.1 (x.2.2.getD j 0)) (fun j hj=>?_) (fun j c hc=>?_)
   ·have hj' : j < x.2.2.length:=by simpa using hj
    rw [Nat.zero_add]
    refine h x (List.mem_cons_self ..) j _ ?_
    rw [G_,E_ hj'];rfl
   ·rw [M_] at hc
    cases hz:x.2.2[j]? with
    |none=>rw [hz] at hc;cases hc
    |some z=>
     rw [hz] at hc
     simp only [Option.map_some,Option.some.injEq] at hc
     subst hc
     rw [G_,hz]
     exact .val _ rfl
theorem X3e (g:Nat):∀l,(Xe2 g l).ownB=false
 | []=>rfl
 |x :: l=>by unfold Xe2;cases Nat.beq g x.1 with
  |false=>exact X3e g l
  |true=>rfl
def Xgj:Value→Bool
 | .int .i64 _=>true
 |_=>false
def Mix (Φ:Imm) (g:Nat):Prop:=∀o u,Φ g o=some u→∃o' u',Φ g o' = some u'∧Xgj u' = false
theorem Xqo {Φ:Imm} {g:Nat} (h:∀o u,Φ g o=some u→Xgj u=false):Mix Φ g:=fun o u e=>⟨o,u,e,h o u e⟩
structure Ent where
 imm:Imm
 giv:Nat→Prop
 mu:Nat→Option Nat
 glob:X4z imm
 fl:∀g,giv g→Mix imm g
 marks:List Nat
 round:Option Nat
def X7u (m:Nat):Deferred:={ target:=.collected m,args := #[] }
def Mine (Φ0:Ent) (W:World) (g:Nat):Prop:=W.heap.size≤g∨Φ0.giv g
def Old (Φ0:Ent) (W:World) (g:Nat):Prop:=g < W.heap.size∧¬Φ0.giv g
def Xxe (Φ0:Ent) (W:World):Prop:=∀l,Φ0.round=some l→Old Φ0 W l∧∃r,W.heap[l]? = some (.loop r)
theorem Mine.ne {Φ0:Ent} {W:World} {g b:Nat} (h:Mine Φ0 W g) (k:Old Φ0 W b):b≠g:=by
 rintro rfl
 rcases h with h|h
 ·have:=k.1;omega
 ·exact k.2 h
structure Kept (S:Nat→Prop) (w w' : World):Prop where
 os:w'.os=w.os
 tape:w'.tape=w.tape
 output:w'.output=w.output
 size:w.heap.size≤w'.heap.size
 block:∀k,S k→w'.heap[k]? = w.heap[k]?
theorem Kept.refl (S:Nat→Prop) (w:World):Kept S w w:=⟨rfl,rfl,rfl,Nat.le_refl _,fun _ _=>rfl⟩
theorem Kept.trans {S:Nat→Prop} {a b c:World} (h:Kept S a b) (k:Kept S b c):Kept S a c:=
 ⟨k.os.trans h.os,k.tape.trans h.tape,k.output.trans h.output,Nat.le_trans h.size k.size,fun i hi=>(k.block i hi).trans (h.block i hi)⟩
theorem Kept.drew {S:Nat→Prop} {a w:World} (h:Kept S a w):Kept S a w.drew:=⟨h.os,h.tape,h.output,h.size,h.block⟩
theorem Kept.mono {S S' : Nat→Prop} {w w' : World} (h:Kept S w w') (hS:∀k,S' k→S k):Kept S' w w':=⟨h.os,h.tape,h.output,h.size,fun k hk=>h.block k (hS k hk)⟩
theorem Kept.of {B:Nat} {S:Nat→Prop} {w w' : World} (h:Below B w w') (hS:∀k,S k→k < B):Kept S w w':=⟨h.os,h.tape,h.output,h.size,fun k hk=>h.block k (hS k hk)⟩
theorem Kept.to {B:Nat} {S:Nat→Prop} {w w' : World} (h:Kept S w w') (hS:∀k,k < B→S k):Below B w w':=⟨h.os,h.tape,h.output,h.size,fun k hk=>h.block k (hS k hk)⟩
theorem Kept.alloc {Φ0:Ent} {W w:World} (h:Kept (Old Φ0 W) W w) (o:Obj):Kept (Old Φ0 W) W (w.alloc o):=
 h.trans ⟨rfl,rfl,rfl,S_,fun k hk=>Below.heap_alloc _ _ _ (by have:=hk.1;have:=h.size;omega)⟩
def Ki (B:Nat→Prop) (Φ:Imm) (ω:Nat→Option Who) (w:World) (p:Who) (n k:Nat) (E:TypeId) (v:Value):Prop:=
 (v = .slice none 0 0∧n=0)∨(∃g cap cur,v = .slice (some ⟨g,0,none⟩) n cap∧B g∧w.heap[g]? = some (.cells cur E (0,0))∧n≤cap∧cap≤maxLen∧cur.size=cap * k∧ω g=some p∧E < 1000000∧∀j,n * k≤j→Φ g j=none)∨(1000000≤E∧∃ad,v = .slice ad n n)
def V2 (B:Nat→Prop) (Φ:Imm) (μ:Nat→Option Nat) (ω:Nat→Option Who) (w:World) (id:Nat) (bs:List PV):Prop:=
 ∃g cur T,μ id=some g∧w.heap[g]? = some (.cells cur T (0,0))∧B g∧ω g=some (.box id)∧(∀j,Φ g j=none)∧bs.length≤cur.size∧∀j c,bs[j]? = some c→∃u,cur[j]? = some u∧u.oneCell' = true∧Rep Φ μ c u ∧
  ∀n k cs E,c = .sl n k cs (some E)→Ki B Φ ω w (.cell id j) n k E u
def X6r (S:Who→Prop) (Φ Φ' : Imm) (ω ω' : Nat→Option Who) (w w' : World):Prop:=∀q,S q→∀g,ω g=some q→w'.heap[g]? = w.heap[g]?∧(∀j,Φ' g j=Φ g j)∧ω' g=some q
def OfId (id:Nat) (q:Who):Prop:=q = .box id∨∃j,q = .cell id j
theorem Ki.step {Φ:Imm} {ω:Nat→Option Who} {w:World} {B:Nat→Prop} {p:Who} {n k:Nat} {E:TypeId} {v:Value} (ho:Ki B Φ ω w p n k E v) {Φ' : Imm} {ω' : Nat→Option Who} {w' : World} (hk:∀g,ω g=some p→w'.heap[g]? = w.heap[g]?∧(∀j,Φ' g j=Φ g j)∧ω' g=some p):Ki B Φ' ω' w' p n k E v:=by
 rcases ho with ho|⟨g,cap,cur,h1,h2,h3,h4,h5,h6,h7,h8⟩|ho
 rotate_left 2
 ·exact .inr (.inr ho)
 ·exact .inl ho
 ·obtain ⟨k1,k2,k3⟩:=hk g h7
  exact .inr (.inl ⟨g,cap,cur,h1,h2,by rw [k1];exact h3,h4,h5,h6,k3,h8.1,fun j hj=>by rw [k2];exact h8.2 j hj⟩)
theorem Ki.inB {Φ:Imm} {ω:Nat→Option Who} {w:World} {B B' : Nat→Prop} {p:Who} {n k:Nat} {E:TypeId} {v:Value} (ho:Ki B Φ ω w p n k E v) (h:∀g,ω g=some p→B' g):Ki B' Φ ω w p n k E v:=by
 rcases ho with ho|⟨g,cap,cur,h1,h2,h3,h4,h5,h6,h7,h8⟩|ho
 rotate_left 2
 ·exact .inr (.inr ho)
 ·exact .inl ho
 ·exact .inr (.inl ⟨g,cap,cur,h1,h g h7,h3,h4,h5,h6,h7,h8⟩)
theorem V2.step {B:Nat→Prop} {Φ Φ' : Imm} {μ μ' : Nat→Option Nat} {ω ω' : Nat→Option Who} {w w' : World} {id:Nat} {bs:List PV} (h:V2 B Φ μ ω w id bs) (hΦ:∀b o u,Φ b o=some u→Φ' b o=some u) (hμ:∀i g,μ i=some g→μ' i=some g) (hk:X6r (OfId id) Φ Φ' ω ω' w w'):V2 B Φ' μ' ω' w' id bs:=by
 obtain ⟨g,cur,T,h1,h2,h3,h4,h5,h6,h7⟩:=h
 obtain ⟨k1,k2,k3⟩:=hk _ (.inl rfl) g h4
 refine ⟨g,cur,T,hμ _ _ h1,by rw [k1];exact h2,h3,k3,fun j=>by rw [k2];exact h5 j,h6,fun j c hc=>?_⟩
 obtain ⟨u,r1,r2,r3,r4⟩:=h7 j c hc
 exact ⟨u,r1,r2,r3.mono hΦ hμ,fun n k cs E e=>(r4 n k cs E e).step (hk _ (.inr ⟨j,rfl⟩))⟩
def X41 (es:List (Nat×PV×PV)) (clock:Nat):Prop:=(es.map (·.1)).Nodup∧∀e∈es,e.1 < clock
def Z6 (B:Nat→Prop) (Φ:Imm) (μ:Nat→Option Nat) (ω:Nat→Option Who) (w:World) (id:Nat) (M:PMap):Prop:=
 ∃g,μ id=some g∧B g∧ω g=some (.box id)∧(∀j,Φ g j=none)∧match M with
  | .map es clock=>X41 es clock∧∃ents,w.heap[g]? = some (.map ents clock)∧ents.size=es.length∧∀(j:Nat) s k c,es[j]? = some (s,k,c)→∃e,ents[j]? = some e∧e.born=s∧Rep Φ μ k e.key∧Rep Φ μ c e.val ∧
    ∀n kk cs E,c = .sl n kk cs (some E)→Ki B Φ ω w (.cell id s) n kk E e.val
  | .iter mid since seen last=>∃gm,μ mid=some gm∧w.heap[g]? = some (.mapIter (some gm) since seen.toArray last)
theorem Z6.step {B:Nat→Prop} {Φ Φ' : Imm} {μ μ' : Nat→Option Nat} {ω ω' : Nat→Option Who} {w w' : World} {id:Nat} {M:PMap} (h:Z6 B Φ μ ω w id M) (hΦ:∀b o u,Φ b o=some u→Φ' b o=some u) (hμ:∀i g,μ i=some g→μ' i=some g) (hk:X6r (OfId id) Φ Φ' ω ω' w w'):Z6 B Φ' μ' ω' w' id M:=by
 obtain ⟨g,h1,h2,h3,h4,h5⟩:=h
 obtain ⟨k1,k2,k3⟩:=hk _ (.inl rfl) g h3
 refine ⟨g,hμ _ _ h1,h2,k3,fun j=>by rw [k2];exact h4 j,?_⟩
 cases M with
 |map es clock=>
  obtain ⟨e0,ents,e1,e2,e3⟩:=h5
  refine ⟨e0,ents,by rw [k1];exact e1,e2,fun j s k c hj=>?_⟩
  obtain ⟨e,f1,f2,f3,f4,f5⟩:=e3 j s k c hj
  exact ⟨e,f1,f2,f3.mono hΦ hμ,f4.mono hΦ hμ,fun n kk cs E ec=>(f5 n kk cs E ec).step (hk _ (.inr ⟨s,rfl⟩))⟩
 |iter mid since seen last=>
  obtain ⟨gm,e1,e2⟩:=h5
  exact ⟨gm,hμ _ _ e1,by rw [k1];exact e2⟩
structure RelG (Φ0:Ent) (W:World) (M:Nat) (Φ:Imm) (μ:Nat→Option Nat) (ω:Nat→Option Who) (σ:PS) (a:Act) (w:World):Prop where
 below:Kept (Old Φ0 W) W w
 defers:a.defers=Φ0.marks.map X7u∧Xxe Φ0 W
 size:a.tmps.size=M
 imm:∀b o u,Φ b o=some u→w.cell? ⟨b,o,none⟩=some u
 old:∀b o,Old Φ0 W b→Φ b o=Φ0.imm b o
 tmps:∀t,Rep Φ μ (σ.t t) (a.tmps.getD t undef)
 own:∀t n k cs E,σ.t t = .sl n k cs (some E)→Ki (Mine Φ0 W) Φ ω w (.tmp t) n k E (a.tmps.getD t undef)
 box:∀id bs,σ.b id=some bs→V2 (Mine Φ0 W) Φ μ ω w id bs
 gone:∀id,σ.b id=none→σ.m id=none→μ id=none
 lt:∀g p,ω g=some p→g < w.heap.size
 gmu:∀id g,Φ0.mu id=some g→1000000≤id
 kmu:∀id g,Φ0.mu id=some g→(σ.b id≠none∨σ.m id≠none)→μ id=some g
 ext:∀b o u,Φ0.imm b o=some u→Φ b o=some u∧b < W.heap.size
 map:∀id X,σ.m id=some X→Z6 (Mine Φ0 W) Φ μ ω w id X
 mine:∀g p,ω g=some p→Mine Φ0 W g
def Rel (Φ0:Ent) (W:World) (M:Nat) (σ:PS) (a:Act) (w:World):Prop:=∃Φ μ ω,RelG Φ0 W M Φ μ ω σ a w
theorem K5 (a:Act) (d t:Nat) (v:Value) (hd:d < a.tmps.size):(a.put (some d) v).tmps.getD t undef=if t=d then v else a.tmps.getD t undef:=by
 simp only [Act.put,Array.getD_eq_getD_getElem?,Array.getElem?_setIfInBounds]
 by_cases h:d=t
 ·subst h;simp [hd]
 ·rw [if_neg h,if_neg (fun e=>h e.symm)]
end
section
open Go.RowKit
variable {Φ0:Ent} {W:World} {M:Nat} {Φ:Imm} {μ:Nat→Option Nat} {ω:Nat→Option Who} {σ:PS} {a:Act} {w:World}
theorem RelG.put (h:RelG Φ0 W M Φ μ ω σ a w) {d:Nat} (hd:d < M) {p:PV} {v:Value} (hp:Rep Φ μ p v) (ho:p.ownB=false):RelG Φ0 W M Φ μ ω (σ.put d p) (a.put (some d) v) w:=by
 have hd' : d < a.tmps.size:=by rw [h.size];exact hd
 refine { h with defers:=h.defers,size:=by simp [Act.put,h.size],tmps:=fun t=>?_,own:=fun t n k cs E e=>?_ }
 ·rw [K5 _ _ _ _ hd']
  by_cases ht:t=d
  ·simp only [PS.put,X8,if_pos ht];exact hp
  ·simp only [PS.put,X8,if_neg ht];exact h.tmps t
 ·rw [K5 _ _ _ _ hd']
  by_cases ht:t=d
  ·simp only [PS.put,X8,if_pos ht] at e;rw [e] at ho;simp [PV.ownB] at ho
  ·simp only [PS.put,X8,if_neg ht] at e ⊢; exact h.own t n k cs E e
theorem RelG.strip (h:RelG Φ0 W M Φ μ ω σ a w) (t:Nat):RelG Φ0 W M Φ μ ω { σ with t:=upd σ.t t (σ.t t).bare } a w:=by
 refine { h with tmps:=fun u=>?_,own:=fun u n k cs E e=>?_ }
 ·simp only [X8]
  split
  ·rename_i e;subst e;exact (h.tmps u).bare
  ·exact h.tmps u
 ·simp only [X8] at e
  split at e
  ·have:=PV.bare_own (σ.t t);rw [e] at this;simp [PV.ownB] at this
  ·exact h.own u n k cs E e
theorem RelG.forget (h:RelG Φ0 W M Φ μ ω σ a w) (f:Nat→PV) (hf:∀t,f t = .undef∨f t=σ.t t∨f t=(σ.t t).bare∨(∃k E,f t = .sl 0 k [] (some E)∧σ.t t = .nilsl)):RelG Φ0 W M Φ μ ω { σ with t:=f } a w:=by
 refine { h with tmps:=fun u=>?_,own:=fun u n k cs E e=>?_ }
 ·rcases hf u with e|e|e|⟨k,E,e,e'⟩<;>simp only [e]
  ·exact .undef _
  ·exact h.tmps u
  ·exact (h.tmps u).bare
  ·have:=h.tmps u
   rw [e'] at this
   rw [this.nilsl_inv]
   exact .sl0 _ _ _ _ (by unfold maxLen;omega)
 ·simp only at e
  rcases hf u with e' | e' | e' | ⟨k',E',e',e''⟩
  ·rw [e'] at e;cases e
  ·rw [e'] at e;exact h.own u n k cs E e
  ·rw [e'] at e;have:=PV.bare_own (σ.t u);rw [e] at this;simp [PV.ownB] at this
  ·rw [e'] at e
   cases e
   have:=h.tmps u
   rw [e''] at this
   exact .inl ⟨this.nilsl_inv,rfl⟩
theorem RelG.glob (h:RelG Φ0 W M Φ μ ω σ a w):X4z Φ:=fun x hx j z e=>(h.ext _ _ _ (Φ0.glob x hx j z e)).1
end
section
open Go.RowKit
def RepL (Φ:Imm) (μ:Nat→Option Nat) (cs:List PV) (vs:List Value):Prop:=vs.length=cs.length∧∀(j:Nat) c u,cs[j]? = some c→vs[j]? = some u→Rep Φ μ c u
theorem RepL.nil {Φ:Imm} {μ:Nat→Option Nat} : RepL Φ μ [] []:=⟨rfl,fun j c u h=>by simp at h⟩
theorem RepL.cons {Φ:Imm} {μ:Nat→Option Nat} {c:PV} {u:Value} {cs:List PV} {us:List Value} (h:Rep Φ μ c u) (hs:RepL Φ μ cs us):RepL Φ μ (c :: cs) (u :: us):=by
 refine ⟨by simp [hs.1],fun j c' u' h1 h2=>?_⟩
 cases j with
 |zero=>simp at h1 h2;subst h1 h2;exact h
 |succ j=>simp at h1 h2;exact hs.2 j c' u' h1 h2
theorem RepL.mono {Φ Φ' : Imm} {μ μ' : Nat→Option Nat} (hΦ:∀b o u,Φ b o=some u→Φ' b o=some u) (hμ:∀i g,μ i=some g→μ' i=some g) {cs:List PV} {us:List Value} (h:RepL Φ μ cs us):RepL Φ' μ' cs us:=
 ⟨h.1,fun j c u h1 h2=>(h.2 j c u h1 h2).mono hΦ hμ⟩
theorem RepL.get {Φ:Imm} {μ:Nat→Option Nat} {cs:List PV} {us:List Value} (h:RepL Φ μ cs us) {j:Nat} {c:PV} (hc:cs[j]? = some c):∃u,us[j]? = some u∧Rep Φ μ c u:=by
 have hj:j < us.length:=by rw [h.1];exact (List.getElem?_eq_some_iff.1 hc).1
 exact ⟨us[j],by simp [hj],h.2 j c _ hc (by simp [hj])⟩
theorem X4h {n:Nat} (us:List Value) (hu:us.length=n):((List.range n).map (fun j=>us.getD j undef))=us:=by
 apply List.ext_getElem
 ·simp [hu]
 ·intro i h1 h2
  simp [G_,h2]
theorem RepL.us {Φ:Imm} {μ:Nat→Option Nat} {cs:List PV} {us:List Value} (h:RepL Φ μ cs us):∀j c,cs[j]? = some c→Rep Φ μ c (us.getD j undef):=by
 intro j c hc
 obtain ⟨u,hu,hr⟩:=h.get hc
 rw [G_,hu];exact hr
theorem RepL.agg {Φ:Imm} {μ:Nat→Option Nat} {cs:List PV} {us:List Value} (h:RepL Φ μ cs us):Rep Φ μ (.agg cs) (.agg us.toArray):=by
 have:=Rep.agg (Φ:=Φ) (μ:=μ) cs (fun j=>us.getD j undef) h.us
 rwa [X4h us h.1] at this
theorem RepL.tup {Φ:Imm} {μ:Nat→Option Nat} {cs:List PV} {us:List Value} (h:RepL Φ μ cs us):Rep Φ μ (.tup cs) (.tuple us.toArray):=by
 have:=Rep.tup (Φ:=Φ) (μ:=μ) cs (fun j=>us.getD j undef) h.us
 rwa [X4h us h.1] at this
theorem RepL.fn {Φ:Imm} {μ:Nat→Option Nat} {cs:List PV} {us:List Value} (f:FuncId) (h:RepL Φ μ cs us):Rep Φ μ (.fn f cs) (fnV f us.toArray):=by
 have:=Rep.fn (Φ:=Φ) (μ:=μ) f cs (fun j=>us.getD j undef) h.us
 rwa [X4h us h.1] at this
theorem X0v {Φ:Imm} {μ:Nat→Option Nat} (cs:List PV) (us:Nat→Value) (hr:∀j c,cs[j]? = some c→Rep Φ μ c (us j)):RepL Φ μ cs ((List.range cs.length).map us):=by
 refine ⟨S_,fun j c u h1 h2=>?_⟩
 have hj:j < cs.length:=(List.getElem?_eq_some_iff.1 h1).1
 simp [hj] at h2
 subst h2;exact hr j c h1
theorem Rep.agg_inv {Φ:Imm} {μ:Nat→Option Nat} {cs:List PV} {v:Value} (h:Rep Φ μ (.agg cs) v):∃us,v = .agg us.toArray∧RepL Φ μ cs us:=by
 cases h with|agg _ us hr=>exact ⟨_,rfl,X0v cs us hr⟩
theorem Rep.tup_inv {Φ:Imm} {μ:Nat→Option Nat} {cs:List PV} {v:Value} (h:Rep Φ μ (.tup cs) v):∃us,v = .tuple us.toArray∧RepL Φ μ cs us:=by
 cases h with|tup _ us hr=>exact ⟨_,rfl,X0v cs us hr⟩
theorem Rep.fn_inv {Φ:Imm} {μ:Nat→Option Nat} {f:FuncId} {cs:List PV} {v:Value} (h:Rep Φ μ (.fn f cs) v):∃us,v=fnV f us.toArray∧RepL Φ μ cs us:=by
 cases h with|fn _ _ us hr=>exact ⟨_,rfl,X0v cs us hr⟩
theorem Rep.val_inv {Φ:Imm} {μ:Nat→Option Nat} {u v:Value} (h:Rep Φ μ (.val u) v):v=u∧X2v u=true:=by
 cases h with|val _ h=>exact ⟨rfl,h⟩
theorem Rep.ptr_inv {Φ:Imm} {μ:Nat→Option Nat} {id off:Nat} {v:Value} (h:Rep Φ μ (.ptr id off) v):∃g,μ id=some g∧v = .pointer (some ⟨g,off,none⟩):=by
 cases h with|ptr _ _ g h=>exact ⟨g,h,rfl⟩
theorem Rep.mref_inv {Φ:Imm} {μ:Nat→Option Nat} {id:Nat} {v:Value} (h:Rep Φ μ (.mref id) v):∃g,μ id=some g∧v = .map (some g):=by
 cases h with|mref _ g h=>exact ⟨g,h,rfl⟩
theorem Rep.msl_inv {Φ:Imm} {μ:Nat→Option Nat} {id off n k:Nat} {v:Value} (h:Rep Φ μ (.msl id off n k) v):∃a cap,v = .slice a n cap∧n≤cap∧cap≤maxLen∧(0 < n→∃g,μ id=some g∧a=some ⟨g,off,none⟩):=by
 cases h with|msl _ _ _ _ a cap h h2 h3=>exact ⟨a,cap,rfl,h2,h3,h⟩
theorem Rep.ep_inv {Φ:Imm} {μ:Nat→Option Nat} {cs:List PV} {off:Nat} {v:Value} (h:Rep Φ μ (.ep cs off) v):∃b o,∃us:Nat→Value,v = .pointer (some ⟨b,o+off,none⟩)∧(∀j,j < cs.length→Φ b (o+j)=some (us j))∧∀j c,cs[j]? = some c→Rep Φ μ c (us j):=by
 cases h with|ep _ _ b o us hp hr=>exact ⟨b,o,us,rfl,hp,hr⟩
theorem Rep.sl_inv {Φ:Imm} {μ:Nat→Option Nat} {n k:Nat} {cs:List PV} {own:Option TypeId} {v:Value} (h:Rep Φ μ (.sl n k cs own) v):∃a b off cap,∃us:Nat→Value,v = .slice a n cap∧n≤cap∧cap≤maxLen∧cs.length=n * k∧(0 < n→a=some ⟨b,off,none⟩) ∧
  (∀j,j < cs.length→Φ b (off+j)=some (us j))∧∀j c,cs[j]? = some c→Rep Φ μ c (us j):=by
 cases h with
 |sl0 _ _ a cap h=>exact ⟨a,0,0,cap,fun _=>Go.undef,rfl,Nat.zero_le _,h,S_,fun h=>by omega,fun j hj=>by simp at hj,fun j c hj=>by simp at hj⟩
 |sl _ _ _ _ b off cap us h1 h2 h3 hp hr=>exact ⟨_,b,off,cap,us,rfl,h2,h3,h1,fun _=>rfl,hp,hr⟩
def PV.one:PV→Bool
 | .val _ | .nilsl | .sl .. | .ptr .. | .msl .. | .ep .. | .fn .. | .mref .. => true
 |_=>false
theorem Rep.one {Φ:Imm} {μ:Nat→Option Nat} {p:PV} {v:Value} (h:Rep Φ μ p v) (ho:p.one=true):v.oneCell' = true∧v.cells = #[v]:=by
 cases h with
 |val v h=>exact Xp8 h
 |undef=>simp [PV.one] at ho
 |agg=>simp [PV.one] at ho
 |tup=>simp [PV.one] at ho
 |fn f cs us hr=>
  obtain ⟨t1,p1,q1,e1⟩:=Xaq f ((List.range cs.length).map us).toArray
  rw [e1];exact ⟨rfl,rfl⟩
 |_=>exact ⟨rfl,rfl⟩
def pv0:Value→PV
 | .slice none 0 0=>.nilsl
 |v=>if X2v v then .val v else .undef
def pvC:Value→PV
 | .agg cs=>.agg (cs.toList.map pv0)
 |v=>pv0 v
theorem Xl9 {Φ:Imm} {μ:Nat→Option Nat} (v:Value):Rep Φ μ (pv0 v) v:=by
 unfold pv0
 split
 ·exact .nilsl
 ·split
  ·exact .val _ ‹_›
  ·exact .undef _
theorem X1y {Φ:Imm} {μ:Nat→Option Nat} (vs:List Value):RepL Φ μ (vs.map pv0) vs:=by
 refine ⟨S_,fun j c u h1 h2=>?_⟩
 rw [M_,h2] at h1
 simp at h1
 subst h1;exact Xl9 u
theorem Y1r {Φ:Imm} {μ:Nat→Option Nat} (v:Value):Rep Φ μ (pvC v) v:=by
 unfold pvC
 split
 ·rename_i cs
  exact (X1y cs.toList).agg
 ·exact Xl9 _
theorem X56 (v:Value):(pv0 v).ownB=false:=by
 unfold pv0
 split
 ·rfl
 ·split<;>rfl
theorem Xgy (v:Value):(pvC v).ownB=false:=by
 unfold pvC
 split
 ·rfl
 ·exact X56 _
end
section
open Go.RowKit
variable {Φ0:Ent} {W:World} {M:Nat} {Φ:Imm} {μ:Nat→Option Nat} {ω:Nat→Option Who} {σ:PS} {a:Act} {w:World}
theorem RelG.grow (h:RelG Φ0 W M Φ μ ω σ a w) {Φ' : Imm} {w' : World} (hb:Kept (Old Φ0 W) W w') (himm:∀b o u,Φ' b o=some u→w'.cell? ⟨b,o,none⟩=some u) (hold:∀b o,Old Φ0 W b→Φ' b o=Φ b o) (hsub:∀b o u,Φ b o=some u→Φ' b o=some u)
  (hkeep:∀g p,ω g=some p→w'.heap[g]? = w.heap[g]?∧∀j,Φ' g j=Φ g j) (hsz:w.heap.size≤w'.heap.size):RelG Φ0 W M Φ' μ ω σ a w':=by
 have hown:∀p n k E v,Ki (Mine Φ0 W) Φ ω w p n k E v→Ki (Mine Φ0 W) Φ' ω w' p n k E v:=by
  intro p n k E v ho
  rcases ho with ho|⟨g,cap,cur,h1,h2,h3,h4,h5,h6,h7,h8⟩|ho
  rotate_left 2
  ·exact .inr (.inr ho)
  ·exact .inl ho
  ·obtain ⟨k1,k2⟩:=hkeep g _ h7
   exact .inr (.inl ⟨g,cap,cur,h1,h2,by rw [k1];exact h3,h4,h5,h6,h7,h8.1,fun j hj=>by rw [k2];exact h8.2 j hj⟩)
 refine ⟨hb,h.defers,h.size,himm,fun b o hbo=>(hold b o hbo).trans (h.old b o hbo),fun t=>(h.tmps t).mono hsub (fun _ _ e=>e),fun t n k cs E e=>hown _ _ _ _ _ (h.own t n k cs E e),fun id bs e=>?_,h.gone,fun g p e=>Nat.lt_of_lt_of_le (h.lt g p e) hsz,h.gmu,h.kmu,fun b o u e=>⟨hsub _ _ _ (h.ext b o u e).1,(h.ext b o u e).2⟩,fun id X e=>(h.map id X e).step hsub (fun _ _ e=>e) (fun q _ g e=>⟨(hkeep g q e).1,(hkeep g q e).2,e⟩),h.mine⟩
 obtain ⟨g,cur,T,h1,h2,h3,h4,h5,h6,h7⟩:=h.box id bs e
 obtain ⟨k1,k2⟩:=hkeep g _ h4
 refine ⟨g,cur,T,h1,by rw [k1];exact h2,h3,h4,fun j=>by rw [k2];exact h5 j,h6,fun j c hc=>?_⟩
 obtain ⟨u,r1,r2,r3,r4⟩:=h7 j c hc
 exact ⟨u,r1,r2,r3.mono hsub (fun _ _ e=>e),fun n k cs E e=>hown _ _ _ _ _ (r4 n k cs E e)⟩
theorem RelG.drew (h:RelG Φ0 W M Φ μ ω σ a w):RelG Φ0 W M Φ μ ω σ a w.drew:=
 h.grow h.below.drew h.imm (fun _ _ _=>rfl) (fun _ _ _ e=>e) (fun _ _ _=>⟨rfl,fun _=>rfl⟩) (Nat.le_refl _)
def Kt (Φ:Imm) (g:Nat) (cur:Array Value):Imm:=fun b o=>if b=g then cur[o]? else Φ b o
theorem RelG.fresh (h:RelG Φ0 W M Φ μ ω σ a w) {b o:Nat} {u:Value} (e:Φ b o=some u):b < w.heap.size:=World.block_lt_of_cell? _ _ (h.imm b o u e)
theorem X6m (w:World) (cur:Array Value) (T:TypeId) (o:Nat):(w.alloc (.cells cur T)).cell? ⟨w.heap.size,o,none⟩=cur[o]?:=by
 have:=heap_alloc_new w (.cells cur T)
 simp only [World.cell?,this];simp
theorem X1c (w:World) (ob:Obj) (b o:Nat) (h:b < w.heap.size):(w.alloc ob).cell? ⟨b,o,none⟩=w.cell? ⟨b,o,none⟩:=by
 simp only [World.cell?];rw [Below.heap_alloc w ob b h]
theorem RelG.row (h:RelG Φ0 W M Φ μ ω σ a w) (cur:Array Value) (T:TypeId):RelG Φ0 W M (Kt Φ w.heap.size cur) μ ω σ a (w.alloc (.cells cur T)):=by
 have hW:=h.below.size
 refine h.grow (h.below.alloc _) ?_ ?_ ?_ ?_ S_
 ·intro b o u e
  unfold Kt at e
  split at e
  ·subst b;rw [X6m];exact e
  ·have:=h.imm b o u e
   rw [X1c _ _ _ _ (h.fresh e)];exact this
 ·intro b o hb;unfold Kt;rw [if_neg (by have:=hb.1;omega)]
 ·intro b o u e;unfold Kt;rw [if_neg (by have:=h.fresh e;omega)];exact e
 ·intro g p e
  have:=h.lt g p e
  exact ⟨Below.heap_alloc _ _ _ this,fun j=>by unfold Kt;rw [if_neg O_]⟩
theorem RelG.newBox (h:RelG Φ0 W M Φ μ ω σ a w) {id:Nat} (hlow:id < 1000000) (hid:σ.b id=none) (hmid:σ.m id=none) {bs:List PV} {us:List Value} (hr:RepL Φ μ bs us) (hone:∀u∈us,u.oneCell' = true) (hno:∀c∈bs,c.ownB=false) (T:TypeId) :
  RelG Φ0 W M Φ (upd μ id (some w.heap.size)) (upd ω w.heap.size (some (.box id))) { σ with b:=upd σ.b id (some bs) } a (w.alloc (.cells us.toArray T)):=by
 have hW:=h.below.size
 have hμ:∀i g,μ i=some g→upd μ id (some w.heap.size) i=some g:=by
  intro i g e
  simp only [X8]
  rw [if_neg (by rintro rfl;rw [h.gone _ hid hmid] at e;cases e)];exact e
 have hω:∀g p,ω g=some p→upd ω w.heap.size (some (.box id)) g=some p:=by
  intro g p e
  simp only [X8];rw [if_neg (by have:=h.lt g p e;omega)];exact e
 have hown:∀p n k E v,Ki (Mine Φ0 W) Φ ω w p n k E v→Ki (Mine Φ0 W) Φ (upd ω w.heap.size (some (.box id))) (w.alloc (.cells us.toArray T)) p n k E v:=by
  intro p n k E v ho
  rcases ho with ho|⟨g,cap,cur,h1,h2,h3,h4,h5,h6,h7,h8⟩|ho
  rotate_left 2
  ·exact .inr (.inr ho)
  ·exact .inl ho
  ·exact .inr (.inl ⟨g,cap,cur,h1,h2,by rw [Below.heap_alloc _ _ _ (h.lt g _ h7)];exact h3,h4,h5,h6,hω _ _ h7,h8⟩)
 refine ⟨h.below.alloc _,h.defers,h.size,?_,h.old,fun t=>(h.tmps t).mono (fun _ _ _ e=>e) hμ,fun t n k cs E e=>hown _ _ _ _ _ (h.own t n k cs E e),?_,?_,?_,h.gmu,fun i g e hi=>?_,h.ext,fun i X e=>(h.map i X e).step (fun _ _ _ e=>e) hμ (fun q _ g e=>⟨Below.heap_alloc _ _ _ (h.lt g _ e),fun _=>rfl,hω _ _ e⟩),fun g p e=>?_⟩
 ·intro b o u e
  rw [X1c _ _ _ _ (h.fresh e)];exact h.imm b o u e
 ·intro i bs' e
  by_cases hi:i=id
  ·subst hi
   simp only [X8,if_true] at e
   cases e
   refine ⟨w.heap.size,us.toArray,T,by simp [X8],heap_alloc_new w _, .inl hW,by simp [X8],?_,(by have:=hr.1;simp;omega),?_⟩
   ·intro j
    cases hj:Φ w.heap.size j with
    |none=>rfl
    |some u=>have:=h.fresh hj;omega
   ·intro j c hc
    obtain ⟨u,hu,hru⟩:=hr.get hc
    refine ⟨u,by simpa using hu,hone u (Xc hu),hru.mono (fun _ _ _ e=>e) hμ,fun n k cs E e=>?_⟩
    have:=hno c (Xc hc)
    rw [e] at this;simp [PV.ownB] at this
  ·simp only [X8,if_neg hi] at e
   obtain ⟨g,cur,T',h1,h2,h3,h4,h5,h6,h7⟩:=h.box i bs' e
   refine ⟨g,cur,T',hμ _ _ h1,by rw [Below.heap_alloc _ _ _ (h.lt g _ h4)];exact h2,h3,hω _ _ h4,h5,h6,fun j c hc=>?_⟩
   obtain ⟨u,r1,r2,r3,r4⟩:=h7 j c hc
   exact ⟨u,r1,r2,r3.mono (fun _ _ _ e=>e) hμ,fun n k cs E e=>hown _ _ _ _ _ (r4 n k cs E e)⟩
 ·intro i e em
  by_cases hi:i=id
  ·subst hi;simp [X8] at e
  ·simp only [X8,if_neg hi] at e ⊢; exact h.gone i e em
 ·intro g p e
  simp only [X8] at e
  split at e
  ·subst g;simp
  ·have:=h.lt g p e;simp;omega
 ·have hne:i≠id:=by have:=h.gmu i g e;omega
  simp only [X8,if_neg hne] at hi ⊢
  exact h.kmu i g e hi
 ·simp only [X8] at e
  split at e
  ·subst g;exact .inl hW
  ·exact h.mine g p e
theorem RelG.newMap (h:RelG Φ0 W M Φ μ ω σ a w) {id:Nat} (hlow:id < 1000000) (hid:σ.b id=none) (hmid:σ.m id=none) (X:PMap) (ob:Obj) (hX:match X with
   | .map es clock=>es = []∧ob = .map #[] clock
   | .iter mid since seen last=>∃gm,μ mid=some gm∧ob = .mapIter (some gm) since seen.toArray last) :
  RelG Φ0 W M Φ (upd μ id (some w.heap.size)) (upd ω w.heap.size (some (.box id))) { σ with m:=upd σ.m id (some X) } a (w.alloc ob):=by
 have hW:=h.below.size
 have hμ:∀i g,μ i=some g→upd μ id (some w.heap.size) i=some g:=by
  intro i g e
  simp only [X8]
  rw [if_neg (by rintro rfl;rw [h.gone _ hid hmid] at e;cases e)];exact e
 have hω:∀g p,ω g=some p→upd ω w.heap.size (some (.box id)) g=some p:=by
  intro g p e
  simp only [X8];rw [if_neg (by have:=h.lt g p e;omega)];exact e
 have hk:∀S,X6r S Φ Φ ω (upd ω w.heap.size (some (.box id))) w (w.alloc ob):=fun S q _ g e=>⟨Below.heap_alloc _ _ _ (h.lt g _ e),fun _=>rfl,hω _ _ e⟩
 refine ⟨h.below.alloc _,h.defers,h.size,?_,h.old,fun t=>(h.tmps t).mono (fun _ _ _ e=>e) hμ,fun t n k cs E e=>(h.own t n k cs E e).step (fun g e=>hk (fun _=>True) _ trivial g e),fun i bs e=>(h.box i bs e).step (fun _ _ _ e=>e) hμ (hk _),?_,?_,h.gmu,fun i g e hi=>?_,h.ext,fun i X' e=>?_,fun g p e=>?_⟩
 ·intro b o u e
  rw [X1c _ _ _ _ (h.fresh e)];exact h.imm b o u e
 ·intro i e em
  by_cases hi:i=id
  ·subst hi;simp [X8] at em
  ·simp only [X8,if_neg hi] at em ⊢; exact h.gone i e em
 ·intro g p e
  simp only [X8] at e
  split at e
  ·subst g;simp
  ·have:=h.lt g p e;simp;omega
 ·have hne:i≠id:=by have:=h.gmu i g e;omega
  simp only [X8,if_neg hne] at hi ⊢
  exact h.kmu i g e hi
 ·by_cases hi:i=id
  ·subst hi
   simp only [X8,if_true] at e
   cases e
   refine ⟨w.heap.size,by simp [X8], .inl hW,by simp [X8],fun j=>?_,?_⟩
   ·cases hj:Φ w.heap.size j with
    |none=>rfl
    |some u=>have:=h.fresh hj;omega
   ·cases X with
    |map es clock=>
     obtain ⟨rfl,rfl⟩:=hX
     exact ⟨⟨S_,S_⟩,#[],heap_alloc_new w _,rfl,fun j s k c hj=>by simp at hj⟩
    |iter mid since seen last=>
     obtain ⟨gm,e1,rfl⟩:=hX
     exact ⟨gm,hμ _ _ e1,heap_alloc_new w _⟩
  ·simp only [X8,if_neg hi] at e
   exact (h.map i X' e).step (fun _ _ _ e=>e) hμ (hk _)
 ·simp only [X8] at e
  split at e
  ·subst g;exact .inl hW
  ·exact h.mine g p e
end
section
open Go.RowKit
inductive TD where
 |int (k:IntKind)|bool|str
 |slice (e:TypeId) (k by_:Nat) (zero:List PV)
 |struct (fs:List (Nat×Nat×Bool))
 |arr (n:Nat) (e:TypeId) (k:Nat) (agg:Bool)
 |parr (n:Nat) (e:TypeId) (k:Nat)
 |ptr|func|map (k e:TypeId)
 |other
inductive SK where
 |int|bool|str
 deriving DecidableEq
structure TyI where
 size:Nat
 agg:Bool
 kind:TD
 zero:List PV
 eqs:List SK
def aggD:TypeDesc→Bool
 | .struct _ | .array _ _=>true
 |_=>false
def tdOf (P:Program):TypeDesc→TD
 | .int k=>.int k
 | .bool=>.bool
 | .string=>.str
 | .slice e=>match P.info? e with
  |some i=>match i.zero with
   |some z=>if z.cells.toList.length=i.size∧0 < i.size∧z.cells.toList.all (·.oneCell') then .slice e i.size i.bytes (z.cells.toList.map pv0) else .other
   |none=>.other
  |none=>.other
 | .struct fs=>match fs.toList.mapM (m:=Option) (fun f=>match P.info? f.type,P.underlying f.type with|some i,some d=>some (f.offset,i.size,aggD d)|_,_=>none) with
  |some l=>.struct l
  |none=>.other
 | .array n e=>match P.info? e,P.underlying e with
  |some i,some d=>.arr n e i.size (aggD d)
  |_,_=>.other
 | .pointer t=>match P.underlying t with
  |some (.array n e)=>match P.info? e with
   |some i=>.parr n e i.size
   |none=>.other
  |some _=>.ptr
  |none=>.other
 | .func _ _ _=>.func
 | .map k e=>.map k e
 |_=>.other
def skOf (P:Program) (t:TypeId):Option SK:=match P.underlying t,P.info? t with
 |some (.int _),some i=>if i.size=1 then some .int else none
 |some .bool,some i=>if i.size=1 then some .bool else none
 |some .string,some i=>if i.size=1 then some .str else none
 |_,_=>none
def eqsD (P:Program):Nat→TypeId→Option (List SK)
 |0,_=>none
 |d+1,t=>match skOf P t with
  |some k=>some [k]
  |none=>match P.underlying t,P.info? t with
   |some (.struct fs),some i=>if P.stoodInHeld t=false then
     match fs.toList.foldr (fun f acc=>match acc with
      |some (off,l)=>if f.name ≠ "_" then match eqsD P d f.type with
       |some m=>if f.offset+m.length=off then some (f.offset,m ++ l) else none
       |none=>none else none
      |none=>none) (some (i.size,[])) with
     |some (0,l)=>if l.length=i.size then some l else none
     |_=>none
    else none
   |some (.array n e),some i=>match eqsD P d e,P.info? e with
    |some l,some ie=>if l.length=ie.size∧i.size=n * ie.size then some ((List.replicate n l).flatten) else none
    |_,_=>none
   |_,_=>none
def Xbj (P:Program) (t:TypeId):List SK:=match P.underlying t with
 |some (.struct _)=>if P.eqGuardType P.depth t=false then (eqsD P 6 t).getD [] else []
 |some (.array _ _)=>if P.eqGuardType P.depth t=false then (eqsD P 6 t).getD [] else []
 |_ => []
def Xnk:Value→Bool
 | .agg _=>true
 |_=>false
def tyI (P:Program) (t:TypeId):Option TyI:=
 match P.info? t,P.underlying t with
 |some i,some d=>match i.zero with
  |some z=>if z.cells.toList.length=i.size∧z.cells.toList.all (·.oneCell')∧Xnk z=aggD d then some ⟨i.size,aggD d,tdOf P d,z.cells.toList.map pv0,Xbj P t⟩ else none
  |none=>none
 |_,_=>none
def Kf (P:Program):List (Option TyI):=(List.range P.types.size).map (tyI P)
theorem Xtd {P:Program} {T:List (Option TyI)} (hT:T=Kf P) {t:TypeId} {x:TyI} (h:T[t]? = some (some x)):tyI P t=some x:=by
 subst hT
 rw [Kf,M_] at h
 by_cases ht:t < P.types.size
 ·simpa [ht] using h
 ·simp [ht] at h
theorem K1 {P:Program} {t:TypeId} {x:TyI} (h:tyI P t=some x):∃i d z,P.info? t=some i∧P.underlying t=some d∧i.zero=some z∧z.cells.size=i.size∧(∀c∈z.cells.toList,c.oneCell' = true)∧x=⟨i.size,aggD d,tdOf P d,z.cells.toList.map pv0,Xbj P t⟩:=by
 unfold tyI at h
 split at h
 ·rename_i i d h1 h2
  split at h
  ·rename_i z h3
   split at h
   ·rename_i h4
    exact ⟨i,d,z,h1,h2,h3,by simpa using h4.1,fun c hc=>List.all_eq_true.1 h4.2.1 c hc,by simpa using h.symm⟩
   ·cases h
  ·cases h
 ·cases h
theorem Y3m {P:Program} {t:TypeId} {x:TyI} (h:tyI P t=some x):∃i z,P.info? t=some i∧i.zero=some z∧Xnk z=x.agg∧x.zero=z.cells.toList.map pv0:=by
 unfold tyI at h
 split at h
 ·rename_i i d h1 h2
  split at h
  ·rename_i z h3
   split at h
   ·rename_i h4
    cases h
    exact ⟨i,z,h1,h3,h4.2.2,rfl⟩
   ·cases h
  ·cases h
 ·cases h
theorem X5g {P:Program} {t:TypeId} {d:TypeDesc} (h:P.underlying t=some d) (w:World):(isAgg t).run P w = .ok (aggD d) w:=by
 unfold isAgg
 simp only [Sem.run_bind,run_underlying h,Result.andThen_ok]
 cases d<;>simp [aggD]
theorem Yc {P:Program} {t:TypeId} {i:TypeInfo} (h:P.info? t=some i) (w:World):(sizeOf t).run P w = .ok i.size w:=by
 simp [sizeOf,typeInfo,h]
def pev (σ:PS):Operand→PV
 | .tmp t=>(σ.t t).bare
 | .const v=>pvC v
 | .func f=>cond (Nat.blt f 1000000) (.fn f []) .undef
 | .global g=>Xe2 g X3b
end
section
open Go.RowKit
variable {Φ0:Ent} {W:World} {M:Nat} {Φ:Imm} {μ:Nat→Option Nat} {ω:Nat→Option Who} {σ:PS} {a:Act} {w:World}
theorem RelG.ev (h:RelG Φ0 W M Φ μ ω σ a w) (x:Operand):Rep Φ μ (pev σ x) (a.eval x):=by
 cases x with
 |tmp t=>exact (h.tmps t).bare
 |const v=>exact Y1r v
 |func f=>
  simp only [pev]
  cases hb:Nat.blt f 1000000 with
  |false=>exact .undef _
  |true=>
   have h1:=(RepL.nil (Φ:=Φ) (μ:=μ)).fn f
   have hlt:f < 1000000:=by simpa [Nat.blt_eq] using hb
   unfold fnV at h1
   rw [if_pos hlt] at h1
   exact h1
 |global g=>exact Xfb X3b fun x hx j z e=>(h.ext _ _ _ (Φ0.glob x hx j z e)).1
theorem X3x (σ:PS) (x:Operand):(pev σ x).ownB=false:=by
 cases x with
 |tmp t=>exact PV.bare_own _
 |const v=>exact Xgy v
 |func f=>
  show (cond (Nat.blt f 1000000) (PV.fn f []) .undef).ownB=false
  cases Nat.blt f 1000000<;>rfl
 |global g=>exact X3e g _
end
section
open Go.RowKit
def X6f (agg:Bool) (k:Nat) (cs:List PV) (off:Nat):Option PV:=
 if agg then (if off+k≤cs.length then some (.agg (((cs.drop off).take k).map PV.bare)) else none) else (cs[off]?).map PV.bare
def Zj (x:TyI) (b:Nat→Option (List PV)):PV→Option PV
 | .ptr id off=>match b id with
  |some bs=>X6f x.agg x.size bs off
  |none=>none
 | .ep cs off=>X6f x.agg x.size cs off
 |_=>none
end
section
open Go.RowKit
variable {Φ0:Ent} {W:World} {M:Nat} {Φ:Imm} {μ:Nat→Option Nat} {ω:Nat→Option Who} {σ:PS} {a:Act} {w:World} {P:Program}
theorem Xe1 {cs:List PV} {off b o:Nat} {us:Nat→Value} {t:TypeId} {x:TyI} {p:PV} (ht:tyI P t=some x) (hc:∀j,j < cs.length→w.cell? ⟨b,o+j,none⟩=some (us j)) (hr:∀j c,cs[j]? = some c→Rep Φ μ c (us j)) (hp:X6f x.agg x.size cs off=some p) :
  ∃v,(loadVar t ⟨b,o+off,none⟩).run P w = .ok v w∧Rep Φ μ p v∧p.ownB=false:=by
 obtain ⟨i,d,z,h1,h2,h3,h4,-,rfl⟩:=K1 ht
 simp only [X6f] at hp
 unfold loadVar
 simp only [Sem.run_bind,X5g h2,Result.andThen_ok]
 split at hp
 ·rename_i hagg
  split at hp
  ·rename_i hle
   cases hp
   simp only [hagg,if_true,Sem.run_bind,Yc h1,Result.andThen_ok]
   have hlen:((List.range i.size).map (fun j=>us (off+j))).length=i.size:=S_
   have:=(run_loadCells_list (P:=P) (w:=w) ⟨b,o+off,none⟩ ((List.range i.size).map (fun j=>us (off+j))) (by
    intro j v hj
    simp only [M_] at hj
    obtain ⟨j',hj',rfl⟩:=Option.map_eq_some_iff.1 hj
    have hlt:j < i.size:=by
     have:=(List.getElem?_eq_some_iff.1 hj').1
     simpa using this
    simp [hlt] at hj'
    subst hj'
    rw [Addr.add_lit,Nat.add_assoc]
    exact hc (off+j) O_))
   rw [hlen] at this
   rw [this]
   refine ⟨_,rfl,?_,rfl⟩
   have:RepL Φ μ (((cs.drop off).take i.size).map PV.bare) ((List.range i.size).map (fun j=>us (off+j))):=by
    refine ⟨by simp;omega,fun j c u hj hu=>?_⟩
    simp only [M_] at hj hu
    obtain ⟨c',hc',rfl⟩:=Option.map_eq_some_iff.1 hj
    obtain ⟨j',hj',rfl⟩:=Option.map_eq_some_iff.1 hu
    have hlt:j < i.size:=by
     have:=(List.getElem?_eq_some_iff.1 hj').1
     simpa using this
    simp [hlt] at hj'
    subst hj'
    rw [List.getElem?_take,if_pos hlt,List.getElem?_drop] at hc'
    exact (hr _ _ hc').bare
   exact this.agg
  ·cases hp
 ·rename_i hagg
  obtain ⟨c,hc',rfl⟩:=Option.map_eq_some_iff.1 hp
  have hagg' : aggD d=false:=by simpa using hagg
  simp only [hagg',Bool.false_eq_true,if_false]
  have hlt:=(List.getElem?_eq_some_iff.1 hc').1
  refine ⟨us off,?_,(hr off c hc').bare,PV.bare_own _⟩
  simp [hc off hlt]
theorem RelG.load (h:RelG Φ0 W M Φ μ ω σ a w) {t:TypeId} {x:TyI} (ht:tyI P t=some x) {q p:PV} {v:Value} (hv:Rep Φ μ q v) (hp:Zj x σ.b q=some p):∃u,(Instr.loadAt t v).run P w = .ok u w∧Rep Φ μ p u∧p.ownB=false:=by
 cases q with
 |ptr id off=>
  obtain ⟨g,hg,rfl⟩:=hv.ptr_inv
  simp only [Zj] at hp
  split at hp
  ·rename_i bs hbs
   obtain ⟨g',cur,T,k1,k2,k3,k4,k5,k6,k7⟩:=h.box id bs hbs
   rw [hg] at k1;cases k1
   have:=Xe1 (P:=P) (w:=w) (Φ:=Φ) (μ:=μ) (cs:=bs) (off:=off) (b:=g) (o:=0) (us:=fun j=>cur.getD j undef) ht (by
    intro j hj
    have:w.cell? ⟨g,0+j,none⟩=cur[j]?:=by simp [World.cell?,k2]
    rw [this,Array.getElem?_eq_getElem O_]
    have hjc:j < cur.size:=O_
    simp [Array.getD,hjc]) (by
    intro j c hc
    obtain ⟨u,r1,r2,r3,-⟩:=k7 j c hc
    have:cur.getD j undef=u:=by simp [Array.getD_eq_getD_getElem?,r1]
    rw [this];exact r3) hp
   obtain ⟨u,r1,r2,r3⟩:=this
   refine ⟨u,?_,r2,r3⟩
   simpa [Instr.loadAt,Instr.sureAddr] using r1
  ·cases hp
 |ep cs off=>
  obtain ⟨b,o,us,rfl,h1,h2⟩:=hv.ep_inv
  obtain ⟨u,r1,r2,r3⟩:=Xe1 (P:=P) (w:=w) (off:=off) ht (fun j hj=>h.imm _ _ _ (h1 j hj)) h2 hp
  refine ⟨u,?_,r2,r3⟩
  simpa [Instr.loadAt,Instr.sureAddr] using r1
 |_=>simp [Zj] at hp
end
section
open Go.RowKit
def pbin (op:BinOp):Value→Value→Option Value
 | .int k x, .int k' y=>
  match op with
  | .shl=>if 0≤y then some (.int k (k.wrap (x * 2 ^ (min y.toNat k.bits)))) else none
  | .shr=>if 0≤y then some (.int k (x.fdiv (2 ^ (min y.toNat k.bits)))) else none
  | .add=>if k=k' then some (.int k (k.wrap (x+y))) else none
  | .sub=>if k=k' then some (.int k (k.wrap (x - y))) else none
  | .mul=>if k=k' then some (.int k (k.wrap (x * y))) else none
  | .quo=>if k=k'∧y≠0 then some (.int k (k.wrap (x.tdiv y))) else none
  | .rem=>if k=k'∧y≠0 then some (.int k (x.tmod y)) else none
  | .and=>if k=k' then some (.int k (k.wrap (BitVec.ofInt k.bits x &&& BitVec.ofInt k.bits y).toNat)) else none
  | .or=>if k=k' then some (.int k (k.wrap (BitVec.ofInt k.bits x ||| BitVec.ofInt k.bits y).toNat)) else none
  | .xor=>if k=k' then some (.int k (k.wrap (BitVec.ofInt k.bits x ^^^ BitVec.ofInt k.bits y).toNat)) else none
  | .eql=>if k=k' then some (.bool (x == y)) else none
  | .neq=>if k=k' then some (.bool (x != y)) else none
  | .lss=>if k=k' then some (.bool (decide (x < y))) else none
  | .leq=>if k=k' then some (.bool (decide (x≤y))) else none
  | .gtr=>if k=k' then some (.bool (decide (x > y))) else none
  | .geq=>if k=k' then some (.bool (decide (x≥y))) else none
  |_=>none
 | .string x, .string y=>
  match op with
  | .eql=>some (.bool (x.toList == y.toList))
  | .neq=>some (.bool !(x.toList == y.toList))
  | .lss=>some (.bool (Op.bytesLess x.toList y.toList))
  | .leq=>some (.bool (Op.bytesLess x.toList y.toList || x.toList == y.toList))
  | .gtr=>some (.bool !(Op.bytesLess x.toList y.toList || x.toList == y.toList))
  | .geq=>some (.bool !(Op.bytesLess x.toList y.toList))
  |_=>none
 |_,_=>none
theorem Xop {P : Program} {w : World} {op : BinOp} {t : TypeId} {x y : Operand} {u v r : Value} (h : pbin op u v = some r) : (do eqGuard op t x y u v; binOp op t u v : Sem Value).run P w = .ok r w ∧ X2v r = true := by
  unfold pbin at h
  split at h
  · rename_i k a k' b
    have hg : (eqGuard op t x y (.int k a) (.int k' b)).run P w = .ok () w := by
      unfold eqGuard; split <;> simp
    rw [Sem.run_bind, hg, Result.andThen_ok]
    cases op <;> simp only [] at h <;> first
      | (cases h; done)
      | (split at h
         · rename_i hk
           cases h
           refine ⟨?_, rfl⟩
           first
             | (obtain ⟨rfl, hy⟩ := hk; simp [binOp, Op.intDiv, hy]; done)
             | (subst hk; simp [binOp, Op.intArith, Op.intBits, Op.intCmp]; done)
             | (simp [binOp, Op.shift, Int.not_lt.2 hk]; done)
         · cases h)
  · rename_i a b
    have hg : (eqGuard op t x y (.string a) (.string b)).run P w = .ok () w := by
      unfold eqGuard; split <;> simp
    rw [Sem.run_bind, hg, Result.andThen_ok]
    cases op <;> simp only [] at h <;> first
      | (cases h; done)
      | (cases h; exact ⟨by simp [binOp, Op.stringOp], rfl⟩)
  · cases h
def Y2g (op:BinOp):TD→Value→Value→Option Value
 | .bool, .bool a, .bool b=>match op with
  | .eql=>some (.bool (a == b))
  | .neq=>some (.bool (a != b))
  |_=>none
 |_,_,_=>none
theorem Xlg {P:Program} {w:World} {op:BinOp} {t:TypeId} {x y:Operand} {u v r:Value} {ti:TyI} (ht:tyI P t=some ti) (h:Y2g op ti.kind u v=some r):(do eqGuard op t x y u v;binOp op t u v:Sem Value).run P w = .ok r w∧X2v r=true:=by
 obtain ⟨i,d,z,h1,h2,h3,h4,-,rfl⟩:=K1 ht
 simp only at h
 unfold Y2g at h
 split at h
 ·rename_i a b hd
  have hd' : d = .bool:=by
   cases d with
   |bool=>rfl
   |slice e=>simp only [tdOf] at hd;split at hd<;>(try split at hd)<;>(try split at hd)<;>cases hd
   |struct fs=>simp only [tdOf] at hd;split at hd<;>cases hd
   |array n e=>simp only [tdOf] at hd;split at hd<;>cases hd
   |pointer e=>simp only [tdOf] at hd;split at hd<;>(try split at hd)<;>cases hd
   |_=>cases hd
  subst hd'
  have hg:(eqGuard op t x y (.bool a) (.bool b)).run P w = .ok () w:=by
   unfold eqGuard;split<;>simp
  rw [Sem.run_bind,hg,Result.andThen_ok]
  have he:(Op.equal t (.bool a) (.bool b)).run P w = .ok (a == b) w:=by
   unfold Op.equal
   rw [show Op.maxDepth=9999+1 from rfl,Op.equalIn]
   simp only [Sem.run_bind,run_underlying h2,Result.andThen_ok]
   simp
  cases op<;>simp only [] at h<;>first
   |(cases h;done)
   |(cases h;exact ⟨by simp only [binOp,Sem.run_bind,he,Result.andThen_ok];simp [bne],rfl⟩)
 ·cases h
def pun (op:UnOp):Value→Option Value
 | .bool b=>match op with
  | .not=>some (.bool !b)
  |_=>none
 | .int k n=>match op with
  | .neg=>some (.int k (k.wrap (0 - n)))
  | .xor=>some (.int k (k.wrap (BitVec.ofInt k.bits (if k.signed then -1 else k.max) ^^^ BitVec.ofInt k.bits n).toNat))
  |_=>none
 |_=>none
theorem Xrq {P:Program} {w:World} {op:UnOp} {u r:Value} (h:pun op u=some r):(Op.unary op u).run P w = .ok r w∧X2v r=true:=by
 unfold pun at h
 split at h
 ·cases op<;>simp only [] at h<;>first|(cases h;done)|(cases h;exact ⟨by simp [Op.unary],rfl⟩)
 ·cases op<;>simp only [] at h<;>first|(cases h;done)|(cases h;refine ⟨?_,rfl⟩;simp [Op.unary,Op.intArith];done)|(cases h;refine ⟨?_,rfl⟩;simp [Op.unary,Op.intBits];done)
 ·cases h
def Xi2 (l:List (Nat×Nat×Bool)) (f:Nat):PV→Option PV
 | .ptr id o=>match l[f]? with
  |some (off,size,_)=>if size≠0 then some (.ptr id (o+off)) else none
  |none=>none
 | .ep cs o=>match l[f]? with
  |some (off,size,_)=>if size≠0 then some (.ep cs (o+off)) else none
  |none=>none
 |_=>none
theorem Xg0 {α β:Type} (g:α→Option β):∀(l:List α) (r:List β),l.mapM g=some r→∀(j:Nat) b,r[j]? = some b→∃x,l[j]? = some x∧g x=some b
 | [],r,h,j,b,hj=>by simp at h;subst h;simp at hj
 |x :: l,r,h,j,b,hj=>by
  rw [List.mapM_cons] at h
  cases hx:g x with
  |none=>rw [hx] at h;simp at h
  |some y=>
   rw [hx] at h
   cases hl:l.mapM g with
   |none=>rw [hl] at h;simp at h
   |some r' =>
    rw [hl] at h
    simp at h
    subst h
    cases j with
    |zero=>simp at hj;subst hj;exact ⟨x,rfl,hx⟩
    |succ j=>simp at hj;simpa using Xg0 g l r' hl j b hj
theorem Xgh {α β:Type} (g:α→Option β):∀(l:List α) (r:List β),l.mapM g=some r→r.length=l.length
 | [],r,h=>by simp at h;subst h;rfl
 |x :: l,r,h=>by
  rw [List.mapM_cons] at h
  cases hx:g x with
  |none=>rw [hx] at h;simp at h
  |some y=>
   rw [hx] at h
   cases hl:l.mapM g with
   |none=>rw [hl] at h;simp at h
   |some r' =>
    rw [hl] at h
    simp at h
    subst h
    simp [Xgh g l r' hl]
theorem X8z {P:Program} {t:TypeId} {ti:TyI} (ht:tyI P t=some ti) {l:List (Nat×Nat×Bool)} (hk:ti.kind = .struct l):∃fs,P.underlying t=some (.struct fs)∧l.length=fs.size ∧
  ∀(f off size:Nat) (agg:Bool),l[f]? = some (off,size,agg)→∃(fd:Field) (i:TypeInfo) (d:TypeDesc),fs[f]? = some fd∧fd.offset=off∧P.info? fd.type=some i∧i.size=size∧P.underlying fd.type=some d∧aggD d=agg:=by
 obtain ⟨i,d,z,h1,h2,h3,h4,-,rfl⟩:=K1 ht
 simp only at hk
 have:∃fs,d = .struct fs:=by
  cases d with
  |struct fs=>exact ⟨fs,rfl⟩
  |slice e=>simp only [tdOf] at hk;split at hk<;>(try split at hk)<;>(try split at hk)<;>cases hk
  |array n e=>simp only [tdOf] at hk;split at hk<;>cases hk
  |pointer e=>simp only [tdOf] at hk;split at hk<;>(try split at hk)<;>cases hk
  |_=>cases hk
 obtain ⟨fs,rfl⟩:=this
 simp only [tdOf] at hk
 split at hk
 ·rename_i l' hm
  cases hk
  refine ⟨fs,h2,by simpa using Xgh _ _ _ hm,fun f off size agg hl=>?_⟩
  obtain ⟨fd,hf,hg⟩:=Xg0 _ _ _ hm f _ hl
  split at hg
  ·rename_i i' d' e1 e2
   simp only [Option.some.injEq,Prod.mk.injEq] at hg
   exact ⟨fd,i',d',by simpa using hf,hg.1,e1,hg.2.1,e2,hg.2.2⟩
  ·cases hg
 ·cases hk
theorem Ys {P:Program} {t:TypeId} {ti:TyI} (ht:tyI P t=some ti) {e k by_:Nat} {zr:List PV} (hk:ti.kind = .slice e k by_ zr):P.underlying t=some (.slice e) ∧
  ∃(i:TypeInfo) (z:Value),P.info? e=some i∧i.zero=some z∧i.size=k∧i.bytes=by_∧z.cells.size=k∧0 < k∧(∀c∈z.cells.toList,c.oneCell' = true)∧zr=z.cells.toList.map pv0:=by
 obtain ⟨i,d,z,h1,h2,h3,h4,-,rfl⟩:=K1 ht
 simp only at hk
 have:∃e,d = .slice e:=by
  cases d with
  |slice e=>exact ⟨e,rfl⟩
  |struct fs=>simp only [tdOf] at hk;split at hk<;>cases hk
  |array n e=>simp only [tdOf] at hk;split at hk<;>cases hk
  |pointer e=>simp only [tdOf] at hk;split at hk<;>(try split at hk)<;>cases hk
  |_=>cases hk
 obtain ⟨e',rfl⟩:=this
 simp only [tdOf] at hk
 split at hk
 ·rename_i i' hi
  split at hk
  ·rename_i z' hz
   split at hk
   ·rename_i hc
    cases hk
    exact ⟨h2,i',z',hi,hz,rfl,rfl,by simpa using hc.1,hc.2.1,fun c hcm=>List.all_eq_true.1 hc.2.2 c hcm,rfl⟩
   ·cases hk
  ·cases hk
 ·cases hk
theorem X51 {P:Program} {t:TypeId} {ti:TyI} (ht:tyI P t=some ti) {n e k:Nat} {ag:Bool} (hk:ti.kind = .arr n e k ag):P.underlying t=some (.array n e)∧∃(i:TypeInfo) (d:TypeDesc),P.info? e=some i∧i.size=k∧P.underlying e=some d∧aggD d=ag:=by
 obtain ⟨i,d,z,h1,h2,h3,h4,-,rfl⟩:=K1 ht
 simp only at hk
 have:∃n e,d = .array n e:=by
  cases d with
  |array n e=>exact ⟨n,e,rfl⟩
  |struct fs=>simp only [tdOf] at hk;split at hk<;>cases hk
  |slice e=>simp only [tdOf] at hk;split at hk<;>(try split at hk)<;>(try split at hk)<;>cases hk
  |pointer e=>simp only [tdOf] at hk;split at hk<;>(try split at hk)<;>cases hk
  |_=>cases hk
 obtain ⟨n',e',rfl⟩:=this
 simp only [tdOf] at hk
 split at hk
 ·rename_i i' d' hi hd
  cases hk
  exact ⟨h2,i',d',hi,rfl,hd,rfl⟩
 ·cases hk
theorem Xmq {P:Program} {t:TypeId} {ti:TyI} (ht:tyI P t=some ti) {n e k:Nat} (hk:ti.kind = .parr n e k):∃t',P.underlying t=some (.pointer t')∧P.underlying t' = some (.array n e)∧∃(i:TypeInfo),P.info? e=some i∧i.size=k:=by
 obtain ⟨i,d,z,h1,h2,h3,h4,-,rfl⟩:=K1 ht
 simp only at hk
 have:∃t',d = .pointer t':=by
  cases d with
  |pointer e=>exact ⟨e,rfl⟩
  |struct fs=>simp only [tdOf] at hk;split at hk<;>cases hk
  |slice e=>simp only [tdOf] at hk;split at hk<;>(try split at hk)<;>(try split at hk)<;>cases hk
  |array n e=>simp only [tdOf] at hk;split at hk<;>cases hk
  |_=>cases hk
 obtain ⟨t',rfl⟩:=this
 simp only [tdOf] at hk
 split at hk
 ·rename_i n' e' hu
  split at hk
  ·rename_i i' hi
   cases hk
   exact ⟨t',h2,hu,i',hi,rfl⟩
  ·cases hk
 ·cases hk
 ·cases hk
theorem Xwr {P:Program} {t:TypeId} {ti:TyI} (ht:tyI P t=some ti) (hk:ti.kind = .ptr):∃e,P.underlying t=some (.pointer e):=by
 obtain ⟨i,d,z,h1,h2,h3,h4,-,rfl⟩:=K1 ht
 simp only at hk
 cases d with
 |pointer e=>exact ⟨e,h2⟩
 |struct fs=>simp only [tdOf] at hk;split at hk<;>cases hk
 |slice e=>simp only [tdOf] at hk;split at hk<;>(try split at hk)<;>(try split at hk)<;>cases hk
 |array n e=>simp only [tdOf] at hk;split at hk<;>cases hk
 |_=>cases hk
theorem Xk4 {P:Program} {t:TypeId} {ti:TyI} (ht:tyI P t=some ti) (hk:ti.kind = .func):∃p r v,P.underlying t=some (.func p r v):=by
 obtain ⟨i,d,z,h1,h2,h3,h4,-,rfl⟩:=K1 ht
 simp only at hk
 cases d with
 |func p r v=>exact ⟨p,r,v,h2⟩
 |struct fs=>simp only [tdOf] at hk;split at hk<;>cases hk
 |slice e=>simp only [tdOf] at hk;split at hk<;>(try split at hk)<;>(try split at hk)<;>cases hk
 |array n e=>simp only [tdOf] at hk;split at hk<;>cases hk
 |pointer e=>simp only [tdOf] at hk;split at hk<;>(try split at hk)<;>cases hk
 |_=>cases hk
theorem X2s {P:Program} {t:TypeId} {ti:TyI} (ht:tyI P t=some ti) {k e:TypeId} (hk:ti.kind = .map k e):P.underlying t=some (.map k e):=by
 obtain ⟨i,d,z,h1,h2,h3,h4,-,rfl⟩:=K1 ht
 simp only at hk
 cases d with
 |map k' e' => cases hk;exact h2
 |struct fs=>simp only [tdOf] at hk;split at hk<;>cases hk
 |slice e=>simp only [tdOf] at hk;split at hk<;>(try split at hk)<;>(try split at hk)<;>cases hk
 |array n e=>simp only [tdOf] at hk;split at hk<;>cases hk
 |pointer e=>simp only [tdOf] at hk;split at hk<;>(try split at hk)<;>cases hk
 |_=>cases hk
theorem X80 {P:Program} {t:TypeId} {ti:TyI} (ht:tyI P t=some ti) {k:IntKind} (hk:ti.kind = .int k):P.underlying t=some (.int k):=by
 obtain ⟨i,d,z,h1,h2,h3,h4,-,rfl⟩:=K1 ht
 simp only at hk
 cases d with
 |int k' => cases hk;exact h2
 |struct fs=>simp only [tdOf] at hk;split at hk<;>cases hk
 |slice e=>simp only [tdOf] at hk;split at hk<;>(try split at hk)<;>(try split at hk)<;>cases hk
 |array n e=>simp only [tdOf] at hk;split at hk<;>cases hk
 |pointer e=>simp only [tdOf] at hk;split at hk<;>(try split at hk)<;>cases hk
 |_=>cases hk
theorem X1z {P:Program} {t:TypeId} {ti:TyI} (ht:tyI P t=some ti) (hk:ti.kind = .str):P.underlying t=some .string:=by
 obtain ⟨i,d,z,h1,h2,h3,h4,-,rfl⟩:=K1 ht
 simp only at hk
 cases d with
 |string=>exact h2
 |struct fs=>simp only [tdOf] at hk;split at hk<;>cases hk
 |slice e=>simp only [tdOf] at hk;split at hk<;>(try split at hk)<;>(try split at hk)<;>cases hk
 |array n e=>simp only [tdOf] at hk;split at hk<;>cases hk
 |pointer e=>simp only [tdOf] at hk;split at hk<;>(try split at hk)<;>cases hk
 |_=>cases hk
end
section
open Go.RowKit
variable {Φ:Imm} {μ:Nat→Option Nat} {w:World} {P:Program}
theorem Xkr {s:TypeId} {ti:TyI} (ht:tyI P s=some ti) {l:List (Nat×Nat×Bool)} (hk:ti.kind = .struct l) {q p:PV} {v:Value} {f:Nat} (hv:Rep Φ μ q v) (hp:Xi2 l f q=some p) :
  ∃u,(Instr.fieldAt s v f).run P w = .ok u w∧Rep Φ μ p u∧p.ownB=false:=by
 obtain ⟨fs,hu,-,hget⟩:=X8z ht hk
 cases q with
 |ptr id o=>
  simp only [Xi2] at hp
  split at hp
  ·rename_i off size agg hl
   split at hp
   ·rename_i hs
    cases hp
    obtain ⟨fd,i,d,e1,e2,e3,e4,-,-⟩:=hget f _ _ _ hl
    obtain ⟨g,hg,rfl⟩:=hv.ptr_inv
    refine ⟨.pointer (some ⟨g,o+off,none⟩),?_, .ptr _ _ g hg,rfl⟩
    have hsz:i.size≠0:=by rw [e4];exact hs
    simp [Instr.fieldAt,run_underlying hu,e1,Instr.sureAddr,fieldPlace,Yc e3,hsz,Addr.add_lit,e2]
   ·cases hp
  ·cases hp
 |ep cs o=>
  simp only [Xi2] at hp
  split at hp
  ·rename_i off size agg hl
   split at hp
   ·rename_i hs
    cases hp
    obtain ⟨fd,i,d,e1,e2,e3,e4,-,-⟩:=hget f _ _ _ hl
    obtain ⟨b,o',us,rfl,k1,k2⟩:=hv.ep_inv
    refine ⟨.pointer (some ⟨b,o' + (o+off),none⟩),?_, .ep _ _ b o' us k1 k2,rfl⟩
    have hsz:i.size≠0:=by rw [e4];exact hs
    simp [Instr.fieldAt,run_underlying hu,e1,Instr.sureAddr,fieldPlace,Yc e3,hsz,Addr.add_lit,e2,Nat.add_assoc]
   ·cases hp
  ·cases hp
 |_=>simp [Xi2] at hp
def X2x (td:TD):PV→PV→Option PV
 | .sl n k cs _, .val (.int _ i)=>match td with
  | .slice _ k' _ _=>if k' = k∧0≤i∧i < n then some (.ep cs (i.toNat * k)) else none
  |_=>none
 | .msl id o n k, .val (.int _ i)=>match td with
  | .slice _ k' _ _=>if k' = k∧0≤i∧i < n then some (.ptr id (o+i.toNat * k)) else none
  |_=>none
 | .ptr id o, .val (.int _ i)=>match td with
  | .arr n _ k _=>if 0≤i∧i < n then some (.ptr id (o+i.toNat * k)) else none
  |_=>none
 | .ep cs o, .val (.int _ i)=>match td with
  | .arr n _ k _=>if 0≤i∧i < n then some (.ep cs (o+i.toNat * k)) else none
  |_=>none
 |_,_=>none
theorem Xly {t:TypeId} {ti:TyI} (ht:tyI P t=some ti) {q x p:PV} {v u:Value} (hv:Rep Φ μ q v) (hx:Rep Φ μ x u) (hp:X2x ti.kind q x=some p) :
  ∃r,(Instr.indexAt t v u).run P w = .ok r w∧Rep Φ μ p r∧p.ownB=false:=by
 unfold X2x at hp
 split at hp
 ·rename_i n k cs own ik i
  obtain ⟨rfl,-⟩:=hx.val_inv
  split at hp
  ·rename_i e k' by_ zr hk
   split at hp
   ·rename_i hc
    obtain ⟨rfl,h0,hn⟩:=hc
    cases hp
    obtain ⟨hu,i',z',e1,e2,e3,e4,e5,e6,-,-⟩:=Ys ht hk
    obtain ⟨a,b,off,cap,us,rfl,c1,c2,c3,c4,c5,c6⟩:=hv.sl_inv
    obtain rfl:=c4 O_
    refine ⟨.pointer (some ⟨b,off+i.toNat * k',none⟩),?_, .ep _ _ b off us c5 c6,rfl⟩
    simp [Instr.indexAt,asIntOf,run_underlying hu,h0,hn,Yc e1,e3,Addr.add_lit]
   ·cases hp
  ·cases hp
 ·rename_i id o n k ik i
  obtain ⟨rfl,-⟩:=hx.val_inv
  split at hp
  ·rename_i e k' by_ zr hk
   split at hp
   ·rename_i hc
    obtain ⟨rfl,h0,hn⟩:=hc
    cases hp
    obtain ⟨hu,i',z',e1,e2,e3,e4,e5,e6,-,-⟩:=Ys ht hk
    obtain ⟨a,cap,rfl,c1,c2,c4⟩:=hv.msl_inv
    obtain ⟨g,hg,rfl⟩:=c4 O_
    refine ⟨.pointer (some ⟨g,o+i.toNat * k',none⟩),?_, .ptr _ _ g hg,rfl⟩
    simp [Instr.indexAt,asIntOf,run_underlying hu,h0,hn,Yc e1,e3,Addr.add_lit]
   ·cases hp
  ·cases hp
 ·rename_i id o ik i
  obtain ⟨rfl,-⟩:=hx.val_inv
  split at hp
  ·rename_i n e k ag hk
   split at hp
   ·rename_i hc
    cases hp
    obtain ⟨hu,i',d',e1,e2,e3,e4⟩:=X51 ht hk
    obtain ⟨g,hg,rfl⟩:=hv.ptr_inv
    refine ⟨.pointer (some ⟨g,o+i.toNat * k,none⟩),?_, .ptr _ _ g hg,rfl⟩
    simp [Instr.indexAt,asIntOf,run_underlying hu,hc.1,hc.2,Yc e1,e2,Addr.add_lit,Instr.sureAddr]
   ·cases hp
  ·cases hp
 ·rename_i cs o ik i
  obtain ⟨rfl,-⟩:=hx.val_inv
  split at hp
  ·rename_i n e k ag hk
   split at hp
   ·rename_i hc
    cases hp
    obtain ⟨hu,i',d',e1,e2,e3,e4⟩:=X51 ht hk
    obtain ⟨b,o',us,rfl,k1,k2⟩:=hv.ep_inv
    refine ⟨.pointer (some ⟨b,o' + (o+i.toNat * k),none⟩),?_, .ep _ _ b o' us k1 k2,rfl⟩
    simp [Instr.indexAt,asIntOf,run_underlying hu,hc.1,hc.2,Yc e1,e2,Addr.add_lit,Instr.sureAddr,Nat.add_assoc]
   ·cases hp
  ·cases hp
 ·cases hp
end
section
open Go.RowKit
def Yf (dflt:Nat) (m:Nat):Option PV→Option Nat
 |none=>some dflt
 |some (.val (.int _ i))=>if 0≤i∧i≤m then some i.toNat else none
 |_=>none
def Xdl (td:TD) (x:PV) (lo hi:Option PV):Option PV:=
 match x with
 | .ptr id o=>match td with
  | .arr n _ k _=>match Yf n n hi with
   |some h=>match Yf 0 h lo with
    |some l=>if n≤1000000000 then some (.msl id (o+l * k) (h - l) k) else none
    |none=>none
   |none=>none
  | .parr n _ k=>match Yf n n hi with
   |some h=>match Yf 0 h lo with
    |some l=>if n≤1000000000 then some (.msl id (o+l * k) (h - l) k) else none
    |none=>none
   |none=>none
  |_=>none
 | .msl id o n k=>match td with
  | .slice _ k' _ _=>if k' = k then
    match Yf n n hi with
    |some h=>match Yf 0 h lo with
     |some l=>some (.msl id (o+l * k) (h - l) k)
     |none=>none
    |none=>none
   else none
  |_=>none
 | .sl n k cs _=>match td with
  | .slice _ k' _ _=>if k' = k then
    match Yf n n hi with
    |some h=>match Yf 0 h lo with
     |some l=>some (.sl (h - l) k ((cs.drop (l * k)).take ((h - l) * k)) none)
     |none=>none
    |none=>none
   else none
  |_=>none
 | .val (.string s)=>match td with
  | .str=>match Yf s.size s.size hi with
    |some h=>match Yf 0 h lo with
     |some l=>some (.val (.string (s.extract l h)))
     |none=>none
    |none=>none
  |_=>none
 |_=>none
end
section
open Go.RowKit
variable {Φ:Imm} {μ:Nat→Option Nat} {w:World} {P:Program}
theorem X2f {d m l:Nat} {p:PV} {u:Value} (hr:Rep Φ μ p u) (hp:Yf d m (some p)=some l) (m' : Nat) (hm:m≤m') (code:BoundsCode):(Instr.sliceBound u m' code).run P w = .ok l w∧l≤m:=by
 unfold Yf at hp
 split at hp
 ·rename_i e;cases e
 ·rename_i k i e
  cases e
  obtain ⟨rfl,-⟩:=hr.val_inv
  split at hp
  ·rename_i hc
   cases hp
   refine ⟨?_,O_⟩
   have h1:0≤i∧i≤(m' : Int):=⟨hc.1,O_⟩
   simp [Instr.sliceBound,asIntOf,h1]
  ·cases hp
 ·cases hp
def RepO (Φ:Imm) (μ:Nat→Option Nat) (x:Option PV) (v:Option Value):Prop:=match x,v with
 |none,none=>True
 |some p,some u=>Rep Φ μ p u
 |_,_=>False
theorem X04 {x y:Option PV} {vx vy:Option Value} (hx:RepO Φ μ x vx) (hy:RepO Φ μ y vy) {n h l cap:Nat} {isS:Bool} (hn:n≤cap) (h1:Yf n n y=some h) (h2:Yf 0 h x=some l) :
  (Instr.sliceBounds isS n cap vx vy none).run P w = .ok (l,h,cap) w∧l≤h∧h≤n:=by
 have a1:∀code,(match vy with|some v=>Instr.sliceBound v cap code|none=>pure n:Sem Nat).run P w = .ok h w∧h≤n:=by
  intro code
  cases y with
  |none=>cases vy with
   |none=>simp [Yf] at h1;subst h1;simp
   |some v=>exact hy.elim
  |some p=>cases vy with
   |none=>exact hy.elim
   |some v=>exact X2f hy h1 cap hn code
 have a2:∀code,(match vx with|some v=>Instr.sliceBound v h code|none=>pure 0:Sem Nat).run P w = .ok l w∧l≤h:=by
  intro code
  cases x with
  |none=>cases vx with
   |none=>simp [Yf] at h2;subst h2;simp
   |some v=>exact hx.elim
  |some p=>cases vx with
   |none=>exact hx.elim
   |some v=>exact X2f hx h2 h (Nat.le_refl _) code
 refine ⟨?_,(a2 .sliceB).2,(a1 .sliceB).2⟩
 unfold Instr.sliceBounds
 simp only [Sem.run_bind,Sem.run_pure,Result.andThen_ok]
 have b1:=(a1 (if isS=true then .sliceAcap else .sliceAlen)).1
 have b2:=(a2 .sliceB).1
 cases vy with
 |none=>
  simp only [Sem.run_pure] at b1
  cases b1
  cases vx with
  |none=>simp only [Sem.run_pure] at b2;cases b2;simp
  |some v=>simp only [] at b2;simp [b2]
 |some v=>
  simp only [] at b1
  cases vx with
  |none=>simp only [Sem.run_pure] at b2;cases b2;simp [b1]
  |some v=>simp only [] at b2;simp [b1,b2]
theorem Xkk {t:TypeId} {ti:TyI} (ht:tyI P t=some ti) {q p:PV} {v:Value} {x y:Option PV} {vx vy:Option Value} (hv:Rep Φ μ q v) (hx:RepO Φ μ x vx) (hy:RepO Φ μ y vy) (hp:Xdl ti.kind q x y=some p) :
  ∃r,(Instr.sliceAt t v vx vy none).run P w = .ok r w∧Rep Φ μ p r∧p.ownB=false:=by
 unfold Xdl at hp
 split at hp
 ·rename_i id o
  split at hp
  ·rename_i n e k ag hk
   split at hp
   ·rename_i h hh
    split at hp
    ·rename_i l hl
     split at hp
     case isFalse=>cases hp
     rename_i hm0
     have hm:n≤maxLen:=by unfold maxLen;omega
     cases hp
     obtain ⟨hu,i',d',e1,e2,e3,e4⟩:=X51 ht hk
     obtain ⟨g,hg,rfl⟩:=hv.ptr_inv
     obtain ⟨r1,r2,r3⟩:=X04 (P:=P) (w:=w) (isS:=false) hx hy (Nat.le_refl n) hh hl
     refine ⟨.slice (some (if n=l then ⟨g,o,none⟩ else (⟨g,o,none⟩:Addr).add (l * k))) (h - l) (n - l),?_, .msl _ _ _ _ _ _ (fun hpos=>⟨g,hg,?_⟩) O_ O_,rfl⟩
     ·simp only [Instr.sliceAt,Sem.run_bind,run_underlying hu,Result.andThen_ok,Instr.sureAddr,r1,Yc e1,e2,Sem.run_pure]
     ·rw [if_neg O_,Addr.add_lit]
    ·cases hp
   ·cases hp
  ·rename_i n e k hk
   split at hp
   ·rename_i h hh
    split at hp
    ·rename_i l hl
     split at hp
     case isFalse=>cases hp
     rename_i hm0
     have hm:n≤maxLen:=by unfold maxLen;omega
     cases hp
     obtain ⟨t',hu,hu',i',e1,e2⟩:=Xmq ht hk
     obtain ⟨g,hg,rfl⟩:=hv.ptr_inv
     obtain ⟨r1,r2,r3⟩:=X04 (P:=P) (w:=w) (isS:=false) hx hy (Nat.le_refl n) hh hl
     refine ⟨.slice (some (if n=l then ⟨g,o,none⟩ else (⟨g,o,none⟩:Addr).add (l * k))) (h - l) (n - l),?_, .msl _ _ _ _ _ _ (fun hpos=>⟨g,hg,?_⟩) O_ O_,rfl⟩
     ·simp only [Instr.sliceAt,Sem.run_bind,run_underlying hu,Result.andThen_ok,Instr.slice,asAddr,run_underlying hu',r1,Yc e1,e2,Sem.run_pure]
     ·rw [if_neg O_,Addr.add_lit]
    ·cases hp
   ·cases hp
  ·cases hp
 ·rename_i id o n k
  split at hp
  ·rename_i e k' by_ zr hk
   split at hp
   ·rename_i hkk
    subst hkk
    split at hp
    ·rename_i h hh
     split at hp
     ·rename_i l hl
      cases hp
      obtain ⟨hu,i',z',e1,e2,e3,e4,e5,e6,-,-⟩:=Ys ht hk
      obtain ⟨a,cap,rfl,c1,c2,c4⟩:=hv.msl_inv
      obtain ⟨r1,r2,r3⟩:=X04 (P:=P) (w:=w) (isS:=true) hx hy c1 hh hl
      refine ⟨.slice (if cap=l then a else a.map (·.add (l * k'))) (h - l) (cap - l),?_,?_,rfl⟩
      ·simp only [Instr.sliceAt,Sem.run_bind,run_underlying hu,Result.andThen_ok,Instr.slice,r1,Yc e1,e3,Sem.run_pure]
      ·refine .msl _ _ _ _ _ _ (fun hpos=>?_) O_ O_
       obtain ⟨g,hg,rfl⟩:=c4 O_
       rw [if_neg O_]
       exact ⟨g,hg,by simp only [Option.map_some,Addr.add_lit]⟩
     ·cases hp
    ·cases hp
   ·cases hp
  ·cases hp
 ·rename_i n k cs own
  split at hp
  ·rename_i e k' by_ zr hk
   split at hp
   ·rename_i hkk
    subst hkk
    split at hp
    ·rename_i h hh
     split at hp
     ·rename_i l hl
      cases hp
      obtain ⟨hu,i',z',e1,e2,e3,e4,e5,e6,-,-⟩:=Ys ht hk
      obtain ⟨a,b,off,cap,us,rfl,c1,c2,c3,c4,c5,c6⟩:=hv.sl_inv
      obtain ⟨r1,r2,r3⟩:=X04 (P:=P) (w:=w) (isS:=true) hx hy c1 hh hl
      refine ⟨.slice (if cap=l then a else a.map (·.add (l * k'))) (h - l) (cap - l),?_,?_,rfl⟩
      ·simp only [Instr.sliceAt,Sem.run_bind,run_underlying hu,Result.andThen_ok,Instr.slice,r1,Yc e1,e3,Sem.run_pure]
      ·by_cases hz:h - l=0
       ·have:(cs.drop (l * k')).take ((h - l) * k') = []:=by rw [hz];simp
        rw [this,hz]
        exact .sl0 _ _ _ _ O_
       ·obtain rfl:=c4 O_
        rw [if_neg O_]
        simp only [Option.map_some,Addr.add_lit]
        have hbig:l * k' + (h - l) * k'≤n * k':=by rw [←Nat.add_mul];exact Nat.mul_le_mul_right _ O_
        refine .sl _ _ _ _ b (off+l * k') _ (fun j=>us (l * k' + j)) ?_ O_ O_ ?_ ?_
        ·rw [T_,L_,c3];omega
        ·intro j hj
         rw [T_,L_,c3] at hj
         rw [Nat.add_assoc]
         exact c5 _ O_
        ·intro j c hc
         rw [List.getElem?_take] at hc
         split at hc
         ·rw [List.getElem?_drop] at hc;exact c6 _ _ hc
         ·cases hc
     ·cases hp
    ·cases hp
   ·cases hp
  ·cases hp
 ·rename_i s
  split at hp
  ·rename_i hk
   split at hp
   ·rename_i h hh
    split at hp
    ·rename_i l hl
     cases hp
     obtain ⟨rfl,-⟩:=hv.val_inv
     have hu:=X1z ht hk
     obtain ⟨r1,r2,r3⟩:=X04 (P:=P) (w:=w) (isS:=false) hx hy (Nat.le_refl s.size) hh hl
     refine ⟨.string (s.extract l h),?_, .val _ rfl,rfl⟩
     simp [Instr.sliceAt,run_underlying hu,Instr.slice,r1]
    ·cases hp
   ·cases hp
  ·cases hp
 ·cases hp
end
section
open Go.RowKit
def X01:PV→Option (List PV)
 | .agg cs=>if cs.all PV.one then some (cs.map PV.bare) else none
 |p=>if p.one then some [p.bare] else none
def Y5 (cs:List PV) (off:Nat) (new:List PV):List PV:=cs.take off ++ new ++ cs.drop (off+new.length)
def splF:List PV→Nat→List PV→List PV
 |cs,0,[]=>cs
 |_ :: cs,0,n :: new=>n :: splF cs 0 new
 | [],0,n :: new=>n :: new
 |c :: cs,off+1,new=>c :: splF cs off new
 | [],_+1,new=>new
theorem Zh:∀(cs:List PV) (off:Nat) (new:List PV),off+new.length≤cs.length→splF cs off new=Y5 cs off new
 |cs,0,[],_=>by cases cs<;>simp [splF,Y5]
 |c :: cs,0,n :: new,h=>by
  have:=Zh cs 0 new (by simp at h ⊢; omega)
  simp only [splF,this,Y5]
  simp [Nat.add_comm]
 | [],0,n :: new,h=>by simp at h
 |c :: cs,off+1,new,h=>by
  have:=Zh cs off new (by simp at h;omega)
  simp only [splF,this,Y5]
  rw [show off+1+new.length=(off+new.length)+1 by omega]
  simp
 | [],off+1,new,h=>by simp at h
def X11 (place:Nat→Option (Nat×Nat)) (cs:List PV):List (Nat×PV)→Option (List PV)
 | []=>some cs
 |(i,p) :: rest=>match place i,X01 p with
  |some (off,size),some new=>if new.length=size∧off+size≤cs.length then X11 place (splF cs off new) rest else none
  |_,_=>none
def X4r (Φ:Imm) (μ:Nat→Option Nat) (cs:List PV) (us:List Value):Prop:=RepL Φ μ cs us∧(∀u∈us,u.oneCell' = true)∧∀c∈cs,c.ownB=false
theorem Xci {Φ:Imm} {μ:Nat→Option Nat} {cs:List PV} {us:List Value} (h:RepL Φ μ cs us):RepL Φ μ (cs.map PV.bare) us:=by
 refine ⟨by simp [h.1],fun j c u h1 h2=>?_⟩
 rw [M_] at h1
 obtain ⟨c',hc',rfl⟩:=Option.map_eq_some_iff.1 h1
 exact (h.2 j c' u hc' h2).bare
theorem Xb7 {Φ:Imm} {μ:Nat→Option Nat} {cs:List PV} {us:List Value} (h:RepL Φ μ cs us) (ho:cs.all PV.one=true):∀u∈us,u.oneCell' = true:=by
 intro u hu
 obtain ⟨j,hj⟩:=List.getElem?_of_mem hu
 have hjl:j < cs.length:=by rw [←h.1];exact (List.getElem?_eq_some_iff.1 hj).1
 exact ((h.2 j cs[j] u (by simp [hjl]) hj).one (List.all_eq_true.1 ho _ S_)).1
theorem X54 {Φ:Imm} {μ:Nat→Option Nat} {p:PV} {v:Value} (h:Rep Φ μ p v) {cs:List PV} (hc:X01 p=some cs):X4r Φ μ cs v.cells.toList:=by
 unfold X01 at hc
 split at hc
 ·rename_i ds
  split at hc
  ·rename_i ho
   cases hc
   obtain ⟨us,rfl,hr⟩:=h.agg_inv
   refine ⟨by simpa [Value.cells] using Xci hr,by simpa [Value.cells] using Xb7 hr ho,fun c hcm=>?_⟩
   obtain ⟨c',-,rfl⟩:=List.mem_map.1 hcm
   exact PV.bare_own _
  ·cases hc
 ·split at hc
  ·rename_i ho
   cases hc
   obtain ⟨h1,h2⟩:=h.one ho
   rw [h2]
   refine ⟨RepL.cons h.bare RepL.nil,by simpa using h1,by simpa using PV.bare_own _⟩
  ·cases hc
theorem Xle {Φ:Imm} {μ:Nat→Option Nat} {cs new:List PV} {us vs:List Value} {off:Nat} (h:X4r Φ μ cs us) (hn:X4r Φ μ new vs) (hle:off+new.length≤cs.length):X4r Φ μ (Y5 cs off new) (us.take off ++ vs ++ us.drop (off+vs.length)):=by
 have hl:=h.1.1
 have hl2:=hn.1.1
 refine ⟨⟨?_,fun j c u h1 h2=>?_⟩,fun u hu=>?_,fun c hc=>?_⟩
 ·simp only [Y5,A_,T_,L_];omega
 ·unfold Y5 at h1
  by_cases h3:j < off
  ·rw [List.append_assoc,List.getElem?_append_left (by rw [T_];omega),List.getElem?_take,if_pos h3] at h1 h2
   exact h.1.2 j c u h1 h2
  ·by_cases h4:j < off+new.length
   ·rw [List.append_assoc,List.getElem?_append_right (by rw [T_];omega),T_,List.getElem?_append_left O_] at h1 h2
    rw [show min off cs.length=off by omega] at h1
    rw [show min off us.length=off by omega] at h2
    exact hn.1.2 _ c u h1 h2
   ·rw [List.getElem?_append_right (by rw [A_,T_];omega),A_,T_,List.getElem?_drop] at h1 h2
    rw [show off+new.length+(j - (min off cs.length+new.length))=j by omega] at h1
    rw [show off+vs.length+(j - (min off us.length+vs.length))=j by omega] at h2
    exact h.1.2 j c u h1 h2
 ·simp only [List.mem_append] at hu
  rcases hu with (hu|hu)|hu
  ·exact h.2.1 u (List.mem_of_mem_take hu)
  ·exact hn.2.1 u hu
  ·exact h.2.1 u (List.mem_of_mem_drop hu)
 ·simp only [Y5,List.mem_append] at hc
  rcases hc with (hc|hc)|hc
  ·exact h.2.2 c (List.mem_of_mem_take hc)
  ·exact hn.2.2 c hc
  ·exact h.2.2 c (List.mem_of_mem_drop hc)
theorem Xmi (off:Nat):∀(vs:List Value) (k:Nat) (cs:Array Value),off+k+vs.length≤cs.size →
  ((vs.zipIdx k).foldl (fun cs (x:Value×Nat)=>cs.setIfInBounds (off+x.2) x.1) cs).toList=cs.toList.take (off+k) ++ vs ++ cs.toList.drop (off+k+vs.length)
 | [],k,cs,h=>by simp
 |v :: vs,k,cs,h=>by
  simp only [C_] at h
  rw [List.zipIdx_cons,List.foldl_cons,Xmi off vs (k+1) _ (by simp;omega)]
  simp only [Array.toList_setIfInBounds]
  have hk:off+k < cs.toList.length:=by simp;omega
  rw [show off+(k+1)=off+k+1 by omega]
  rw [List.take_add_one,List.take_set_of_le O_,List.getElem?_set_self (by simpa using hk)]
  rw [List.drop_set_of_lt O_]
  simp only [Option.toList_some,List.append_assoc,List.cons_append,List.nil_append,C_]
  rw [show off+k+1+vs.length=off+k+(vs.length+1) by omega]
theorem X3g {Φ:Imm} {μ:Nat→Option Nat} (place:Nat→Option (Nat×Nat)):∀(ps:List (Nat×PV)) (vs:List (Nat×Value)) (cs:List PV) (cur:Array Value) (out:List PV),X4r Φ μ cs cur.toList →
  vs.length=ps.length→(∀(j:Nat) i p i' v,ps[j]? = some (i,p)→vs[j]? = some (i',v)→i' = i∧Rep Φ μ p v)→X11 place cs ps=some out→∃cur',Instr.fill place cur vs=some cur'∧X4r Φ μ out cur'.toList
 | [],vs,cs,cur,out,hc,hl,_,h=>by
  obtain rfl:vs = []:=List.eq_nil_of_length_eq_zero (by simpa using hl)
  simp [X11] at h;subst h
  exact ⟨cur,rfl,hc⟩
 |(i,p) :: ps,[],cs,cur,out,hc,hl,_,h=>by simp at hl
 |(i,p) :: ps,(i',v) :: vs,cs,cur,out,hc,hl,hr,h=>by
  obtain ⟨rfl,hpv⟩:=hr 0 i p i' v rfl rfl
  simp only [X11] at h
  split at h
  ·rename_i off size new hpl hnew
   split at h
   ·rename_i hcond
    have hn:=X54 hpv hnew
    have hlen:=hn.1.1
    have hl0:=hc.1.1
    simp only [Array.length_toList] at hlen hl0
    have hsp:=Xle hc hn (off:=off) O_
    rw [Zh cs off new O_] at h
    obtain ⟨cur',r1,r2⟩:=X3g place ps vs (Y5 cs off new) (v.cells.zipIdx.foldl (fun cs (x:Value×Nat)=>cs.setIfInBounds (off+x.2) x.1) cur) out (by
     have:=Xmi off v.cells.toList 0 cur (by simp;omega)
     rw [Nat.add_zero] at this
     rw [←Array.foldl_toList,Array.toList_zipIdx,this];exact hsp) (by simpa using hl) (fun j a b c d e1 e2=>hr (j+1) a b c d (by simpa using e1) (by simpa using e2)) h
    refine ⟨cur',?_,r2⟩
    rw [Instr.fill,hpl]
    simp only
    rw [if_neg (by simp;omega)]
    exact r1
   ·cases h
  ·cases h
abbrev Tab:=List (Option TyI)
def Tab.at (T:Tab) (t:TypeId):Option TyI:=(T[t]?).getD none
theorem Y9 {P:Program} {T:Tab} (hT:T=Kf P) {t:TypeId} {x:TyI} (h:T.at t=some x):tyI P t=some x:=by
 refine Xtd hT ?_
 unfold Tab.at at h
 cases hx:T[t]? with
 |none=>rw [hx] at h;cases h
 |some y=>rw [hx] at h;simp at h;rw [h]
def Xnz (td:TD) (f:Nat):PV→Option PV
 | .agg cs=>match td with
  | .struct l=>match l[f]? with
   |some (off,size,agg)=>X6f agg size cs off
   |none=>none
  |_=>none
 |_=>none
def Xll (td:TD):PV→PV→Option PV
 | .val (.string s), .val (.int _ i)=>match td with
  | .str=>if 0≤i then (match s[i.toNat]? with|some b=>some (.val (.int .u8 b.toNat))|none=>none) else none
  |_=>none
 | .agg cs, .val (.int _ i)=>match td with
  | .arr n _ k ag=>if 0≤i∧i < n then X6f ag k cs (i.toNat * k) else none
  |_=>none
 |_,_=>none
def Y24 (src dst:TD):PV→Option PV
 | .val (.int _ n)=>match dst with
  | .int k=>some (.val (.int k (k.wrap n)))
  |_=>none
 | .val (.string s)=>match src,dst with
  | .str, .str=>some (.val (.string s))
  |_,_=>none
 |_=>none
def bytesOf:List PV→Option (List Int)
 | []=>some []
 | .val (.int .u8 b) :: r=>(bytesOf r).map (b :: ·)
 |_=>none
def strI (bs:List Int):ByteArray:=bs.foldl (fun r n=>r.push (UInt8.ofNat n.toNat)) ByteArray.empty
theorem X79:∀(cs:List PV) (bs:List Int),bytesOf cs=some bs→cs=bs.map fun b=>.val (.int .u8 b)
 | [],bs,h=>by simp [bytesOf] at h;subst h;rfl
 |c :: cs,bs,h=>by
  cases c with
  |val v=>cases v with
   |int k b=>cases k with
    |u8=>
     simp only [bytesOf] at h
     obtain ⟨l,hl,rfl⟩:=Option.map_eq_some_iff.1 h
     rw [X79 cs l hl];rfl
    |_=>simp [bytesOf] at h
   |_=>simp [bytesOf] at h
  |_=>simp [bytesOf] at h
theorem X7i:∀(bs:List Int),bytesOf (bs.map fun b=>.val (.int .u8 b))=some bs
 | []=>rfl
 |b :: bs=>by simp [bytesOf,X7i bs]
def Xu0 (T:Tab) (src dst:TD):PV→Option PV
 | .sl _ k cs _=>match src,dst with
  | .slice e _ _ _, .str=>match T.at e with
   |some ei=>match ei.kind with
    | .int .u8=>if k=1 then (bytesOf cs).map fun bs=>.val (.string (strI bs)) else none
    |_=>none
   |none=>none
  |_,_=>none
 |_=>none
def plen (td:TD):PV→Option PV
 | .msl _ _ n _=>match td with
  | .slice .. => some (.val (.int .i64 n))
  |_=>none
 | .sl n _ _ _=>match td with
  | .slice .. => some (.val (.int .i64 n))
  |_=>none
 | .nilsl=>match td with
  | .slice .. => some (.val (.int .i64 0))
  |_=>none
 | .val (.string s)=>match td with
  | .str=>some (.val (.int .i64 s.size))
  |_=>none
 |_=>match td with
  | .arr n _ _ _=>some (.val (.int .i64 n))
  |_=>none
def Xjj (T:Tab) (ti:TyI) (ps:List (Nat×PV)):Option PV:=
 match ti.kind with
 | .struct l=>(X11 (fun i=>(l[i]?).map fun x=>(x.1,x.2.1)) ti.zero ps).map .agg
 | .arr _ _ k _=>(X11 (fun i=>some (i * k,k)) ti.zero ps).map .agg
 |_=>none
def veq:SK→Value→Value→Option Bool
 | .int, .int k a, .int k' b=>if k=k' then some (a == b) else none
 | .str, .string a, .string b=>some (a == b)
 | .bool, .bool a, .bool b=>some (a == b)
 |_,_,_=>none
def peqs:List SK→List PV→List PV→Option Bool
 | [],[],[]=>some true
 |k :: ks, .val a :: xs, .val b :: ys=>match veq k a b,peqs ks xs ys with
  |some r,some s=>some (r && s)
  |_,_=>none
 |_,_,_=>none
def Xzd (op:BinOp) (ks:List SK) (xs ys:List PV):Option Value:=match ks with
 | []=>none
 |_ :: _=>match op with
  | .eql=>(peqs ks xs ys).map .bool
  | .neq=>(peqs ks xs ys).map fun b=>.bool !b
  |_=>none
def pval (T:Tab) (σ:PS):Op→Option PV
 | .move x=>some (pev σ x)
 | .pick c x y=>match pev σ c with
  | .val (.bool b)=>some (if b then pev σ x else pev σ y)
  |_=>none
 | .load t x=>match T.at t with
  |some ti=>Zj ti σ.b (pev σ x)
  |none=>none
 | .fieldAddr s x f=>match T.at s with
  |some ti=>match ti.kind with
   | .struct l=>Xi2 l f (pev σ x)
   |_=>none
  |none=>none
 | .field s x f=>match T.at s with
  |some ti=>Xnz ti.kind f (pev σ x)
  |none=>none
 | .indexAddr t x i=>match T.at t with
  |some ti=>X2x ti.kind (pev σ x) (pev σ i)
  |none=>none
 | .index t x i=>match T.at t with
  |some ti=>Xll ti.kind (pev σ x) (pev σ i)
  |none=>none
 | .binOp op t x y _=>match pev σ x,pev σ y with
  | .val u, .val v=>match pbin op u v with
   |some r=>some (.val r)
   |none=>match T.at t with
    |some ti=>(Y2g op ti.kind u v).map .val
    |none=>none
  | .agg xs, .agg ys=>match T.at t with
   |some ti=>(Xzd op ti.eqs xs ys).map .val
   |none=>none
  |_,_=>none
 | .unOp op _ x=>match pev σ x with
  | .val u=>(pun op u).map .val
  |_=>none
 | .convert s d x=>match T.at s,T.at d with
  |some si,some di=>match Y24 si.kind di.kind (pev σ x) with
   |some p=>some p
   |none=>Xu0 T si.kind di.kind (pev σ x)
  |_,_=>none
 | .slice t x lo hi mx=>match mx with
  |none=>match T.at t with
   |some ti=>Xdl ti.kind (pev σ x) (lo.map (pev σ)) (hi.map (pev σ))
   |none=>none
  |some _=>none
 | .extract x i=>match pev σ x with
  | .tup vs=>(vs[i]?).map PV.bare
  |_=>none
 | .makeFunc fn first caps=>match fn with
  | .func f=>if Nat.blt f 1000000 then (if first.toList.isEmpty then some (.fn f (caps.toList.map (pev σ))) else if caps.toList.isEmpty then some (.fn (f+1000000) (first.toList.map (pev σ))) else none) else none
  |_=>none
 | .build t parts=>match T.at t with
  |some ti=>Xjj T ti (parts.toList.map fun x=>(x.1,pev σ x.2))
  |none=>none
 | .call c=>match c.callee with
  | .builtin .len=>match c.args.toList,c.argTypes.toList with
   | [x],[t]=>match T.at t with
    |some ti=>plen ti.kind (pev σ x)
    |none=>none
   |_,_=>none
  |_=>none
 |_=>none
end
section
open Go.RowKit
variable {Φ0:Ent} {W:World} {M:Nat} {Φ:Imm} {μ:Nat→Option Nat} {ω:Nat→Option Who} {σ:PS} {a:Act} {w:World} {P:Program} {T:Tab}
theorem X1v {α β:Type} (f:α→Sem β):∀(l:List α) (r:List β),r.length=l.length→(∀(j:Nat) x y,l[j]? = some x→r[j]? = some y→(f x).run P w = .ok y w)→(l.mapM f).run P w = .ok r w
 | [],r,hl,_=>by
  obtain rfl:r = []:=List.eq_nil_of_length_eq_zero (by simpa using hl)
  simp
 |x :: l,[],hl,_=>by simp at hl
 |x :: l,y :: r,hl,h=>by
  rw [List.mapM_cons]
  simp only [Sem.run_bind,h 0 x y rfl rfl,Result.andThen_ok,X1v f l r (by simpa using hl) (fun j a b h1 h2=>h (j+1) a b (by simpa using h1) (by simpa using h2)),Sem.run_pure]
theorem Xf6 {cs:List PV} {us:List Value} (hr:RepL Φ μ cs us) {t:TypeId} {i:TypeInfo} {d:TypeDesc} (h1:P.info? t=some i) (h2:P.underlying t=some d) {off:Nat} {p:PV} (hp:X6f (aggD d) i.size cs off=some p) :
  ∃v,(part t us.toArray off).run P w = .ok v w∧Rep Φ μ p v∧p.ownB=false:=by
 unfold X6f at hp
 unfold part
 simp only [Sem.run_bind,X5g h2,Result.andThen_ok]
 split at hp
 ·rename_i hagg
  split at hp
  ·rename_i hle
   cases hp
   simp only [hagg,if_true,Sem.run_bind,Yc h1,Result.andThen_ok,Sem.run_pure]
   refine ⟨_,rfl,?_,rfl⟩
   have e:us.toArray.extract off (off+i.size)=((us.drop off).take i.size).toArray:=by
    simp [List.extract_toArray,List.extract_eq_take_drop]
   rw [e]
   refine RepL.agg (Xci ?_)
   refine ⟨by simp [hr.1],fun j c u h3 h4=>?_⟩
   rw [List.getElem?_take] at h3 h4
   split at h3
   ·rename_i hj
    rw [if_pos hj] at h4
    rw [List.getElem?_drop] at h3 h4
    exact hr.2 _ c u h3 h4
   ·cases h3
  ·cases hp
 ·rename_i hagg
  obtain ⟨c,hc,rfl⟩:=Option.map_eq_some_iff.1 hp
  have hagg' : aggD d=false:=by simpa using hagg
  obtain ⟨u,hu,hru⟩:=hr.get hc
  refine ⟨u,?_,hru.bare,PV.bare_own _⟩
  simp [hagg',hu]
theorem X5c {α:Type} (body:α→Option Bool×Unit→Sem (ForInStep (Option Bool×Unit))) (c:α→Bool):∀(l:List α),(∀x∈l,∀s,(body x s).run P w = .ok (if c x then .yield (none,()) else .done (some false,())) w) →
  (forIn l ((none,()):Option Bool×Unit) body).run P w = .ok (if l.all c then (none,()) else (some false,())) w
 | [],_=>by simp
 |x :: l,h=>by
  rw [List.forIn_cons,Sem.run_bind,h x S_]
  by_cases hc:c x=true
  ·simp only [hc,if_true,Result.andThen_ok,List.all_cons,Bool.true_and]
   exact X5c body c l (fun y hy=>h y (by simp [hy]))
  ·have hc' : c x=false:=by simpa using hc
   simp [hc']
theorem Y48 {k:SK} {t:TypeId} (hk:skOf P t=some k) {a b:Value} {r:Bool} (h:veq k a b=some r) (d:Nat):(Op.equalIn (d+1) t a b).run P w = .ok r w:=by
 rw [Op.equalIn]
 unfold skOf at hk
 split at hk
 ·rename_i kk i hu hi
  split at hk
  ·cases hk
   unfold veq at h
   split at h
   ·rename_i k1 a k2 b e
    split at h
    ·rename_i hkk
     subst hkk
     cases h
     simp [run_underlying hu]
    ·cases h
   ·rename_i e;cases e
   ·rename_i e;cases e
   ·cases h
  ·cases hk
 ·rename_i i hu hi
  split at hk
  ·cases hk
   unfold veq at h
   split at h
   ·rename_i e;cases e
   ·rename_i e;cases e
   ·cases h;simp [run_underlying hu]
   ·cases h
  ·cases hk
 ·rename_i i hu hi
  split at hk
  ·cases hk
   unfold veq at h
   split at h
   ·rename_i e;cases e
   ·cases h;simp [run_underlying hu]
   ·rename_i e;cases e
   ·cases h
  ·cases hk
 ·cases hk
theorem X4o : ∀ (ks : List SK) (xs ys : List PV) (r : Bool), peqs ks xs ys = some r → xs.length = ks.length ∧ ys.length = ks.length ∧ ∃ cs : List Bool, cs.length = ks.length ∧ r = cs.all id ∧ ∀ (j : Nat) k, ks[j]? = some k → ∃ a b c, xs[j]? = some (.val a) ∧ ys[j]? = some (.val b) ∧ cs[j]? = some c ∧ veq k a b = some c
  | [], [], [], r, h => by simp [peqs] at h; subst h; exact ⟨rfl, rfl, [], rfl, rfl, fun j k hj => by simp at hj⟩
  | k :: ks, .val a :: xs, .val b :: ys, r, h => by
    simp only [peqs] at h
    split at h
    · rename_i r1 r2 h1 h2
      cases h
      obtain ⟨l1, l2, cs, l3, rfl, hg⟩ := X4o ks xs ys r2 h2
      refine ⟨by simp [l1], by simp [l2], r1 :: cs, by simp [l3], by simp, fun j k' hj => ?_⟩
      cases j with
      | zero => simp at hj; subst hj; exact ⟨a, b, r1, rfl, rfl, rfl, h1⟩
      | succ j => simp at hj; simpa using hg j k' hj
    · cases h
  | [], _ :: _, _, r, h => by simp [peqs] at h
  | [], [], _ :: _, r, h => by simp [peqs] at h
  | _ :: _, [], _, r, h => by simp [peqs] at h
  | _ :: _, .val _ :: _, [], r, h => by simp [peqs] at h
  | _ :: _, p :: _, q :: _, r, h => by
    cases p with
    | val a => cases q with
      | val b => simp only [peqs] at h; split at h
                 · rename_i ks xs ys r1 r2 h1 h2
                   cases h
                   obtain ⟨l1, l2, cs, l3, rfl, hg⟩ := X4o _ _ _ r2 h2
                   refine ⟨by simp [l1], by simp [l2], r1 :: cs, by simp [l3], by simp, fun j k' hj => ?_⟩
                   cases j with
                   | zero => simp at hj; subst hj; exact ⟨a, b, r1, rfl, rfl, rfl, h1⟩
                   | succ j => simp at hj; simpa using hg j k' hj
                 · cases h
      | _ => simp [peqs] at h
    | _ => simp [peqs] at h
theorem Xfl:∀(k1 k2:List SK) (xs ys:List PV) (r:Bool),peqs (k1 ++ k2) xs ys=some r→∃r1 r2,peqs k1 (xs.take k1.length) (ys.take k1.length)=some r1∧peqs k2 (xs.drop k1.length) (ys.drop k1.length)=some r2∧r=(r1 && r2)
 | [],k2,xs,ys,r,h=>⟨true,r,by simp [peqs],by simpa using h,S_⟩
 |k :: k1,k2,xs,ys,r,h=>by
  rw [List.cons_append] at h
  obtain ⟨l1,l2,-⟩:=X4o _ _ _ _ h
  cases xs with
  |nil=>simp at l1
  |cons p xs=>
   cases ys with
   |nil=>simp at l2
   |cons q ys=>
    cases p with
    |val a=>cases q with
     |val b=>
      simp only [peqs] at h
      split at h
      ·rename_i ra rb h1 h2
       cases h
       obtain ⟨r1,r2,e1,e2,rfl⟩:=Xfl k1 k2 xs ys rb h2
       refine ⟨ra && r1,r2,by simp [peqs,h1,e1],by simpa using e2,by rw [Bool.and_assoc]⟩
      ·cases h
     |_=>simp [peqs] at h
    |_=>simp [peqs] at h
theorem Xzv {k:SK} {xs ys:List PV} {r:Bool} (h:peqs [k] xs ys=some r):∃a b,xs = [.val a]∧ys = [.val b]∧veq k a b=some r:=by
 obtain ⟨l1,l2,-⟩:=X4o _ _ _ _ h
 obtain ⟨p,rfl⟩:=List.length_eq_one_iff.1 l1
 obtain ⟨q,rfl⟩:=List.length_eq_one_iff.1 l2
 cases p with
 |val a=>cases q with
  |val b=>
   simp only [peqs] at h
   split at h
   ·rename_i ra rb h1 h2
    simp at h2
    subst h2
    simp at h
    subst h
    exact ⟨a,b,rfl,rfl,h1⟩
   ·cases h
  |_=>simp [peqs] at h
 |_=>simp [peqs] at h
def X47 (agg:Bool) (us:List Value):Value:=if agg then .agg us.toArray else us.headD undef
theorem Xan {t:TypeId} {i:TypeInfo} {d:TypeDesc} (h1:P.info? t=some i) (h2:P.underlying t=some d) {us:List Value} {off:Nat} (hle:off+i.size≤us.length) (hpos:aggD d=false→0 < i.size):(part t us.toArray off).run P w = .ok (X47 (aggD d) ((us.drop off).take i.size)) w:=by
 unfold part
 simp only [Sem.run_bind,X5g h2,Result.andThen_ok]
 cases hd:aggD d with
 |true=>
  simp only [if_true,Sem.run_bind,Yc h1,Result.andThen_ok,Sem.run_pure,X47]
  congr 2
  apply Array.ext'
  simp [List.take_drop,Nat.add_comm]
 |false=>
  have hp:=hpos hd
  simp only [Bool.false_eq_true,if_false,X47]
  have hlt:off < us.length:=O_
  rw [List.getElem?_toArray,E_ hlt]
  have:((us.drop off).take i.size).headD undef=us[off]:=by
   rw [List.headD_eq_head?_getD,List.head?_take,if_neg O_,List.head?_drop,E_ hlt];rfl
  rw [this];rfl
theorem Xg1 {xs:List PV} {us:List Value} (h:RepL Φ μ xs us) (off n:Nat):RepL Φ μ ((xs.drop off).take n) ((us.drop off).take n):=by
 refine ⟨by simp [h.1],fun j c u h1 h2=>?_⟩
 rw [List.getElem?_take] at h1 h2
 split at h1
 ·rename_i hj
  rw [if_pos hj,List.getElem?_drop] at h2
  rw [List.getElem?_drop] at h1
  exact h.2 _ c u h1 h2
 ·cases h1
def Xpk (P:Program) (d n:Nat) (l:List Field):Option (Nat×List SK):=l.foldr (fun f acc=>match acc with
      |some (off,l)=>if f.name ≠ "_" then match eqsD P d f.type with
       |some m=>if f.offset+m.length=off then some (f.offset,m ++ l) else none
       |none=>none else none
      |none=>none) (some (n,[]))
theorem Xq5 {d n:Nat} {f:Field} {l:List Field} {o:Nat} {ks:List SK} (h:Xpk P d n (f :: l)=some (o,ks)):∃off ls m,Xpk P d n l=some (off,ls)∧f.name ≠ "_"∧eqsD P d f.type=some m∧f.offset+m.length=off∧o=f.offset∧ks=m ++ ls:=by
 simp only [Xpk,List.foldr_cons] at h
 split at h
 ·rename_i off ls hacc
  split at h
  ·rename_i hn
   split at h
   ·rename_i m hm
    split at h
    ·rename_i ho
     simp only [Option.some.injEq,Prod.mk.injEq] at h
     exact ⟨off,ls,m,hacc,hn,hm,ho,h.1.symm,h.2.symm⟩
    ·cases h
   ·cases h
  ·cases h
 ·cases h
theorem Xfv:∀(d:Nat) (t:TypeId) (ks:List SK),eqsD P d t=some ks→∃i dd,P.info? t=some i∧P.underlying t=some dd∧i.size=ks.length∧(aggD dd=false→∃k,ks = [k]∧skOf P t=some k)
 |0,t,ks,h=>by simp [eqsD] at h
 |d+1,t,ks,h=>by
  simp only [eqsD] at h
  split at h
  ·rename_i k hk
   cases h
   have hk0:=hk
   unfold skOf at hk
   split at hk
   ·rename_i i hu hi
    split at hk
    ·rename_i h1;exact ⟨i,_,hi,hu,by simpa using h1,fun _=>⟨k,rfl,hk0⟩⟩
    ·cases hk
   ·rename_i i hu hi
    split at hk
    ·rename_i h1;exact ⟨i,_,hi,hu,by simpa using h1,fun _=>⟨k,rfl,hk0⟩⟩
    ·cases hk
   ·rename_i i hu hi
    split at hk
    ·rename_i h1;exact ⟨i,_,hi,hu,by simpa using h1,fun _=>⟨k,rfl,hk0⟩⟩
    ·cases hk
   ·cases hk
  ·split at h
   ·rename_i fs i hu hi
    split at h
    ·split at h
     ·split at h
      ·rename_i hl;cases h;exact ⟨i,_,hi,hu,hl.symm,fun e=>by cases e⟩
      ·cases h
     ·cases h
    ·cases h
   ·rename_i n e i hu hi
    split at h
    ·rename_i l ie hl hie
     split at h
     ·rename_i hc
      cases h
      exact ⟨i,_,hi,hu,by rw [hc.2,←hc.1];simp,fun e=>by cases e⟩
     ·cases h
    ·cases h
   ·cases h
theorem Xuc {l:List SK} : ∀(n:Nat) (xs ys:List PV) (r:Bool),peqs ((List.replicate n l).flatten) xs ys=some r→∃c:Nat→Bool,r=(List.range' 0 n).all c∧∀j,j < n→peqs l ((xs.drop (j * l.length)).take l.length) ((ys.drop (j * l.length)).take l.length)=some (c j):=by
 intro n
 induction n with
 |zero=>
  intro xs ys r h
  obtain ⟨l1,l2,-⟩:=X4o _ _ _ _ h
  simp at l1 l2
  subst l1 l2
  simp [peqs] at h
  exact ⟨fun _=>true,by simp [←h],fun j hj=>by omega⟩
 |succ n ih=>
  intro xs ys r h
  rw [List.replicate_succ,List.flatten_cons] at h
  obtain ⟨r1,r2,h1,h2,rfl⟩:=Xfl _ _ _ _ _ h
  obtain ⟨c,rfl,hc⟩:=ih _ _ _ h2
  refine ⟨fun j=>if j=0 then r1 else c (j - 1),?_,fun j hj=>?_⟩
  ·rw [List.range'_succ,List.all_cons]
   simp only [if_true]
   congr 1
   rw [Bool.eq_iff_iff,List.all_eq_true,List.all_eq_true]
   constructor
   ·intro hh x hx
    rw [List.mem_range'_1] at hx
    rw [if_neg O_]
    exact hh (x - 1) (by rw [List.mem_range'_1];omega)
   ·intro hh x hx
    rw [List.mem_range'_1] at hx
    have:=hh (x+1) (by rw [List.mem_range'_1];omega)
    rw [if_neg O_] at this
    exact this
  ·cases j with
   |zero=>simpa using h1
   |succ j=>
    have:=hc j O_
    rw [List.drop_drop,List.drop_drop] at this
    simp only [Nat.succ_ne_zero,if_false,Nat.add_sub_cancel]
    rw [Nat.succ_mul,Nat.add_comm]
    exact this
theorem X87:∀(d:Nat) (t:TypeId) (ks:List SK),eqsD P d t=some ks→∀(xs ys:List PV) (us vs:List Value) (r:Bool),peqs ks xs ys=some r→RepL Φ μ xs us→RepL Φ μ ys vs→∀dd,P.underlying t=some dd→∀n,d≤n →
  (Op.equalIn n t (X47 (aggD dd) us) (X47 (aggD dd) vs)).run P w = .ok r w
 |0,t,ks,h=>by simp [eqsD] at h
 |d+1,t,ks,h=>by
  intro xs ys us vs r hr hx hy dd hdd n hn
  obtain ⟨n,rfl⟩:∃m,n=m+1:=⟨n - 1,O_⟩
  have hdn:d≤n:=O_
  obtain ⟨i0,dd0,hi0,hu0,hs0,hsc⟩:=Xfv _ _ _ h
  rw [hdd] at hu0;cases hu0
  cases hag:aggD dd with
  |false=>
   obtain ⟨k,rfl,hsk⟩:=hsc hag
   obtain ⟨a,b,rfl,rfl,hv⟩:=Xzv hr
   obtain ⟨u,hu,hru⟩:=hx.get (j:=0) rfl
   obtain ⟨v,hv',hrv⟩:=hy.get (j:=0) rfl
   obtain ⟨rfl,-⟩:=hru.val_inv
   obtain ⟨rfl,-⟩:=hrv.val_inv
   have e1:us.headD undef=u:=by rw [List.headD_eq_head?_getD,List.head?_eq_getElem?,hu];rfl
   have e2:vs.headD undef=v:=by rw [List.headD_eq_head?_getD,List.head?_eq_getElem?,hv'];rfl
   simp only [X47,Bool.false_eq_true,if_false,e1,e2]
   exact Y48 hsk hv n
  |true=>
   simp only [X47,if_true]
   simp only [eqsD] at h
   split at h
   ·rename_i k hk
    exfalso
    unfold skOf at hk
    rw [hdd] at hk
    cases dd<;>simp_all [aggD]
   ·obtain ⟨lx,ly,-⟩:=X4o _ _ _ _ hr
    have lus:us.length=ks.length:=by rw [hx.1,lx]
    have lvs:vs.length=ks.length:=by rw [hy.1,ly]
    split at h
    ·rename_i fs i hu hi
     rw [hdd] at hu;cases hu
     split at h
     case isFalse=>cases h
     rename_i hst
     split at h
     case h_2=>cases h
     rename_i l hl
     split at h
     case isFalse=>cases h
     cases h
     rename_i hls
     have hfs:Xpk P d i.size fs.toList=some (0,ks):=hl
     have hki:ks.length=i.size:=hls
     -- field by field
     have key:∀(l:List Field) (o:Nat) (kk:List SK) (s:Bool),Xpk P d i.size l=some (o,kk)→peqs kk (xs.drop o) (ys.drop o)=some s→o+kk.length=i.size →
       ∃c:Field→Bool,s=l.all c∧∀f∈l,f.name ≠ "_"∧(∀m,d≤m→∃u v,(part f.type us.toArray f.offset).run P w = .ok u w∧(part f.type vs.toArray f.offset).run P w = .ok v w∧(Op.equalIn m f.type u v).run P w = .ok (c f) w):=by
      intro l
      induction l with
      |nil=>
       intro o kk s h1 h2 h3
       simp [Xpk] at h1
       obtain ⟨rfl,rfl⟩:=h1
       obtain ⟨q1,q2,-⟩:=X4o _ _ _ _ h2
       have e1:xs.drop i.size = []:=List.eq_nil_of_length_eq_zero q1
       have e2:ys.drop i.size = []:=List.eq_nil_of_length_eq_zero q2
       rw [e1,e2] at h2
       simp [peqs] at h2
       exact ⟨fun _=>true,by simp [←h2],fun f hf=>by cases hf⟩
      |cons f l ih=>
       intro o kk s h1 h2 h3
       obtain ⟨off,ls,m,g1,g2,g3,g4,rfl,rfl⟩:=Xq5 h1
       obtain ⟨s1,s2,p1,p2,rfl⟩:=Xfl _ _ _ _ _ h2
       rw [List.drop_drop,List.drop_drop,g4] at p2
       have hlen3:off+ls.length=i.size:=by rw [A_] at h3;omega
       obtain ⟨c,rfl,hc⟩:=ih off ls s2 g1 p2 hlen3
       -- the same answer wherever the same field stands
       obtain ⟨fi,fd,q1,q2,q3,q4⟩:=Xfv d f.type m g3
       have hfit:f.offset+fi.size≤us.length∧f.offset+fi.size≤vs.length:=by rw [lus,lvs,hki];omega
       have hpos:aggD fd=false→0 < fi.size:=fun e=>by obtain ⟨k,rfl,-⟩:=q4 e;rw [q3];simp
       have main:∀mm,d≤mm→∃u v,(part f.type us.toArray f.offset).run P w = .ok u w∧(part f.type vs.toArray f.offset).run P w = .ok v w∧(Op.equalIn mm f.type u v).run P w = .ok s1 w:=by
        intro mm hmm
        refine ⟨_,_,Xan q1 q2 hfit.1 hpos,Xan q1 q2 hfit.2 hpos,?_⟩
        rw [q3]
        exact X87 d f.type m g3 _ _ _ _ s1 p1 (Xg1 hx _ _) (Xg1 hy _ _) fd q2 mm hmm
       refine ⟨fun g=>if g.offset=f.offset∧g.type=f.type then s1 else c g,?_,fun g hg=>?_⟩
       ·rw [List.all_cons]
        simp only [and_self,if_true]
        congr 1
        rw [Bool.eq_iff_iff,List.all_eq_true,List.all_eq_true]
        have same:∀g∈l,g.offset=f.offset∧g.type=f.type→c g=s1:=by
         intro g hg ⟨e1,e2⟩
         obtain ⟨-,hg2⟩:=hc g hg
         obtain ⟨u,v,k1,k2,k3⟩:=hg2 d (Nat.le_refl _)
         obtain ⟨u',v',k4,k5,k6⟩:=main d (Nat.le_refl _)
         rw [e1,e2] at k1 k2
         rw [e2] at k3
         rw [k4] at k1;cases k1
         rw [k5] at k2;cases k2
         rw [k6] at k3;cases k3;rfl
        constructor
        ·intro hh g hg
         split
         ·rename_i e;rw [←same g hg e];exact hh g hg
         ·exact hh g hg
        ·intro hh g hg
         have:=hh g hg
         split at this
         ·rename_i e;rw [same g hg e];exact this
         ·exact this
       ·by_cases e:g.offset=f.offset∧g.type=f.type
        ·simp only [e,and_self,if_true]
         rcases List.mem_cons.1 hg with rfl|hg
         ·exact ⟨g2,main⟩
         ·exact ⟨(hc g hg).1,main⟩
        ·simp only [e,if_false]
         rcases List.mem_cons.1 hg with rfl|hg
         ·exact absurd ⟨rfl,rfl⟩ e
         ·exact hc g hg
     obtain ⟨c,rfl,hc⟩:=key fs.toList 0 ks r hfs (by simpa using hr) O_
     rw [Op.equalIn]
     simp only [Sem.run_bind,run_underlying hdd,Result.andThen_ok,run_program,hst,Bool.false_eq_true,if_false]
     rw [←Array.forIn_toList,X5c _ c fs.toList ?_]
     ·cases hca:fs.toList.all c<;>simp
     ·intro f hf s
      obtain ⟨hn1,hn2⟩:=hc f hf
      obtain ⟨u,v,k1,k2,k3⟩:=hn2 n hdn
      simp only [hn1,ne_eq,not_false_eq_true,if_true,Sem.run_bind,k1,k2,Result.andThen_ok,k3]
      cases c f<;>simp
    ·rename_i len e i hu hi
     rw [hdd] at hu;cases hu
     split at h
     case h_2=>cases h
     rename_i l ie hl hie
     split at h
     case isFalse=>cases h
     rename_i hcc
     cases h
     obtain ⟨c,rfl,hc⟩:=Xuc len xs ys r hr
     obtain ⟨fi,fd,q1,q2,q3,q4⟩:=Xfv d e l hl
     rw [hie] at q1;cases q1
     rw [Op.equalIn]
     simp only [Sem.run_bind,run_underlying hdd,Result.andThen_ok,Yc hie]
     have hsz:Std.Legacy.Range.size [:len]=len:=by simp [Std.Legacy.Range.size]
     rw [Std.Legacy.Range.forIn_eq_forIn_range',X5c _ c _ ?_]
     ·rw [hsz]
      cases hca:(List.range' 0 len).all c<;>simp_all
     ·intro j hj s
      have hjn:j < len:=by simp [Std.Legacy.Range.size] at hj;omega
      have hfl:(List.replicate len l).flatten.length=len * l.length:=S_
      have hle:j * ie.size+ie.size≤len * l.length:=by
       rw [q3,←Nat.succ_mul];exact Nat.mul_le_mul_right _ hjn
      have hpos:aggD fd=false→0 < ie.size:=fun e=>by obtain ⟨k,rfl,-⟩:=q4 e;rw [q3];simp
      have k1:=Xan (w:=w) (us:=us) (off:=j * ie.size) hie q2 (by rw [lus,hfl];exact hle) hpos
      have k2:=Xan (w:=w) (us:=vs) (off:=j * ie.size) hie q2 (by rw [lvs,hfl];exact hle) hpos
      have hcj:=hc j hjn
      rw [←q3] at hcj
      have k3:=X87 d e l hl _ _ _ _ (c j) hcj (Xg1 hx _ _) (Xg1 hy _ _) fd q2 n hdn
      simp only [Sem.run_bind,k1,k2,Result.andThen_ok,k3]
      cases c j<;>simp
    ·cases h
theorem Xa4 {t:TypeId} {xs ys:List PV} {us vs:List Value} (hx:RepL Φ μ xs us) (hy:RepL Φ μ ys vs) {r:Bool} (hne:Xbj P t ≠ []) (h:peqs (Xbj P t) xs ys=some r):(Op.equal t (.agg us.toArray) (.agg vs.toArray)).run P w = .ok r w∧P.eqGuardType P.depth t=false:=by
 have heq:=hne
 unfold Xbj at hne
 split at hne
 ·rename_i fs hu
  split at hne
  ·rename_i hc
   refine ⟨?_,hc⟩
   have he:Xbj P t=(eqsD P 6 t).getD []:=by unfold Xbj;rw [hu];simp only [hc,if_true]
   cases hm:eqsD P 6 t with
   |none=>rw [hm] at he;rw [he] at heq;exact absurd rfl heq
   |some ks=>
    rw [hm] at he
    rw [he] at h
    have:=X87 (w:=w) 6 t ks hm xs ys us vs r h hx hy _ hu Op.maxDepth D_
    exact this
  ·exact absurd rfl hne
 ·rename_i n e hu
  split at hne
  ·rename_i hc
   refine ⟨?_,hc⟩
   have he:Xbj P t=(eqsD P 6 t).getD []:=by unfold Xbj;rw [hu];simp only [hc,if_true]
   cases hm:eqsD P 6 t with
   |none=>rw [hm] at he;rw [he] at heq;exact absurd rfl heq
   |some ks=>
    rw [hm] at he
    rw [he] at h
    have:=X87 (w:=w) 6 t ks hm xs ys us vs r h hx hy _ hu Op.maxDepth D_
    exact this
  ·exact absurd rfl hne
 ·exact absurd rfl hne
theorem Xoh (hT:T=Kf P) (h:RelG Φ0 W M Φ μ ω σ a w) (o:Oper) {p:PV} (hp:pval T σ o.op=some p) :
  ∃v,(execOp a.eval o).run P w = .ok (.value v) w∧Rep Φ μ p v∧p.ownB=false:=by
 obtain ⟨dst,op,ty,pos,after,guard⟩:=o
 simp only at hp
 unfold pval at hp
 split at hp
 ·rename_i x
  cases hp
  exact ⟨a.eval x,by simp [execOp],h.ev x,X3x σ x⟩
 ·rename_i c x y
  split at hp
  ·rename_i b hb
   cases hp
   have hc:=h.ev c
   rw [hb] at hc
   obtain ⟨hc,-⟩:=hc.val_inv
   cases b
   ·exact ⟨a.eval y,by simp [execOp,hc,asBool],h.ev y,X3x σ y⟩
   ·exact ⟨a.eval x,by simp [execOp,hc,asBool],h.ev x,X3x σ x⟩
  ·cases hp
 ·rename_i t x
  split at hp
  ·rename_i ti ht
   obtain ⟨u,r1,r2,r3⟩:=h.load (P:=P) (Y9 hT ht) (h.ev x) hp
   exact ⟨u,by simp [execOp,r1],r2,r3⟩
  ·cases hp
 ·rename_i s x f
  split at hp
  ·rename_i ti ht
   split at hp
   ·rename_i l hl
    obtain ⟨u,r1,r2,r3⟩:=Xkr (P:=P) (w:=w) (Y9 hT ht) hl (h.ev x) hp
    exact ⟨u,by simp [execOp,r1],r2,r3⟩
   ·cases hp
  ·cases hp
 ·rename_i s x f
  split at hp
  ·rename_i ti ht
   unfold Xnz at hp
   split at hp
   ·rename_i cs hcs
    split at hp
    ·rename_i l hl
     split at hp
     ·rename_i off size agg hlf
      obtain ⟨fs,hu,-,hget⟩:=X8z (Y9 hT ht) hl
      obtain ⟨fd,i,d,e1,e2,e3,e4,e5,e6⟩:=hget f _ _ _ hlf
      have hx:=h.ev x
      rw [hcs] at hx
      obtain ⟨us,hv,hr⟩:=hx.agg_inv
      subst e4 e6
      obtain ⟨v,r1,r2,r3⟩:=Xf6 (P:=P) (w:=w) hr e3 e5 hp
      refine ⟨v,?_,r2,r3⟩
      simp [execOp,Instr.field,run_underlying hu,e1,hv,asAgg,e2,r1]
     ·cases hp
    ·cases hp
   ·cases hp
  ·cases hp
 ·rename_i t x i
  split at hp
  ·rename_i ti ht
   obtain ⟨u,r1,r2,r3⟩:=Xly (P:=P) (w:=w) (Y9 hT ht) (h.ev x) (h.ev i) hp
   exact ⟨u,by simp [execOp,r1],r2,r3⟩
  ·cases hp
 ·rename_i t x i
  split at hp
  ·rename_i ti ht
   have hx:=h.ev x
   have hi:=h.ev i
   unfold Xll at hp
   split at hp
   ·rename_i s ik n e1 e2
    rw [e1] at hx
    rw [e2] at hi
    obtain ⟨hx,-⟩:=hx.val_inv
    obtain ⟨hi,-⟩:=hi.val_inv
    split at hp
    ·rename_i hk
     split at hp
     ·rename_i h0
      split at hp
      ·rename_i b hb
       cases hp
       exact ⟨.int .u8 b.toNat,by simp [execOp,Instr.index,hx,hi,asIntOf,run_underlying (X1z (Y9 hT ht) hk),h0,hb], .val _ rfl,rfl⟩
      ·cases hp
     ·cases hp
    ·cases hp
   ·rename_i cs ik n e1 e2
    rw [e1] at hx
    rw [e2] at hi
    obtain ⟨us,hv,hr⟩:=hx.agg_inv
    obtain ⟨hi,-⟩:=hi.val_inv
    split at hp
    ·rename_i len e k ag hk
     split at hp
     ·rename_i hc
      obtain ⟨hu,i',d',e3,e4,e5,e6⟩:=X51 (Y9 hT ht) hk
      subst e4 e6
      obtain ⟨v,r1,r2,r3⟩:=Xf6 (P:=P) (w:=w) hr e3 e5 hp
      exact ⟨v,by simp [execOp,Instr.index,hv,hi,asIntOf,run_underlying hu,hc.1,hc.2,Yc e3,r1],r2,r3⟩
     ·cases hp
    ·cases hp
   ·cases hp
  ·cases hp
 ·rename_i op t x y yt
  split at hp
  ·rename_i u v e1 e2
   have hx:=h.ev x
   have hy:=h.ev y
   rw [e1] at hx
   rw [e2] at hy
   obtain ⟨hx,-⟩:=hx.val_inv
   obtain ⟨hy,-⟩:=hy.val_inv
   split at hp
   ·rename_i r hr
    cases hp
    obtain ⟨r1,r2⟩:=Xop (P:=P) (w:=w) (t:=t) (x:=x) (y:=y) hr
    exact ⟨r,by simp only [execOp,Sem.run_bind,hx,hy] at r1 ⊢; rw [r1];rfl, .val _ r2,rfl⟩
   ·split at hp
    ·rename_i ti ht
     obtain ⟨r,hr,rfl⟩:=Option.map_eq_some_iff.1 hp
     obtain ⟨r1,r2⟩:=Xlg (P:=P) (w:=w) (x:=x) (y:=y) (Y9 hT ht) hr
     exact ⟨r,by simp only [execOp,Sem.run_bind,hx,hy] at r1 ⊢; rw [r1];rfl, .val _ r2,rfl⟩
    ·cases hp
  ·rename_i xs ys e1 e2
   have hx:=h.ev x
   have hy:=h.ev y
   rw [e1] at hx
   rw [e2] at hy
   obtain ⟨us,hx,hxr⟩:=hx.agg_inv
   obtain ⟨vs,hy,hyr⟩:=hy.agg_inv
   split at hp
   ·rename_i ti ht
    obtain ⟨r,hr,rfl⟩:=Option.map_eq_some_iff.1 hp
    obtain ⟨i,d,z,-,-,-,-,-,g6⟩:=K1 (Y9 hT ht)
    have heqs:ti.eqs=Xbj P t:=by rw [g6]
    rw [heqs] at hr
    unfold Xzd at hr
    split at hr
    ·cases hr
    ·rename_i k ks hks
     have hne:Xbj P t ≠ []:=by rw [hks];simp
     split at hr
     ·obtain ⟨b,hb,rfl⟩:=Option.map_eq_some_iff.1 hr
      obtain ⟨r1,r2⟩:=Xa4 (w:=w) hxr hyr hne hb
      refine ⟨.bool b,?_, .val _ rfl,rfl⟩
      have hgd:(eqGuard .eql t x y (.agg us.toArray) (.agg vs.toArray)).run P w = .ok () w:=by simp [eqGuard,r2]
      simp only [execOp,Sem.run_bind,hx,hy,hgd,Result.andThen_ok,binOp,r1]
      rfl
     ·obtain ⟨b,hb,rfl⟩:=Option.map_eq_some_iff.1 hr
      obtain ⟨r1,r2⟩:=Xa4 (w:=w) hxr hyr hne hb
      refine ⟨.bool !b,?_, .val _ rfl,rfl⟩
      have hgd:(eqGuard .neq t x y (.agg us.toArray) (.agg vs.toArray)).run P w = .ok () w:=by simp [eqGuard,r2]
      simp only [execOp,Sem.run_bind,hx,hy,hgd,Result.andThen_ok,binOp,r1]
      rfl
     ·cases hr
   ·cases hp
  ·cases hp
 ·rename_i op t x
  split at hp
  ·rename_i u e1
   have hx:=h.ev x
   rw [e1] at hx
   obtain ⟨hx,-⟩:=hx.val_inv
   obtain ⟨r,hr,rfl⟩:=Option.map_eq_some_iff.1 hp
   obtain ⟨r1,r2⟩:=Xrq (P:=P) (w:=w) hr
   exact ⟨r,by simp [execOp,hx,r1], .val _ r2,rfl⟩
  ·cases hp
 ·rename_i s d x
  split at hp
  ·rename_i si di hs hd
   have hx:=h.ev x
   split at hp
   case h_2=>
    unfold Xu0 at hp
    split at hp
    ·rename_i n k cs own e1
     rw [e1] at hx
     split at hp
     ·rename_i e kk by_ zr hk1 hk2
      split at hp
      ·rename_i ei he
       split at hp
       ·rename_i hke
        split at hp
        ·rename_i hk1'
         subst hk1'
         obtain ⟨bs,hbs,rfl⟩:=Option.map_eq_some_iff.1 hp
         obtain ⟨hu,-⟩:=Ys (Y9 hT hs) hk1
         have hd':=X1z (Y9 hT hd) hk2
         have he':=X80 (Y9 hT he) hke
         obtain ⟨ad,b,off,cap,us,hv,q1,q2,q3,q4,q5,q6⟩:=hx.sl_inv
         have hcs:=X79 _ _ hbs
         subst hcs
         simp only [List.length_map,Nat.mul_one] at q3
         refine ⟨.string (strI bs),?_, .val _ rfl,rfl⟩
         simp only [execOp,Sem.run_bind,hv]
         rw [run_convert_bytes_string w s d e ad n cap hu he' hd']
         by_cases hn:0 < n
         ·obtain rfl:=q4 hn
          rw [run_bytesToString w ⟨b,off,none⟩ n cap bs (by
           have:=run_loadCells_list (P:=P) (w:=w) ⟨b,off,none⟩ (bs.map (Value.int .u8)) (by
            intro j u hj
            rw [M_] at hj
            obtain ⟨z,hz,rfl⟩:=Option.map_eq_some_iff.1 hj
            have hjl:j < bs.length:=(List.getElem?_eq_some_iff.1 hz).1
            have hr:=q6 j (.val (.int .u8 z)) (by simp [hz])
            rw [Addr.add_lit,h.imm _ _ _ (q5 j (by simpa using hjl)),hr.val_inv.1])
           rw [List.length_map,q3] at this
           first|exact this|simpa using this)]
          rfl
         ·have hb0:bs = []:=List.eq_nil_of_length_eq_zero O_
          have hn0:n=0:=O_
          subst hb0
          cases ad with
          |none=>simp [Conv.bytesToString,strI]
          |some ad=>
           rw [run_bytesToString w ad n cap [] (by subst hn0;first|rfl|simp [loadCells,loadCellsFrom])]
           rfl
        ·cases hp
       ·cases hp
      ·cases hp
     ·cases hp
    ·cases hp
   rename_i pp hpp
   simp only [Option.some.injEq] at hp
   subst hp
   have hp:=hpp
   unfold Y24 at hp
   split at hp
   ·rename_i ik n e1
    rw [e1] at hx
    obtain ⟨hx,-⟩:=hx.val_inv
    split at hp
    ·rename_i k hk
     cases hp
     have hu:=X80 (Y9 hT hd) hk
     obtain ⟨i1,d1,z1,-,g2,-⟩:=K1 (Y9 hT hs)
     refine ⟨.int k (k.wrap n),?_, .val _ rfl,rfl⟩
     simp only [execOp,convert,Sem.run_bind,run_underlying g2,run_underlying hu,Result.andThen_ok,hx]
     simp [Conv.intToInt]
    ·cases hp
   ·rename_i st e1
    rw [e1] at hx
    obtain ⟨hx,-⟩:=hx.val_inv
    split at hp
    ·rename_i hk1 hk2
     cases hp
     have hu:=X1z (Y9 hT hd) hk2
     have hu1:=X1z (Y9 hT hs) hk1
     refine ⟨.string st,?_, .val _ rfl,rfl⟩
     simp only [execOp,convert,Sem.run_bind,run_underlying hu1,run_underlying hu,Result.andThen_ok,hx]
     simp
    ·cases hp
   ·cases hp
  ·cases hp
 ·rename_i t x lo hi mx
  split at hp
  case h_2=>cases hp
  split at hp
  ·rename_i ti ht
   have ho:∀y:Option Operand,RepO Φ μ (y.map (pev σ)) (y.map a.eval):=by
    intro y
    cases y with
    |none=>trivial
    |some y=>exact h.ev y
   obtain ⟨u,r1,r2,r3⟩:=Xkk (P:=P) (w:=w) (Y9 hT ht) (h.ev x) (ho lo) (ho hi) hp
   exact ⟨u,by simp [execOp,r1],r2,r3⟩
  ·cases hp
 ·rename_i x i
  split at hp
  ·rename_i vs e1
   have hx:=h.ev x
   rw [e1] at hx
   obtain ⟨us,hv,hr⟩:=hx.tup_inv
   obtain ⟨c,hc,rfl⟩:=Option.map_eq_some_iff.1 hp
   obtain ⟨u,hu,hru⟩:=hr.get hc
   exact ⟨u,by simp [execOp,Instr.extract,hv,hu],hru.bare,PV.bare_own _⟩
  ·cases hp
 ·rename_i fn first caps
  split at hp
  case h_2=>cases hp
  rename_i f
  split at hp
  case isFalse=>cases hp
  rename_i hblt
  have hlt:f < 1000000:=by simpa [Nat.blt_eq] using hblt
  have hrl:∀l:Array Operand,RepL Φ μ (l.toList.map (pev σ)) (l.toList.map a.eval):=by
   intro l
   refine ⟨S_,fun j c u h1 h2=>?_⟩
   rw [M_] at h1 h2
   obtain ⟨x,hx,rfl⟩:=Option.map_eq_some_iff.1 h1
   rw [hx] at h2
   simp at h2
   subst h2
   exact h.ev x
  have harr:∀l:Array Operand,(l.toList.map a.eval).toArray=l.map a.eval:=fun l=>by rw [←Array.toList_map,Array.toArray_toList]
  split at hp
  ·rename_i hfirst
   obtain rfl:first = #[]:=by
    have:first.toList = []:=by simpa using hfirst
    simpa using this
   cases hp
   refine ⟨.func (.func f) #[] (caps.map a.eval),by simp [execOp,Instr.makeFunc],?_,rfl⟩
   have h1:=(hrl caps).fn f
   rw [harr] at h1
   unfold fnV at h1
   rw [if_pos hlt] at h1
   exact h1
  ·split at hp
   ·rename_i hcaps
    obtain rfl:caps = #[]:=by
     have:caps.toList = []:=by simpa using hcaps
     simpa using this
    cases hp
    refine ⟨.func (.func f) (first.map a.eval) #[],by simp [execOp,Instr.makeFunc],?_,rfl⟩
    have h1:=(hrl first).fn (f+1000000)
    rw [harr] at h1
    unfold fnV at h1
    rw [if_neg O_,show unB (f+1000000)=f from Nat.add_sub_cancel ..] at h1
    exact h1
   ·cases hp
 ·rename_i t parts
  split at hp
  ·rename_i ti ht
   have hty:=Y9 hT ht
   obtain ⟨i,d,z,g1,g2,g3,g4,g5,g6⟩:=K1 hty
   have hz:X4r Φ μ ti.zero z.cells.toList:=by
    rw [g6]
    refine ⟨X1y _,g5,fun c hc=>?_⟩
    obtain ⟨v,-,rfl⟩:=List.mem_map.1 hc
    exact X56 v
   have hparts:∀(j:Nat) i p i' v,(parts.toList.map fun x=>(x.1,pev σ x.2))[j]? = some (i,p)→(parts.toList.map fun x=>(x.1,a.eval x.2))[j]? = some (i',v)→i' = i∧Rep Φ μ p v:=by
    intro j i p i' v h1 h2
    rw [M_] at h1 h2
    obtain ⟨x,hx,e⟩:=Option.map_eq_some_iff.1 h1
    rw [hx] at h2
    simp at h2 e
    obtain ⟨rfl,rfl⟩:=e
    obtain ⟨rfl,rfl⟩:=h2
    exact ⟨rfl,h.ev x.2⟩
   have hzv:(zeroValue t).run P w = .ok z w:=by simp [zeroValue,typeInfo,g1,g3]
   unfold Xjj at hp
   split at hp
   ·rename_i l hl
    obtain ⟨fs,hu,hlen,hget⟩:=X8z hty hl
    obtain ⟨out,ho,rfl⟩:=Option.map_eq_some_iff.1 hp
    have hmap:(fs.mapM fun f=>(do pure (f.offset,←sizeOf f.type):Sem (Nat×Nat))).run P w = .ok (l.map fun x=>(x.1,x.2.1)).toArray w:=by
     have e1:∀(j:Nat) (fd:Field),fs.toList[j]? = some fd→∃x:Nat×Nat×Bool,l[j]? = some x∧((do pure (fd.offset,←sizeOf fd.type):Sem (Nat×Nat))).run P w = .ok (x.1,x.2.1) w:=by
      intro j fd hj
      have hjl:j < l.length:=by rw [hlen];simpa using (List.getElem?_eq_some_iff.1 hj).1
      obtain ⟨fd',i',d',k1,k2,k3,k4,-,-⟩:=hget j _ _ _ (show l[j]? = some (l[j].1,l[j].2.1,l[j].2.2) by simp [hjl])
      have:fd' = fd:=by
       have h3:fs.toList[j]? = some fd':=by simpa using k1
       rw [hj] at h3;simpa using h3.symm
      subst this
      exact ⟨l[j],by simp [hjl],by simp [Yc k3,k2,k4]⟩
     rw [Array.mapM_eq_mapM_toList,Sem.run_map,X1v (P:=P) (w:=w) _ _ (l.map fun x=>(x.1,x.2.1)) (by simp [hlen]) (by
      intro j fd y hj hy
      obtain ⟨x,hx,hr⟩:=e1 j fd hj
      rw [M_,hx] at hy
      simp at hy
      subst hy
      exact hr)]
     rfl
    obtain ⟨cur',r1,r2⟩:=X3g (fun (i:Nat)=>(l[i]?).map fun (x:Nat×Nat×Bool)=>(x.1,x.2.1)) _ (parts.toList.map fun (x:Nat×Operand)=>(x.1,a.eval x.2)) _ z.cells _ hz S_ hparts ho
    refine ⟨.agg cur',?_,by simpa using r2.1.agg,rfl⟩
    simp only [execOp,Instr.build,Sem.run_bind,hzv,Result.andThen_ok,run_underlying hu,hmap]
    have e:(fun (i:Nat)=>(l.map fun (x:Nat×Nat×Bool)=>(x.1,x.2.1)).toArray[i]?)=(fun (i:Nat)=>(l[i]?).map fun (x:Nat×Nat×Bool)=>(x.1,x.2.1)):=by
     funext i;simp
    simp only [e,Array.toList_map,r1]
    rfl
   ·rename_i n e k ag hk
    obtain ⟨hu,i',d',e3,e4,e5,e6⟩:=X51 hty hk
    obtain ⟨out,ho,rfl⟩:=Option.map_eq_some_iff.1 hp
    obtain ⟨cur',r1,r2⟩:=X3g (fun i=>some (i * k,k)) _ (parts.toList.map fun (x:Nat×Operand)=>(x.1,a.eval x.2)) _ z.cells _ hz S_ hparts ho
    refine ⟨.agg cur',?_,by simpa using r2.1.agg,rfl⟩
    simp only [execOp,Instr.build,Sem.run_bind,hzv,Result.andThen_ok,run_underlying hu,Yc e3,e4,Array.toList_map,r1]
    rfl
   ·cases hp
  ·cases hp
 ·rename_i c
  obtain ⟨callee,args,argTypes⟩:=c
  simp only at hp
  split at hp
  case h_2=>cases hp
  split at hp
  case h_2=>cases hp
  rename_i x t ea et
  obtain rfl:args = #[x]:=by rw [←Array.toArray_toList (xs:=args),ea]
  obtain rfl:argTypes = #[t]:=by rw [←Array.toArray_toList (xs:=argTypes),et]
  split at hp
  ·rename_i ti ht
   have hx:=h.ev x
   obtain ⟨i,d,z,g1,g2,g3,g4,g5,g6⟩:=K1 (Y9 hT ht)
   unfold plen at hp
   split at hp
   ·rename_i id o n k e1
    rw [e1] at hx
    split at hp
    ·rename_i hk
     cases hp
     obtain ⟨hu,-⟩:=Ys (Y9 hT ht) hk
     obtain ⟨a',cap,hv,-⟩:=hx.msl_inv
     refine ⟨.int .i64 n,?_, .val _ rfl,rfl⟩
     simp [execOp,resolve,invoke,builtin,Builtin.len_,run_underlying hu,hv,goInt]
    ·cases hp
   ·rename_i n k cs own e1
    rw [e1] at hx
    split at hp
    ·rename_i hk
     cases hp
     obtain ⟨hu,-⟩:=Ys (Y9 hT ht) hk
     obtain ⟨a',b,off,cap,us,hv,-⟩:=hx.sl_inv
     refine ⟨.int .i64 n,?_, .val _ rfl,rfl⟩
     simp [execOp,resolve,invoke,builtin,Builtin.len_,run_underlying hu,hv,goInt]
    ·cases hp
   ·rename_i e1
    rw [e1] at hx
    split at hp
    ·rename_i hk
     cases hp
     obtain ⟨hu,-⟩:=Ys (Y9 hT ht) hk
     have hv:=hx.nilsl_inv
     refine ⟨.int .i64 0,?_, .val _ rfl,rfl⟩
     simp [execOp,resolve,invoke,builtin,Builtin.len_,run_underlying hu,hv,goInt]
    ·cases hp
   ·rename_i s e1
    rw [e1] at hx
    obtain ⟨hx,-⟩:=hx.val_inv
    split at hp
    ·rename_i hk
     cases hp
     refine ⟨.int .i64 s.size,?_, .val _ rfl,rfl⟩
     simp [execOp,resolve,invoke,builtin,Builtin.len_,run_underlying (X1z (Y9 hT ht) hk),hx,goInt]
    ·cases hp
   ·split at hp
    ·rename_i n e k ag hk
     cases hp
     obtain ⟨hu,-⟩:=X51 (Y9 hT ht) hk
     refine ⟨.int .i64 n,?_, .val _ rfl,rfl⟩
     simp [execOp,resolve,invoke,builtin,Builtin.len_,run_underlying hu,goInt]
    ·cases hp
  ·cases hp
 ·cases hp
end
section
open Go.RowKit
def Xer:TD→Bool
 | .ptr | .parr .. => true
 |_=>false
def pnil (td:TD):PV→Option Bool
 | .val (.pointer none)=>if Xer td then some true else none
 | .ptr _ _=>if Xer td then some false else none
 | .ep _ _=>if Xer td then some false else none
 | .val (.map none)=>match td with
  | .map _ _=>some true
  |_=>none
 | .mref _=>match td with
  | .map _ _=>some false
  |_=>none
 | .val .nilFunc=>match td with
  | .func=>some true
  |_=>none
 | .fn _ _=>match td with
  | .func=>some false
  |_=>none
 | .nilsl=>match td with
  | .slice .. => some true
  |_=>none
 | .sl (_+1) _ _ _=>match td with
  | .slice .. => some false
  |_=>none
 | .msl _ _ (_+1) _=>match td with
  | .slice .. => some false
  |_=>none
 |_=>none
def X6s:TD→PV→Bool
 | .slice .., .nilsl=>true
 | .map .., .val (.map none)=>true
 | .func, .val .nilFunc=>true
 | .ptr, .val (.pointer none)=>true
 | .parr .., .val (.pointer none)=>true
 |_,_=>false
def Xz9 (td:TD) (x y:PV):Option Bool:=if X6s td y then pnil td x else if X6s td x then pnil td y else none
def skT:TD→Option SK
 | .int _=>some .int
 | .bool=>some .bool
 | .str=>some .str
 |_=>none
def X6j:TD→Value→Bool
 | .int k, .int k' _=>decide (k=k')
 | .bool, .bool _=>true
 | .str, .string _=>true
 |_,_=>false
def X0h (k:SK) (kv:Value):List (Nat×PV×PV)→Nat→Option (Option Nat)
 | [],_=>some none
 |(_, .val k',_) :: es,i=>match veq k kv k' with
  |some true=>some (some i)
  |some false=>X0h k kv es (i+1)
  |none=>none
 |_ :: _,_=>none
def Xja (x:TyI):Option PV:=if x.agg then some (.agg x.zero) else x.zero.head?
def mget (ki ei:TyI) (es:List (Nat×PV×PV)) (kv:Value):Option (PV×Bool):=
 if X6j ki.kind kv then match skT ki.kind with
  |some k=>match X0h k kv es 0 with
   |some (some j)=>match es[j]? with
    |some (_,_,c)=>some (c.bare,true)
    |none=>none
   |some none=>(Xja ei).map fun z=>(z.bare,false)
   |none=>none
  |none=>none
 else none
def Xgs (m:Nat→Option PMap):PV→Option (List (Nat×PV×PV))
 | .mref id=>match m id with
  |some (.map es _)=>some es
  |_=>none
 | .val (.map none)=>some []
 |_=>none
def X71 (T:Tab) (m:Nat→Option PMap) (td:TD) (x:PV) (k:PV):Option (PV×Bool):=
 match td,k with
 | .map kt et, .val kv=>match T.at kt,T.at et,Xgs m x with
  |some ki,some ei,some es=>mget ki ei es kv
  |_,_,_=>none
 |_,_=>none
def X4n (m:Nat→Option PMap):PV→Option (PV×PV)
 | .ptr id 0=>match m id with
  |some (.iter mid _ seen last)=>match m mid with
   |some (.map es clock)=>if clock=last then match seen.getLast? with
    |some s=>(es.find? fun e=>e.1 == s).map fun e=>(e.2.1.bare,e.2.2.bare)
    |none=>none else none
   |_=>none
  |_=>none
 |_=>none
def Xm6 (mx:Bool):IntKind→Int→List PV→Option PV
 |k,n,[]=>some (.val (.int k n))
 |k,n, .val (.int _ y) :: r=>Xm6 mx k (if mx then (if y > n then y else n) else (if y < n then y else n)) r
 |_,_,_=>none
def pmax (mx:Bool):List PV→Option PV
 | .val (.int k n) :: r=>Xm6 mx k n r
 |_=>none
def X2k (T:Tab) (σ:PS):Op→Option PV
 | .nilCheck x=>match pev σ x with
  | .ptr id off=>some (.ptr id off)
  | .ep cs off=>some (.ep cs off)
  | .fn f cs=>some (.fn f cs)
  |_=>none
 | .binOp op t x y _=>match T.at t with
  |some ti=>match op with
   | .eql=>(Xz9 ti.kind (pev σ x) (pev σ y)).map fun b=>.val (.bool b)
   | .neq=>(Xz9 ti.kind (pev σ x) (pev σ y)).map fun b=>.val (.bool !b)
   |_=>none
  |none=>none
 | .lookup t x k ok=>match T.at t with
  |some ti=>match X71 T σ.m ti.kind (pev σ x) (pev σ k) with
   |some (c,b)=>some (if ok then .tup [c, .val (.bool b)] else c)
   |none=>none
  |none=>none
 | .entry it=>match X4n σ.m (pev σ it) with
  |some (k,c)=>some (.tup [k,c])
  |none=>none
 | .sliceToArrayPointer t x=>match T.at t with
  |some ti=>match ti.kind with
   | .arr n _ _ _=>match pev σ x with
    | .msl id off m _=>if n≤m∧0 < m then some (.ptr id off) else none
    | .sl m _ cs _=>if n≤m∧0 < m then some (.ep cs 0) else none
    |_=>none
   |_=>none
  |none=>none
 | .call c=>match c.callee with
  | .builtin .len=>match c.args.toList,c.argTypes.toList with
   | [x],[t]=>match T.at t with
    |some ti=>match ti.kind with
     | .map _ _=>(Xgs σ.m (pev σ x)).map fun es=>.val (.int .i64 es.length)
     |_=>none
    |none=>none
   |_,_=>none
  | .builtin .max=>pmax true (c.args.toList.map (pev σ))
  | .builtin .min=>pmax false (c.args.toList.map (pev σ))
  |_=>none
 |_=>none
def V5 (T:Tab) (σ:PS) (op:Op):Option PV:=match pval T σ op with
 |some p=>some p
 |none=>X2k T σ op
end
section
open Go.RowKit
variable {Φ0:Ent} {W:World} {M:Nat} {Φ:Imm} {μ:Nat→Option Nat} {ω:Nat→Option Who} {σ:PS} {a:Act} {w:World} {P:Program} {T:Tab}
theorem Xl1 {t:TypeId} {ti:TyI} (ht:tyI P t=some ti) (h:Xer ti.kind=true):∃e,P.underlying t=some (.pointer e):=by
 cases hk:ti.kind with
 |ptr=>exact Xwr ht hk
 |parr n e k=>obtain ⟨t',hu,-⟩:=Xmq ht hk;exact ⟨t',hu⟩
 |_=>rw [hk] at h;simp [Xer] at h
theorem Xe3 {k e:TypeId} {y:PV} (h:X6s (.map k e) y=true):y = .val (.map none):=by
 unfold X6s at h;split at h<;>first|rfl|simp_all
theorem Xbw {y:PV} (h:X6s .func y=true):y = .val .nilFunc:=by
 unfold X6s at h;split at h<;>first|rfl|simp_all
theorem X5h {e k b:Nat} {z:List PV} {y:PV} (h:X6s (.slice e k b z) y=true):y = .nilsl:=by
 unfold X6s at h;split at h<;>first|rfl|simp_all
def Y2i:Value→Bool
 | .pointer _ | .map _ | .func .. | .nilFunc | .slice .. => true
 |_=>false
theorem Xek {v n:Value} (h:Y2i v=true) (op:BinOp) (t:TypeId) (a b:Operand):(eqGuard op t a b v n).run P w = .ok () w∧(eqGuard op t a b n v).run P w = .ok () w:=by
 constructor
 ·cases v<;>first|(cases h;done)|(cases op<;>rfl)
 ·cases n<;>first|(cases op<;>rfl)|(cases v<;>first|(cases h;done)|(cases op<;>rfl))
theorem Xmt {v n:Value} (h:Y2i v=true) (t:TypeId):(binOp .eql t v n=do pure (.bool (←Op.equal t v n)))∧(binOp .eql t n v=do pure (.bool (←Op.equal t n v)))∧(binOp .neq t v n=do pure (.bool (!(←Op.equal t v n))))∧(binOp .neq t n v=do pure (.bool (!(←Op.equal t n v)))):=by
 refine ⟨?_,?_,?_,?_⟩
 ·cases v<;>first|(cases h;done)|(cases n<;>rfl)
 ·cases v<;>first|(cases h;done)|(cases n<;>rfl)
 ·cases v<;>first|(cases h;done)|(cases n<;>rfl)
 ·cases v<;>first|(cases h;done)|(cases n<;>rfl)
theorem Xec {t:TypeId} {ti:TyI} (ht:tyI P t=some ti) {x:PV} {v n:Value} {y:PV} (hx:Rep Φ μ x v) (hy:Rep Φ μ y n) {b:Bool} (h:pnil ti.kind x=some b) (hfit:X6s ti.kind y=true) (d:Nat) :
  (Op.equalIn (d+1) t v n).run P w = .ok b w∧(Op.equalIn (d+1) t n v).run P w = .ok b w∧Y2i v=true:=by
 have ptr:Xer ti.kind=true→n = .pointer none∧∃e,P.underlying t=some (.pointer e):=by
  intro hk
  refine ⟨?_,Xl1 ht hk⟩
  unfold X6s at hfit
  split at hfit
  ·rename_i e;rw [e] at hk;cases hk
  ·rename_i e;rw [e] at hk;cases hk
  ·rename_i e;rw [e] at hk;cases hk
  ·exact hy.val_inv.1
  ·exact hy.val_inv.1
  ·cases hfit
 unfold pnil at h
 split at h
 ·split at h
  ·rename_i hk
   cases h
   obtain ⟨rfl,e,hu⟩:=ptr hk
   obtain ⟨rfl,-⟩:=hx.val_inv
   refine ⟨by simp [Op.equalIn,run_underlying hu],by simp [Op.equalIn,run_underlying hu],rfl⟩
  ·cases h
 ·split at h
  ·rename_i hk
   cases h
   obtain ⟨rfl,e,hu⟩:=ptr hk
   obtain ⟨g,-,rfl⟩:=hx.ptr_inv
   refine ⟨by simp [Op.equalIn,run_underlying hu],by simp [Op.equalIn,run_underlying hu],rfl⟩
  ·cases h
 ·split at h
  ·rename_i hk
   cases h
   obtain ⟨rfl,e,hu⟩:=ptr hk
   obtain ⟨_,_,_,rfl,-⟩:=hx.ep_inv
   refine ⟨by simp [Op.equalIn,run_underlying hu],by simp [Op.equalIn,run_underlying hu],rfl⟩
  ·cases h
 ·split at h
  ·rename_i k e hk
   cases h
   rw [hk] at hfit
   obtain rfl:=Xe3 hfit
   obtain ⟨rfl,-⟩:=hx.val_inv
   obtain ⟨rfl,-⟩:=hy.val_inv
   have hu:=X2s ht hk
   refine ⟨by simp [Op.equalIn,run_underlying hu],by simp [Op.equalIn,run_underlying hu],rfl⟩
  ·cases h
 ·split at h
  ·rename_i k e hk
   cases h
   rw [hk] at hfit
   obtain rfl:=Xe3 hfit
   obtain ⟨g,-,rfl⟩:=hx.mref_inv
   obtain ⟨rfl,-⟩:=hy.val_inv
   have hu:=X2s ht hk
   refine ⟨by simp [Op.equalIn,run_underlying hu],by simp [Op.equalIn,run_underlying hu],rfl⟩
  ·cases h
 ·split at h
  ·rename_i hk
   cases h
   rw [hk] at hfit
   obtain rfl:=Xbw hfit
   obtain ⟨rfl,-⟩:=hx.val_inv
   obtain ⟨rfl,-⟩:=hy.val_inv
   obtain ⟨p,r,vv,hu⟩:=Xk4 ht hk
   refine ⟨by simp [Op.equalIn,run_underlying hu],by simp [Op.equalIn,run_underlying hu],rfl⟩
  ·cases h
 ·split at h
  ·rename_i hk
   cases h
   rw [hk] at hfit
   obtain rfl:=Xbw hfit
   obtain ⟨us,hv0,-⟩:=hx.fn_inv
   obtain ⟨t1,p1,q1,e1⟩:=Xaq _ us.toArray
   rw [e1] at hv0
   subst hv0
   obtain ⟨rfl,-⟩:=hy.val_inv
   obtain ⟨p,r,vv,hu⟩:=Xk4 ht hk
   refine ⟨by simp [Op.equalIn,run_underlying hu],by simp [Op.equalIn,run_underlying hu],rfl⟩
  ·cases h
 ·split at h
  ·rename_i e k by_ zr hk
   cases h
   rw [hk] at hfit
   obtain rfl:=X5h hfit
   obtain rfl:=hx.nilsl_inv
   obtain rfl:=hy.nilsl_inv
   obtain ⟨hu,-⟩:=Ys ht hk
   refine ⟨by simp [Op.equalIn,run_underlying hu],by simp [Op.equalIn,run_underlying hu],rfl⟩
  ·cases h
 ·rename_i m kk cs own
  split at h
  ·rename_i e k by_ zr hk
   cases h
   rw [hk] at hfit
   obtain rfl:=X5h hfit
   obtain ⟨a,b',off,cap,us,rfl,c1,c2,c3,c4,c5,c6⟩:=hx.sl_inv
   obtain rfl:=c4 O_
   obtain rfl:=hy.nilsl_inv
   obtain ⟨hu,-⟩:=Ys ht hk
   refine ⟨by simp [Op.equalIn,run_underlying hu],by simp [Op.equalIn,run_underlying hu],rfl⟩
  ·cases h
 ·rename_i id o m kk
  split at h
  ·rename_i e k by_ zr hk
   cases h
   rw [hk] at hfit
   obtain rfl:=X5h hfit
   obtain ⟨a,cap,rfl,c1,c2,c4⟩:=hx.msl_inv
   obtain ⟨g,-,rfl⟩:=c4 O_
   obtain rfl:=hy.nilsl_inv
   obtain ⟨hu,-⟩:=Ys ht hk
   refine ⟨by simp [Op.equalIn,run_underlying hu],by simp [Op.equalIn,run_underlying hu],rfl⟩
  ·cases h
 ·cases h
theorem Y4w {t:TypeId} {ki:TyI} (ht:tyI P t=some ki) {k:SK} (hk:skT ki.kind=some k) {kv:Value} (hko:X6j ki.kind kv=true):∃dd,P.underlying t=some dd∧(∀k' b,veq k kv k' = some b→Instr.sameNow dd kv k' = some b)∧∀n e,(Instr.checkKey e (n+1) t kv).run P w = .ok () w:=by
 cases hd:ki.kind with
 |int ik=>
  have hu:=X80 ht hd
  rw [hd] at hk hko
  cases hk
  cases kv<;>simp [X6j] at hko
  subst hko
  refine ⟨_,hu,fun k' b h=>?_,fun n e=>?_⟩
  ·cases k' <;> simp [veq] at h
   simp [Instr.sameNow,h]
  ·simp [Instr.checkKey,run_underlying hu]
 |str=>
  have hu:=X1z ht hd
  rw [hd] at hk hko
  cases hk
  cases kv<;>simp [X6j] at hko
  refine ⟨_,hu,fun k' b h=>?_,fun n e=>?_⟩
  ·cases k' <;> simp [veq] at h
   simp [Instr.sameNow,h]
  ·simp [Instr.checkKey,run_underlying hu]
 |bool=>
  obtain ⟨i,d,z,h1,h2,h3,h4,-,h6⟩:=K1 ht
  rw [h6] at hd
  simp only at hd
  have hd' : d = .bool:=by
   cases d with
   |bool=>rfl
   |slice e=>simp only [tdOf] at hd;split at hd<;>(try split at hd)<;>(try split at hd)<;>cases hd
   |struct fs=>simp only [tdOf] at hd;split at hd<;>cases hd
   |array n e=>simp only [tdOf] at hd;split at hd<;>cases hd
   |pointer e=>simp only [tdOf] at hd;split at hd<;>(try split at hd)<;>cases hd
   |_=>cases hd
  subst hd'
  have hd2:ki.kind = .bool:=by rw [h6];exact hd
  rw [hd2] at hk hko
  cases hk
  cases kv<;>simp [X6j] at hko
  refine ⟨_,h2,fun k' b h=>?_,fun n e=>?_⟩
  ·cases k' <;> simp [veq] at h
   simp [Instr.sameNow,h]
  ·simp [Instr.checkKey,run_underlying h2]
 |_=>rw [hd] at hk;cases hk
def Xtc (Φ:Imm) (μ:Nat→Option Nat) (es:List (Nat×PV×PV)) (ents:Array MapEntry):Prop:=ents.size=es.length∧∀(j:Nat) s k c,es[j]? = some (s,k,c)→∃e,ents[j]? = some e∧e.born=s∧Rep Φ μ k e.key∧Rep Φ μ c e.val
theorem Xau {k:SK} {kv:Value} : ∀(es:List (Nat×PV×PV)) (i j:Nat),X0h k kv es i=some (some j)→i≤j∧j < i+es.length
 | [],i,j,h=>by simp [X0h] at h
 |(s,kp,c) :: es,i,j,h=>by
  have go:X0h k kv es (i+1)=some (some j)→i≤j∧j < i+(es.length+1):=fun h=>by have:=Xau es (i+1) j h;omega
  cases kp<;>simp only [X0h] at h<;>try (cases h;done)
  split at h
  ·cases h;simp
  ·simpa using go h
  ·cases h
theorem Xd8 {dd:TypeDesc} {k:SK} {kv:Value} (hs:∀k' b,veq k kv k' = some b→Instr.sameNow dd kv k' = some b):∀(es:List (Nat×PV×PV)) (ents:List MapEntry) (i:Nat) (r:Option Nat),ents.length=es.length →
  (∀(j:Nat) s kk c,es[j]? = some (s,kk,c)→∃e,ents[j]? = some e∧e.born=s∧Rep Φ μ kk e.key∧Rep Φ μ c e.val)→X0h k kv es i=some r→match r with
   |none=>Instr.findNow dd kv ents i=some none
   |some j=>∃e,ents[j - i]? = some e∧Instr.findNow dd kv ents i=some (some (j,e.val))
 | [],ents,i,r,hl,_,h=>by
  obtain rfl:ents = []:=List.eq_nil_of_length_eq_zero (by simpa using hl)
  simp [X0h] at h;subst h
  simp [Instr.findNow]
 |(s,kp,c) :: es,[],i,r,hl,_,h=>by simp at hl
 |(s,kp,c) :: es,e :: ents,i,r,hl,hr,h=>by
  obtain ⟨e',he',-,hk,hc⟩:=hr 0 s kp c rfl
  simp at he'
  subst he'
  cases kp<;>simp only [X0h] at h<;>try (cases h;done)
  rename_i kvv
  obtain ⟨hkk,-⟩:=hk.val_inv
  split at h
  ·rename_i hv
   cases h
   refine ⟨e,S_,?_⟩
   rw [Instr.findNow,hkk,hs _ _ hv]
  ·rename_i hv
   have ih:=Xd8 hs es ents (i+1) r (by simpa using hl) (fun j s kk c hj=>by simpa using hr (j+1) s kk c (by simpa using hj)) h
   cases r with
   |none=>simp only at ih ⊢; rw [Instr.findNow,hkk,hs _ _ hv];exact ih
   |some j=>
    obtain ⟨e',h1,h2⟩:=ih
    have hlt:=(Xau es _ _ h).1
    refine ⟨e',?_,?_⟩
    ·rw [show j - i=(j - (i+1))+1 by omega];simpa using h1
    ·rw [Instr.findNow,hkk,hs _ _ hv];exact h2
  ·cases h
theorem X3z {t:TypeId} {ki:TyI} (ht:tyI P t=some ki) {k:SK} (hk:skT ki.kind=some k) {kv:Value} (hko:X6j ki.kind kv=true) {es:List (Nat×PV×PV)} {ents:Array MapEntry} (hE:Xtc Φ μ es ents) {r:Option Nat} (h:X0h k kv es 0=some r) :
  (∀e,(Instr.checkKey e 10000 t kv).run P w = .ok () w)∧match r with
   |none=>(Instr.findKey t kv ents.toList).run P w = .ok none w
   |some j=>∃s kk c e,es[j]? = some (s,kk,c)∧ents[j]? = some e∧e.born=s∧Rep Φ μ kk e.key∧Rep Φ μ c e.val∧kk = .val e.key∧veq k kv e.key=some true∧(Instr.findKey t kv ents.toList).run P w = .ok (some (j,e.val)) w:=by
 obtain ⟨dd,hu,hs,hck⟩:=Y4w (w:=w) ht hk hko
 refine ⟨fun e=>hck 9999 e,?_⟩
 have hm:=Xd8 hs es ents.toList 0 r (by simpa using hE.1) (fun j s kk c hj=>by simpa using hE.2 j s kk c hj) h
 cases r with
 |none=>
  simp only at hm ⊢
  simp [Instr.findKey,run_underlying hu,hm]
 |some j=>
  obtain ⟨e,h1,h2⟩:=hm
  have hlt:=Xau es _ _ h
  have hj:es[j]? = some es[j]:=S_
  obtain ⟨e',q1,q2,q3,q4⟩:=hE.2 j es[j].1 es[j].2.1 es[j].2.2 hj
  simp only [Nat.sub_zero,Array.getElem?_toList] at h1
  rw [q1] at h1;cases h1
  have hkey:∀(es:List (Nat×PV×PV)) (i j:Nat),X0h k kv es i=some (some j)→∃s k' c,es[j - i]? = some (s, .val k',c)∧veq k kv k' = some true:=by
   intro es
   induction es with
   |nil=>intro i j h;simp [X0h] at h
   |cons x es ih=>
    intro i j h
    obtain ⟨s,kp,c⟩:=x
    cases kp<;>simp only [X0h] at h<;>try (cases h;done)
    split at h
    ·rename_i hv;cases h;exact ⟨s,_,c,S_,hv⟩
    ·obtain ⟨s',k',c',e1,e2⟩:=ih _ _ h
     have:=(Xau es _ _ h).1
     exact ⟨s',k',c',by rw [show j - i=(j - (i+1))+1 by omega];simpa using e1,e2⟩
    ·cases h
  obtain ⟨s',k',c',e1,e2⟩:=hkey es 0 j h
  rw [Nat.sub_zero,hj,Option.some.injEq] at e1
  have ek:es[j].2.1 = .val k':=by rw [e1]
  have q3':=q3
  rw [ek] at q3'
  obtain ⟨ev,-⟩:=q3'.val_inv
  refine ⟨es[j].1,es[j].2.1,es[j].2.2,e,hj,q1,q2,q3,q4,by rw [ek,ev],by rw [ev];exact e2,?_⟩
  simp [Instr.findKey,run_underlying hu,h2]
theorem Xk0 {t:TypeId} {ti:TyI} (ht:tyI P t=some ti) {z:PV} (h:Xja ti=some z):∃v,(zeroValue t).run P w = .ok v w∧Rep Φ μ z v:=by
 obtain ⟨i,zv,h1,h3,h4,h5⟩:=Y3m ht
 refine ⟨zv,by simp [zeroValue,typeInfo,h1,h3],?_⟩
 simp only [Xja,h5] at h
 have hr:RepL Φ μ (zv.cells.toList.map pv0) zv.cells.toList:=X1y _
 cases zv with
 |agg cs=>
  rw [←h4] at h
  simp only [Xnk,if_true,Option.some.injEq] at h
  subst h
  simpa [Value.cells] using hr.agg
 |_=>
  rw [←h4] at h
  simp [Xnk,Value.cells] at h
  subst h
  exact Xl9 _
theorem Xca (h:RelG Φ0 W M Φ μ ω σ a w) {x:PV} {v:Value} (hx:Rep Φ μ x v) {es:List (Nat×PV×PV)} (hp:Xgs σ.m x=some es) :
  ∃ents:Array MapEntry,Xtc Φ μ es ents∧((v = .map none∧ents = #[])∨∃g clock,v = .map (some g)∧w.heap[g]? = some (.map ents clock)):=by
 unfold Xgs at hp
 split at hp
 ·rename_i id
  split at hp
  ·rename_i es' clock hm
   cases hp
   obtain ⟨g,hg,rfl⟩:=hx.mref_inv
   obtain ⟨g',k1,k2,k3,k4,-,ents,k5,k6,k7⟩:=h.map id _ hm
   rw [hg] at k1;cases k1
   exact ⟨ents,⟨k6,fun j s k c hj=>by obtain ⟨e,e1,e2,e3,e4,-⟩:=k7 j s k c hj;exact ⟨e,e1,e2,e3,e4⟩⟩, .inr ⟨g,clock,rfl,k5⟩⟩
  ·cases hp
 ·cases hp
  obtain ⟨rfl,-⟩:=hx.val_inv
  exact ⟨#[],⟨rfl,fun j s k c hj=>by simp at hj⟩, .inl ⟨rfl,rfl⟩⟩
 ·cases hp
theorem Xgf (hT:T=Kf P) (h:RelG Φ0 W M Φ μ ω σ a w) {t:TypeId} {ti:TyI} (ht:tyI P t=some ti) {x k c:PV} {b:Bool} {v kv:Value} (hx:Rep Φ μ x v) (hk:Rep Φ μ k kv) (hp:X71 T σ.m ti.kind x k=some (c,b)) (ok:Bool) :
  ∃u,(Instr.lookup t v kv ok).run P w = .ok (if ok then .tuple #[u, .bool b] else u) w∧Rep Φ μ c u∧c.ownB=false:=by
 unfold X71 at hp
 split at hp
 case h_2=>cases hp
 rename_i kt et kv' hkind
 obtain ⟨rfl,-⟩:=hk.val_inv
 have hu:=X2s ht hkind
 split at hp
 case h_2=>cases hp
 rename_i ki ei es hki hei hes
 obtain ⟨ents,hE,hv⟩:=Xca h hx hes
 have hrun:∀(o:Option (Nat×Value)) u,(∀e,(Instr.checkKey e 10000 kt kv).run P w = .ok () w)→(Instr.findKey kt kv ents.toList).run P w = .ok o w→(match o with|some (_,x)=>u=x∧b=true|none=>(zeroValue et).run P w = .ok u w∧b=false) →
   (Instr.lookup t v kv ok).run P w = .ok (if ok then .tuple #[u, .bool b] else u) w:=by
  intro o u k1 k2 k3
  rcases hv with ⟨rfl,rfl⟩|⟨g,clock,rfl,hg⟩
  ·simp only [Array.toList] at k2
   cases o with
   |none=>simp only at k3;obtain ⟨k3,rfl⟩:=k3;simp only [Instr.lookup,Sem.run_bind,run_underlying hu,Result.andThen_ok,Sem.run_pure,k1,k2,k3]
   |some o=>simp only at k3;obtain ⟨rfl,rfl⟩:=k3;simp only [Instr.lookup,Sem.run_bind,run_underlying hu,Result.andThen_ok,Sem.run_pure,k1,k2]
  ·cases o with
   |none=>simp only at k3;obtain ⟨k3,rfl⟩:=k3;simp only [Instr.lookup,Sem.run_bind,run_underlying hu,Result.andThen_ok,Sem.run_pure,(Go.run_getObj_map (P:=P) (w:=w) _ _ _ hg),k1,k2,k3]
   |some o=>simp only at k3;obtain ⟨rfl,rfl⟩:=k3;simp only [Instr.lookup,Sem.run_bind,run_underlying hu,Result.andThen_ok,Sem.run_pure,(Go.run_getObj_map (P:=P) (w:=w) _ _ _ hg),k1,k2]
 have hkt:=Y9 hT hki
 have het:=Y9 hT hei
 unfold mget at hp
 split at hp
 case isFalse=>cases hp
 rename_i hko
 split at hp
 case h_2=>cases hp
 rename_i sk hsk
 split at hp
 ·rename_i j hm
  obtain ⟨h1,s,kk,c',e,q1,q2,q3,q4,q5,q6,q7,q8⟩:=X3z (w:=w) hkt hsk hko hE hm
  rw [q1] at hp
  cases hp
  exact ⟨e.val,hrun _ _ h1 q8 ⟨rfl,rfl⟩,q5.bare,PV.bare_own _⟩
 ·rename_i hm
  obtain ⟨h1,h2⟩:=X3z (w:=w) hkt hsk hko hE hm
  obtain ⟨z,hz,hzz⟩:=Option.map_eq_some_iff.1 hp
  cases hzz
  obtain ⟨u,r1,r2⟩:=Xk0 (w:=w) (Φ:=Φ) (μ:=μ) het hz
  exact ⟨u,hrun _ _ h1 h2 ⟨r1,rfl⟩,r2.bare,PV.bare_own _⟩
 ·cases hp
theorem Xdc (mx:Bool):∀(ps:List PV) (vs:List Value) (k:IntKind) (n:Int) (p:PV),RepL Φ μ ps vs→Xm6 mx k n ps=some p→∃r,(vs.foldlM (if mx then Builtin.max2 else Builtin.min2) (.int k n)).run P w = .ok r w∧Rep Φ μ p r∧p.ownB=false
 | [],vs,k,n,p,hr,h=>by
  obtain rfl:vs = []:=List.eq_nil_of_length_eq_zero (by simpa using hr.1)
  simp [Xm6] at h;subst h
  exact ⟨.int k n,S_, .val _ rfl,rfl⟩
 |q :: ps,[],k,n,p,hr,h=>by have:=hr.1;simp at this
 |q :: ps,v :: vs,k,n,p,hr,h=>by
  have h0:=hr.2 0 q v rfl rfl
  have ht:RepL Φ μ ps vs:=⟨by simpa using hr.1,fun j c u h1 h2=>hr.2 (j+1) c u (by simpa using h1) (by simpa using h2)⟩
  cases q with
  |val u=>
   obtain ⟨rfl,-⟩:=h0.val_inv
   cases v with
   |int k' y=>
    simp only [Xm6] at h
    obtain ⟨r,r1,r2⟩:=Xdc mx ps vs k _ p ht h
    refine ⟨r,?_,r2⟩
    rw [List.foldlM_cons]
    cases mx
    ·simp only [Bool.false_eq_true,if_false,Sem.run_bind] at r1 ⊢
     rw [show (Builtin.min2 (.int k n) (.int k' y)).run P w = .ok (.int k (if y < n then y else n)) w by simp [Builtin.min2]]
     exact r1
    ·simp only [if_true,Sem.run_bind] at r1 ⊢
     rw [show (Builtin.max2 (.int k n) (.int k' y)).run P w = .ok (.int k (if y > n then y else n)) w by simp [Builtin.max2]]
     exact r1
   |_=>simp [Xm6] at h
  |_=>simp [Xm6] at h
theorem Xe8 (mx:Bool) {ps:List PV} {vs:List Value} {p:PV} (hr:RepL Φ μ ps vs) (h:pmax mx ps=some p) (at_:Array TypeId) (ty:TypeId):∃r,(if mx then Builtin.max_ at_ ty vs.toArray else Builtin.min_ at_ ty vs.toArray).run P w = .ok r w∧Rep Φ μ p r∧p.ownB=false:=by
 unfold pmax at h
 split at h
 ·rename_i k n r
  cases vs with
  |nil=>have:=hr.1;simp at this
  |cons v vs=>
   obtain ⟨rfl,-⟩:=(hr.2 0 _ v rfl rfl).val_inv
   have ht:RepL Φ μ r vs:=⟨by simpa using hr.1,fun j c u h1 h2=>hr.2 (j+1) c u (by simpa using h1) (by simpa using h2)⟩
   obtain ⟨x,r1,r2⟩:=Xdc (P:=P) (w:=w) mx r vs k n p ht h
   refine ⟨x,?_,r2⟩
   cases mx
   ·simpa [Builtin.min_] using r1
   ·simpa [Builtin.max_] using r1
 ·cases h
theorem Xdk {t:TypeId} {ti:TyI} (ht:tyI P t=some ti) {x y:PV} {v n:Value} (hx:Rep Φ μ x v) (hy:Rep Φ μ y n) {b:Bool} (h:Xz9 ti.kind x y=some b) :
  (binOp .eql t v n).run P w = .ok (.bool b) w∧(binOp .neq t v n).run P w = .ok (.bool !b) w∧∀op a b,(eqGuard op t a b v n).run P w = .ok () w:=by
 unfold Xz9 at h
 split at h
 ·rename_i hf
  obtain ⟨h1,h2,h3⟩:=Xec (w:=w) ht hx hy h hf 9999
  have h1' : (Op.equal t v n).run P w = .ok b w:=h1
  obtain ⟨k1,k2,k3,k4⟩:=Xmt (n:=n) h3 t
  exact ⟨by rw [k1];simp [h1'],by rw [k3];simp [h1'],fun op a b=>(Xek h3 op t a b).1⟩
 ·split at h
  ·rename_i hf
   obtain ⟨h1,h2,h3⟩:=Xec (w:=w) ht hy hx h hf 9999
   have h2' : (Op.equal t v n).run P w = .ok b w:=h2
   obtain ⟨k1,k2,k3,k4⟩:=Xmt (n:=v) h3 t
   exact ⟨by rw [k2];simp [h2'],by rw [k4];simp [h2'],fun op a b=>(Xek h3 op t a b).2⟩
  ·cases h
theorem Xka (h:RelG Φ0 W M Φ μ ω σ a w) {x k c:PV} {v:Value} (hx:Rep Φ μ x v) (hp:X4n σ.m x=some (k,c)):∃ku cu,(Instr.entry v).run P w = .ok (.tuple #[ku,cu]) w∧Rep Φ μ k ku∧Rep Φ μ c cu:=by
 unfold X4n at hp
 split at hp
 case h_2=>cases hp
 rename_i id
 split at hp
 case h_2=>cases hp
 rename_i mid since seen last hit
 split at hp
 case h_2=>cases hp
 rename_i es clock hmp
 split at hp
 case isFalse=>cases hp
 rename_i hcl
 subst hcl
 split at hp
 case h_2=>cases hp
 rename_i s hs
 obtain ⟨e,he,hkc⟩:=Option.map_eq_some_iff.1 hp
 cases hkc
 obtain ⟨g,hg,rfl⟩:=hx.ptr_inv
 obtain ⟨g',k1,k2,k3,k4,gm,k5,k6⟩:=h.map id _ hit
 rw [hg] at k1;cases k1
 obtain ⟨gm',m1,m2,m3,m4,-,ents,m5,m6,m7⟩:=h.map mid _ hmp
 rw [k5] at m1;cases m1
 have hit' : (getObj g).run P w = .ok (.mapIter (some gm) since seen.toArray clock) w:=by simp [getObj,Sem.run,k6]
 have hb:seen.toArray.back? = some s:=by simpa using hs
 have hfind:∃e',ents.find? (fun x=>x.born == s)=some e'∧Rep Φ μ e.2.1 e'.key∧Rep Φ μ e.2.2 e'.val:=by
  have:∀(es:List (Nat×PV×PV)) (ents:List MapEntry),ents.length=es.length→(∀(j:Nat) s k c,es[j]? = some (s,k,c)→∃e,ents[j]? = some e∧e.born=s∧Rep Φ μ k e.key∧Rep Φ μ c e.val)→es.find? (fun e=>e.1 == s)=some e→∃e',ents.find? (fun x=>x.born == s)=some e'∧Rep Φ μ e.2.1 e'.key∧Rep Φ μ e.2.2 e'.val:=by
   intro es
   induction es with
   |nil=>intro ents _ _ hh;simp at hh
   |cons x es ih=>
    intro ents hl hr hh
    cases ents with
    |nil=>simp at hl
    |cons y ents=>
     obtain ⟨e0,q1,q2,q3,q4⟩:=hr 0 x.1 x.2.1 x.2.2 rfl
     simp at q1
     subst q1
     rw [List.find?_cons] at hh ⊢
     rw [q2]
     split at hh
     ·rename_i hb
      cases hh
      exact ⟨_,rfl,q3,q4⟩
     ·rename_i hb
      exact ih ents (by simpa using hl) (fun j s k c hj=>by simpa using hr (j+1) s k c (by simpa using hj)) hh
  obtain ⟨e',r1,r2⟩:=this es ents.toList (by simpa using m6) (fun j s k c hj=>by obtain ⟨e,e1,e2,e3,e4,-⟩:=m7 j s k c hj;exact ⟨e,by simpa using e1,e2,e3,e4⟩) he
  exact ⟨e',by simpa using r1,r2⟩
 obtain ⟨e',r1,r2,r3⟩:=hfind
 refine ⟨e'.key,e'.val,?_,r2.bare,r3.bare⟩
 simp only [Instr.entry,Sem.run_bind,hit',Result.andThen_ok,hb,(Go.run_getObj_map (P:=P) (w:=w) _ _ _ m5),bne_self_eq_false,Bool.false_eq_true,if_false,r1,Sem.run_pure]
theorem Xlo (hT:T=Kf P) (h:RelG Φ0 W M Φ μ ω σ a w) (o:Oper) {p:PV} (hp:X2k T σ o.op=some p) :
  ∃v,(execOp a.eval o).run P w = .ok (.value v) w∧Rep Φ μ p v∧p.ownB=false:=by
 obtain ⟨dst,op,ty,pos,after,guard⟩:=o
 simp only at hp
 unfold X2k at hp
 split at hp
 ·rename_i x
  have hx:=h.ev x
  split at hp
  ·rename_i id off e
   cases hp
   rw [e] at hx
   obtain ⟨g,hg,hv⟩:=hx.ptr_inv
   exact ⟨a.eval x,by simp only [execOp,hv,Sem.run_pure],hx,rfl⟩
  ·rename_i cs off e
   cases hp
   rw [e] at hx
   obtain ⟨b,o',us,hv,-⟩:=hx.ep_inv
   exact ⟨a.eval x,by simp only [execOp,hv,Sem.run_pure],hx,rfl⟩
  ·rename_i f cs e
   cases hp
   rw [e] at hx
   obtain ⟨us,hv,-⟩:=hx.fn_inv
   obtain ⟨t1,p1,q1,e1⟩:=Xaq f us.toArray
   rw [e1] at hv
   exact ⟨a.eval x,by simp only [execOp,hv,Sem.run_pure],hx,rfl⟩
  ·cases hp
 ·rename_i op t x y yt
  split at hp
  case h_2=>cases hp
  rename_i ti ht
  split at hp
  ·obtain ⟨b,hb,rfl⟩:=Option.map_eq_some_iff.1 hp
   obtain ⟨r1,r1',r2⟩:=Xdk (P:=P) (w:=w) (Y9 hT ht) (h.ev x) (h.ev y) hb
   refine ⟨.bool b,?_, .val _ rfl,rfl⟩
   simp only [execOp,Sem.run_bind,r2,Result.andThen_ok,r1,r1',Sem.run_pure]
  ·obtain ⟨b,hb,rfl⟩:=Option.map_eq_some_iff.1 hp
   obtain ⟨r1,r1',r2⟩:=Xdk (P:=P) (w:=w) (Y9 hT ht) (h.ev x) (h.ev y) hb
   refine ⟨.bool !b,?_, .val _ rfl,rfl⟩
   simp only [execOp,Sem.run_bind,r2,Result.andThen_ok,r1,r1',Sem.run_pure]
  ·cases hp
 ·rename_i t x k ok
  split at hp
  case h_2=>cases hp
  rename_i ti ht
  split at hp
  case h_2=>cases hp
  rename_i c b hl
  obtain ⟨u,r1,r2,r3⟩:=Xgf hT h (Y9 hT ht) (h.ev x) (h.ev k) hl ok
  cases ok with
  |true=>
   simp only [if_true,Option.some.injEq] at hp r1
   subst hp
   refine ⟨.tuple #[u, .bool b],by simp [execOp,r1],?_,rfl⟩
   have:=(RepL.cons r2 (RepL.cons (Rep.val (Φ:=Φ) (μ:=μ) (.bool b) rfl) RepL.nil)).tup
   simpa using this
  |false=>
   simp only [Bool.false_eq_true,if_false,Option.some.injEq] at hp r1
   subst hp
   exact ⟨u,by simp [execOp,r1],r2,r3⟩
 ·rename_i it
  split at hp
  case h_2=>cases hp
  rename_i k c he
  cases hp
  obtain ⟨ku,cu,r1,r2,r3⟩:=Xka (P:=P) h (h.ev it) he
  refine ⟨.tuple #[ku,cu],by simp [execOp,r1],?_,rfl⟩
  have:=(RepL.cons r2 (RepL.cons r3 RepL.nil)).tup
  simpa using this
 ·rename_i t x
  have hx:=h.ev x
  split at hp
  case h_2=>cases hp
  rename_i ti ht
  split at hp
  case h_2=>cases hp
  rename_i n e k ag hk
  obtain ⟨hu,-⟩:=X51 (Y9 hT ht) hk
  split at hp
  ·rename_i id off m k' ex
   split at hp
   ·rename_i hc
    cases hp
    rw [ex] at hx
    obtain ⟨ad,cap,hv,-,-,hg⟩:=hx.msl_inv
    obtain ⟨g,hg1,rfl⟩:=hg hc.2
    exact ⟨.pointer (some ⟨g,off,none⟩),by simp [execOp,Instr.arrayAt,run_underlying hu,hv,Nat.not_lt.2 hc.1], .ptr _ _ g hg1,rfl⟩
   ·cases hp
  ·rename_i m k' cs own ex
   split at hp
   ·rename_i hc
    cases hp
    rw [ex] at hx
    obtain ⟨ad,b,o',cap,us,hv,-,-,-,ha,hp1,hp2⟩:=hx.sl_inv
    rw [ha hc.2] at hv
    exact ⟨.pointer (some ⟨b,o' + 0,none⟩),by simp [execOp,Instr.arrayAt,run_underlying hu,hv,Nat.not_lt.2 hc.1], .ep cs 0 b o' us hp1 hp2,rfl⟩
   ·cases hp
  ·cases hp
 ·rename_i c
  obtain ⟨callee,args,argTypes⟩:=c
  simp only at hp
  have hargs:RepL Φ μ (args.toList.map (pev σ)) (args.toList.map a.eval):=by
   refine ⟨S_,fun j c u h1 h2=>?_⟩
   rw [M_] at h1 h2
   obtain ⟨x,hx,rfl⟩:=Option.map_eq_some_iff.1 h1
   rw [hx] at h2
   simp at h2
   subst h2
   exact h.ev x
  have hae:(args.toList.map a.eval).toArray=args.map a.eval:=by rw [←Array.toList_map,Array.toArray_toList]
  split at hp
  ·split at hp
   case h_2=>cases hp
   rename_i x t ea et
   obtain rfl:args = #[x]:=by rw [←Array.toArray_toList (xs:=args),ea]
   obtain rfl:argTypes = #[t]:=by rw [←Array.toArray_toList (xs:=argTypes),et]
   split at hp
   case h_2=>cases hp
   rename_i ti ht
   split at hp
   case h_2=>cases hp
   rename_i kt et hk
   obtain ⟨es,hes,rfl⟩:=Option.map_eq_some_iff.1 hp
   obtain ⟨ents,hE,hv⟩:=Xca h (h.ev x) hes
   have hu:=X2s (Y9 hT ht) hk
   refine ⟨.int .i64 es.length,?_, .val _ rfl,rfl⟩
   rcases hv with ⟨hv,rfl⟩|⟨g,clock,hv,hg⟩
   ·have h0:es.length=0:=by have:=hE.1;simpa using this.symm
    simp [execOp,resolve,invoke,builtin,Builtin.len_,run_underlying hu,hv,goInt,h0]
   ·have h0:=hE.1
    simp only [execOp,resolve,invoke,builtin,Builtin.len_,Sem.run_bind,Sem.run_pure,Result.andThen_ok,List.map_toArray,List.map_cons,List.map_nil,List.getElem?_toArray,List.getElem?_cons_zero,run_underlying hu,hv,(Go.run_getObj_map (P:=P) (w:=w) _ _ _ hg),goInt,h0]
  ·obtain ⟨r,r1,r2⟩:=Xe8 (P:=P) (w:=w) true hargs hp argTypes ty
   refine ⟨r,?_,r2⟩
   rw [hae] at r1
   simp only [if_true] at r1
   simp only [execOp,resolve,invoke,builtin,Sem.run_bind,Sem.run_pure,Result.andThen_ok,r1]
  ·obtain ⟨r,r1,r2⟩:=Xe8 (P:=P) (w:=w) false hargs hp argTypes ty
   refine ⟨r,?_,r2⟩
   rw [hae] at r1
   simp only [Bool.false_eq_true,if_false] at r1
   simp only [execOp,resolve,invoke,builtin,Sem.run_bind,Sem.run_pure,Result.andThen_ok,r1]
  ·cases hp
 ·cases hp
theorem Xkp (hT:T=Kf P) (h:RelG Φ0 W M Φ μ ω σ a w) (o:Oper) {p:PV} (hp:V5 T σ o.op=some p) :
  ∃v,(execOp a.eval o).run P w = .ok (.value v) w∧Rep Φ μ p v∧p.ownB=false:=by
 unfold V5 at hp
 split at hp
 ·rename_i q hq
  cases hp
  exact Xoh hT h o hq
 ·exact Xlo hT h o hp
theorem RelG.kmu_upd (h:RelG Φ0 W M Φ μ ω σ a w) {id:Nat} {bs:List PV} (hb:σ.b id=some bs) (x:List PV):∀i g,Φ0.mu i=some g→(upd σ.b id (some x) i≠none∨σ.m i≠none)→μ i=some g:=fun i g e hi=>h.kmu i g e (by
 rcases hi with hi|hi
 ·left
  intro hn
  refine hi ?_
  have:i≠id:=by rintro rfl;rw [hb] at hn;cases hn
  simp only [X8,if_neg this];exact hn
 ·exact .inr hi)
theorem RelG.store (h:RelG Φ0 W M Φ μ ω σ a w) {id:Nat} {bs new:List PV} (hb:σ.b id=some bs) {off:Nat} {vs:List Value} (hn:X4r Φ μ new vs) (hle:off+new.length≤bs.length) {g:Nat} (hg:μ id=some g) :
  ∃w',(storeCells ⟨g,off,none⟩ vs).run P w = .ok () w'∧RelG Φ0 W M Φ μ ω { σ with b:=upd σ.b id (some (Y5 bs off new)) } a w':=by
 obtain ⟨g',cur,Ty,h1,h2,h3,h4,h5,h6,h7⟩:=h.box id bs hb
 rw [hg] at h1;cases h1
 have hl:=hn.1.1
 have hcl:bs.length≤cur.toList.length:=by simpa using h6
 have hrun:=run_storeCells_at P g off Ty vs 0 cur w h2 O_ hn.2.1
 rw [Nat.add_zero] at hrun
 refine ⟨_,hrun,?_⟩
 have hlt:g < w.heap.size:=(Array.getElem?_eq_some_iff.1 h2).1
 have hmo:∀i X,σ.m i=some X→∀q,OfId i q→q≠.box id:=by
  rintro i X e q hq rfl
  rcases hq with hq|⟨j,hq⟩
  ·cases hq
   obtain ⟨g',k1,-,-,-,k5⟩:=h.map _ X e
   rw [hg] at k1;cases k1
   cases X with
   |map es clock=>obtain ⟨-,ents,k6,-⟩:=k5;rw [h2] at k6;cases k6
   |iter mid since seen last=>obtain ⟨gm,-,k6⟩:=k5;rw [h2] at k6;cases k6
  ·cases hq
 have hkeep:∀q:Who,q≠.box id→∀g',ω g' = some q→(w.setRow g (cur.toList.take off ++ vs ++ cur.toList.drop (off+vs.length)).toArray).heap[g']? = w.heap[g']?∧(∀j,Φ g' j=Φ g' j)∧ω g' = some q:=by
  intro q hq g' e
  refine ⟨setRow_other w g g' _ ?_,fun _=>rfl,e⟩
  rintro rfl
  rw [h4] at e;cases e;exact hq rfl
 refine ⟨?_,h.defers,h.size,?_,h.old,h.tmps,fun t n k cs E e=>(h.own t n k cs E e).step (hkeep _ S_),?_,?_,fun g' p e=>by simpa using h.lt g' p e,h.gmu,h.kmu_upd hb _,h.ext,fun i X e=>(h.map i X e).step (fun _ _ _ e=>e) (fun _ _ e=>e) (fun q hq g' e' => hkeep q (hmo i X e q hq) g' e'),h.mine⟩
 ·exact h.below.trans ⟨rfl,rfl,rfl,S_,fun k hk=>setRow_other w g k _ (h3.ne hk)⟩
 ·intro b o u e
  have hbg:b≠g:=by rintro rfl;rw [h5] at e;cases e
  have:=h.imm b o u e
  simp only [World.cell?] at this ⊢
  rw [setRow_other w g b _ hbg];exact this
 ·intro i bs' e
  by_cases hi:i=id
  ·subst hi
   simp only [X8,if_true] at e
   cases e
   have hbl:(Y5 bs off new).length=bs.length:=by simp only [Y5,A_,T_,L_];omega
   refine ⟨g,_,Ty,hg,setRow_heap w g cur _ Ty _ h2,h3,h4,h5,by rw [hbl];simp only [List.size_toArray,A_,T_,L_,Array.length_toList];omega,?_⟩
   intro j c hc
   unfold Y5 at hc
   by_cases j1:j < off
   ·rw [List.append_assoc,List.getElem?_append_left (by rw [T_];omega),List.getElem?_take,if_pos j1] at hc
    obtain ⟨u,r1,r2,r3,r4⟩:=h7 j c hc
    refine ⟨u,?_,r2,r3,fun n k cs E e=>(r4 n k cs E e).step (hkeep _ S_)⟩
    rw [List.getElem?_toArray,List.append_assoc,List.getElem?_append_left (by rw [T_];omega),List.getElem?_take,if_pos j1]
    simpa using r1
   ·by_cases j2:j < off+new.length
    ·rw [List.append_assoc,List.getElem?_append_right (by rw [T_];omega),T_,List.getElem?_append_left O_,show min off bs.length=off by omega] at hc
     obtain ⟨u,hu,hru⟩:=hn.1.get hc
     refine ⟨u,?_,hn.2.1 u (Xc hu),hru,fun n k cs E e=>?_⟩
     ·rw [List.getElem?_toArray,List.append_assoc,List.getElem?_append_right (by rw [T_];omega),T_,List.getElem?_append_left O_,show min off cur.toList.length=off by omega]
      exact hu
     ·have:=hn.2.2 c (Xc hc)
      rw [e] at this;simp [PV.ownB] at this
    ·rw [List.getElem?_append_right (by rw [A_,T_];omega),A_,T_,List.getElem?_drop,show off+new.length+(j - (min off bs.length+new.length))=j by omega] at hc
     obtain ⟨u,r1,r2,r3,r4⟩:=h7 j c hc
     refine ⟨u,?_,r2,r3,fun n k cs E e=>(r4 n k cs E e).step (hkeep _ S_)⟩
     rw [List.getElem?_toArray,List.getElem?_append_right (by rw [A_,T_];omega),A_,T_,List.getElem?_drop,show off+vs.length+(j - (min off cur.toList.length+vs.length))=j by omega]
     simpa using r1
  ·simp only [X8,if_neg hi] at e
   obtain ⟨g2,cur2,T2,k1,k2,k3,k4,k5,k6,k7⟩:=h.box i bs' e
   have hne:(Who.box i)≠.box id:=by simp [hi]
   refine ⟨g2,cur2,T2,k1,by rw [(hkeep _ hne g2 k4).1];exact k2,k3,k4,k5,k6,fun j c hc=>?_⟩
   obtain ⟨u,r1,r2,r3,r4⟩:=k7 j c hc
   exact ⟨u,r1,r2,r3,fun n k cs E e=>(r4 n k cs E e).step (hkeep _ S_)⟩
 ·intro i e em
  by_cases hi:i=id
  ·subst hi;simp [X8] at e
  ·simp only [X8,if_neg hi] at e;exact h.gone i e em
theorem RelG.moveOwn (h:RelG Φ0 W M Φ μ ω σ a w) {s d:Nat} (hd:d < M) {n k:Nat} {cs:List PV} {E:TypeId} (hs:σ.t s = .sl n k cs (some E)) :
  ∃ω',RelG Φ0 W M Φ μ ω' { σ with t:=upd (upd σ.t s (σ.t s).bare) d (σ.t s) } (a.put (some d) (a.tmps.getD s undef)) w:=by
 have hd' : d < a.tmps.size:=by rw [h.size];exact hd
 have ho:=h.own s n k cs E hs
 have hr:=h.tmps s
 have key:∀ω' : Nat→Option Who,(∀g p,ω g=some p→p≠.tmp s→ω' g=some p)→(∀g p,ω' g=some p→g < w.heap.size∧Mine Φ0 W g)→Ki (Mine Φ0 W) Φ ω' w (.tmp d) n k E (a.tmps.getD s undef) →
   RelG Φ0 W M Φ μ ω' { σ with t:=upd (upd σ.t s (σ.t s).bare) d (σ.t s) } (a.put (some d) (a.tmps.getD s undef)) w:=by
  intro ω' hω hlt ho'
  have hstep:∀q n k E v,q≠.tmp s→Ki (Mine Φ0 W) Φ ω w q n k E v→Ki (Mine Φ0 W) Φ ω' w q n k E v:=fun q n k E v hq hh=>hh.step (fun g e=>⟨rfl,fun _=>rfl,hω g q e hq⟩)
  refine ⟨h.below,h.defers,by simp [Act.put,h.size],h.imm,h.old,fun t=>?_,fun t n' k' cs' E' e=>?_,fun id bs e=>?_,h.gone,fun g p e=>(hlt g p e).1,h.gmu,h.kmu,h.ext,fun id X e=>(h.map id X e).step (fun _ _ _ e=>e) (fun _ _ e=>e) (fun q hq g e=>⟨rfl,fun _=>rfl,hω g q e (by rintro rfl;rcases hq with hq|⟨j,hq⟩<;>cases hq)⟩),fun g p e=>(hlt g p e).2⟩
  ·rw [K5 _ _ _ _ hd']
   simp only [X8]
   by_cases ht:t=d
   ·simp only [if_pos ht];exact hr
   ·simp only [if_neg ht]
    by_cases hts:t=s
    ·subst hts;simp only [if_true];exact hr.bare
    ·simp only [if_neg hts];exact h.tmps t
  ·rw [K5 _ _ _ _ hd']
   simp only [X8] at e
   by_cases ht:t=d
   ·simp only [if_pos ht] at e ⊢
    rw [hs] at e;cases e
    subst ht;exact ho'
   ·simp only [if_neg ht] at e ⊢
    by_cases hts:t=s
    ·simp only [if_pos hts] at e
     have:=PV.bare_own (σ.t s);rw [e] at this;simp [PV.ownB] at this
    ·simp only [if_neg hts] at e
     exact hstep _ _ _ _ _ (by simp [hts]) (h.own t n' k' cs' E' e)
  ·obtain ⟨g,cur,Ty,h1,h2,h3,h4,h5,h6,h7⟩:=h.box id bs e
   refine ⟨g,cur,Ty,h1,h2,h3,hω g _ h4 S_,h5,h6,fun j c hc=>?_⟩
   obtain ⟨u,r1,r2,r3,r4⟩:=h7 j c hc
   exact ⟨u,r1,r2,r3,fun n k cs E e=>hstep _ _ _ _ _ S_ (r4 n k cs E e)⟩
 rcases ho with ⟨ho,hn⟩|⟨g,cap,cur,h1,h2,h3,h4,h5,h6,h7,h8⟩|ho
 rotate_left 2
 ·exact ⟨ω,key ω (fun g p e _=>e) (fun g p e=>⟨h.lt g p e,h.mine g p e⟩) (.inr (.inr ho))⟩
 ·exact ⟨ω,key ω (fun g p e _=>e) (fun g p e=>⟨h.lt g p e,h.mine g p e⟩) (.inl ⟨ho,hn⟩)⟩
 ·refine ⟨upd ω g (some (.tmp d)),key _ ?_ ?_ (.inr (.inl ⟨g,cap,cur,h1,h2,h3,h4,h5,h6,by simp [X8],h8⟩))⟩
  ·intro g' p e hp
   simp only [X8]
   rw [if_neg (by rintro rfl;rw [h7] at e;cases e;exact hp rfl)]
   exact e
  ·intro g' p e
   simp only [X8] at e
   split at e
   ·subst g'; exact ⟨(Array.getElem?_eq_some_iff.1 h3).1,h2⟩
   ·exact ⟨h.lt g' p e,h.mine g' p e⟩
theorem RelG.newOwn (h:RelG Φ0 W M Φ μ ω σ a w) {d:Nat} (hd:d < M) {N k cap:Nat} {L:List PV} {cur:Array Value} {e:TypeId} (hL:L.length=N * k) (hr:RepL Φ μ L (cur.toList.take (N * k))) (hN:N≤cap) (hcap:cap≤maxLen) (hcur:cur.size=cap * k) (hE:e < 1000000) :
  ∃Φ' ω',RelG Φ0 W M Φ' μ ω' (σ.put d (.sl N k L (some e))) (a.put (some d) (.slice (some ⟨w.heap.size,0,none⟩) N cap)) (w.alloc (.cells cur e))∧(∀b o u,Φ b o=some u→Φ' b o=some u):=by
 have hW:=h.below.size
 have hd' : d < a.tmps.size:=by rw [h.size];exact hd
 have h1:=h.row (cur.toList.take (N * k)).toArray e
 -- the same memory,but for the spare cells
 let Φ' : Imm:=Kt Φ w.heap.size (cur.toList.take (N * k)).toArray
 have hsub:∀b o u,Φ b o=some u→Φ' b o=some u:=by
  intro b o u e;show Kt _ _ _ b o=_;unfold Kt;rw [if_neg (by have:=h.fresh e;omega)];exact e
 have hrow:∀j,Φ' w.heap.size j=(cur.toList.take (N * k))[j]?:=by intro j;show Kt _ _ _ _ _=_;simp [Kt]
 have h2:RelG Φ0 W M Φ' μ ω σ a (w.alloc (.cells cur e)):=by
  refine h.grow (h.below.alloc _) ?_ ?_ hsub ?_ S_
  ·intro b o u hu
   by_cases hb:b=w.heap.size
   ·subst hb
    rw [hrow,List.getElem?_take] at hu
    rw [X6m]
    split at hu
    ·simpa using hu
    ·cases hu
   ·have hu' : Φ b o=some u:=by
     have:Φ' b o=Φ b o:=by show Kt _ _ _ b o=_;simp [Kt,hb]
     rw [←this];exact hu
    rw [X1c _ _ _ _ (h.fresh hu')];exact h.imm b o u hu'
  ·intro b o hb;show Kt _ _ _ b o=_;unfold Kt;rw [if_neg (by have:=hb.1;omega)]
  ·intro g p hg
   have:=h.lt g p hg
   exact ⟨Below.heap_alloc _ _ _ this,fun j=>by show Kt _ _ _ g j=_;unfold Kt;rw [if_neg O_]⟩
 refine ⟨Φ',upd ω w.heap.size (some (.tmp d)),?_,hsub⟩
 have hω:∀g p,ω g=some p→upd ω w.heap.size (some (.tmp d)) g=some p:=by
  intro g p e
  simp only [X8];rw [if_neg (by have:=h.lt g p e;omega)];exact e
 have hstep:∀q n k E v,Ki (Mine Φ0 W) Φ' ω (w.alloc (.cells cur e)) q n k E v→Ki (Mine Φ0 W) Φ' (upd ω w.heap.size (some (.tmp d))) (w.alloc (.cells cur e)) q n k E v:=fun q n k E v hh=>hh.step (fun g e=>⟨rfl,fun _=>rfl,hω g q e⟩)
 refine ⟨h2.below,h2.defers,by simp [Act.put,h.size],h2.imm,h2.old,fun t=>?_,fun t n' k' cs' E' et=>?_,fun id bs eb=>?_,h2.gone,?_,h2.gmu,h2.kmu,h2.ext,fun id X e=>(h2.map id X e).step (fun _ _ _ e=>e) (fun _ _ e=>e) (fun q _ g e=>⟨rfl,fun _=>rfl,hω g q e⟩),fun g p e=>?_⟩
 ·rw [K5 _ _ _ _ hd']
  simp only [PS.put,X8]
  by_cases ht:t=d
  ·simp only [if_pos ht]
   refine .sl N k L _ w.heap.size 0 cap (fun j=>(cur.toList.take (N * k)).getD j undef) hL hN hcap (fun j hj=>?_) (fun j c hc=>?_)
   ·rw [Nat.zero_add,hrow]
    have:j < (cur.toList.take (N * k)).length:=by rw [hr.1];exact hj
    rw [G_,E_ this];rfl
   ·exact (hr.mono hsub (fun _ _ e=>e)).us j c hc
  ·simp only [if_neg ht];exact h2.tmps t
 ·rw [K5 _ _ _ _ hd']
  simp only [PS.put,X8] at et
  by_cases ht:t=d
  ·simp only [if_pos ht] at et ⊢
   cases et
   subst ht
   refine .inr (.inl ⟨w.heap.size,cap,cur,rfl, .inl hW,heap_alloc_new w _,hN,hcap,hcur,by simp [X8],hE,fun j hj=>?_⟩)
   rw [hrow,List.getElem?_eq_none (by rw [T_];omega)]
  ·simp only [if_neg ht] at et ⊢
   exact hstep _ _ _ _ _ (h2.own t n' k' cs' E' et)
 ·obtain ⟨g,cur',Ty,h1,h2',h3,h4,h5,h6,h7⟩:=h2.box id bs eb
  refine ⟨g,cur',Ty,h1,h2',h3,hω g _ h4,h5,h6,fun j c hc=>?_⟩
  obtain ⟨u,r1,r2,r3,r4⟩:=h7 j c hc
  exact ⟨u,r1,r2,r3,fun n k cs E e=>hstep _ _ _ _ _ (r4 n k cs E e)⟩
 ·intro g p eg
  simp only [X8] at eg
  split at eg
  ·subst g;simp
  ·have:=h.lt g p eg;simp;omega
 ·simp only [X8] at e
  split at e
  ·subst g;exact .inl hW
  ·exact h2.mine g p e
theorem RelG.appendIn (h:RelG Φ0 W M Φ μ ω σ a w) {s d:Nat} (hd:d < M) {n m k cap g:Nat} {cs ds:List PV} {e:TypeId} {cur:Array Value} {news:List Value} (hs:σ.t s = .sl n k cs (some e))
  (hv:a.tmps.getD s undef = .slice (some ⟨g,0,none⟩) n cap) (hg:w.heap[g]? = some (.cells cur e (0,0))) (hroom:n+m≤cap) (hcur:cur.size=cap * k) (hω:ω g=some (.tmp s)) (hE:e < 1000000) (hfree:∀j,n * k≤j→Φ g j=none) (hB:Mine Φ0 W g) (hcap:cap≤maxLen)
  (hds:ds.length=m * k) (hn:RepL Φ μ ds news) :
  ∃Φ' ω',RelG Φ0 W M Φ' μ ω' { σ with t:=upd (upd σ.t s (σ.t s).bare) d (.sl (n+m) k (cs ++ ds) (some e)) } (a.put (some d) (.slice (some ⟨g,0,none⟩) (n+m) cap)) (w.setRow g (cur.toList.take (n * k) ++ news ++ cur.toList.drop (n * k+news.length)).toArray):=by
 have hd' : d < a.tmps.size:=by rw [h.size];exact hd
 have hr:=h.tmps s
 rw [hs,hv] at hr
 have hcs:cs.length=n * k:=by
  obtain ⟨_,_,_,_,_,_,_,_,h3,_⟩:=hr.sl_inv;exact h3
 have hnk:(n+m) * k≤cap * k:=Nat.mul_le_mul_right _ hroom
 rw [Nat.add_mul] at hnk
 have hnl:=hn.1
 -- the old cells
 have hold:RepL Φ μ cs (cur.toList.take (n * k)):=by
  refine ⟨by rw [T_,Array.length_toList,hcs];omega,fun j c u hc hu=>?_⟩
  have hj:j < n * k:=by rw [←hcs];exact (List.getElem?_eq_some_iff.1 hc).1
  cases hr with
  |sl0=>rw [List.getElem?_nil] at hc;cases hc
  |sl _ _ _ _ _ _ _ us _ _ _ hp hrr=>
   have h1:=h.imm _ _ _ (hp j O_)
   rw [List.getElem?_take,if_pos hj] at hu
   simp only [World.cell?,hg,Nat.zero_add] at h1
   have:u=us j:=by
    have hu' : cur[j]? = some u:=by simpa using hu
    rw [hu'] at h1;simpa using h1
   rw [this];exact hrr j c hc
 let all:List Value:=cur.toList.take (n * k) ++ news
 have hall:all.length=(n+m) * k:=by show (cur.toList.take (n * k) ++ news).length=_;rw [A_,T_,Array.length_toList,hnl,hds,Nat.add_mul];omega
 have hrep:RepL Φ μ (cs ++ ds) all:=by
  refine ⟨by rw [hall,A_,hcs,hds,Nat.add_mul],fun j c u hc hu=>?_⟩
  by_cases hj:j < n * k
  ·rw [List.getElem?_append_left O_] at hc
   rw [List.getElem?_append_left (by rw [T_,Array.length_toList];omega)] at hu
   exact hold.2 j c u hc hu
  ·rw [List.getElem?_append_right O_,hcs] at hc
   rw [List.getElem?_append_right (by rw [T_,Array.length_toList];omega),T_,Array.length_toList,show min (n * k) cur.size=n * k by omega] at hu
   exact hn.2 _ c u hc hu
 let Φ' : Imm:=fun b o=>if b=g then all[o]? else Φ b o
 have hrow:∀j,Φ' g j=all[j]?:=by intro j;show (if _ then _ else _)=_;simp
 have hoth:∀b j,b≠g→Φ' b j=Φ b j:=by intro b j hb;show (if _ then _ else _)=_;simp [hb]
 have hsub:∀b o u,Φ b o=some u→Φ' b o=some u:=by
  intro b o u eu
  by_cases hb:b=g
  ·subst hb
   rw [hrow]
   have ho:o < n * k:=by
    rcases Nat.lt_or_ge o (n * k) with hlt|hge
    ·exact hlt
    ·rw [hfree o hge] at eu;cases eu
   have h1:=h.imm b o u eu
   simp only [World.cell?,hg] at h1
   show (cur.toList.take (n * k) ++ news)[o]? = _
   rw [List.getElem?_append_left (by rw [T_,Array.length_toList];omega),List.getElem?_take,if_pos ho]
   simpa using h1
  ·rw [hoth b o hb];exact eu
 have hlt:g < w.heap.size:=(Array.getElem?_eq_some_iff.1 hg).1
 have hω' : ∀g' p,ω g' = some p→p≠.tmp s→upd ω g (some (.tmp d)) g' = some p:=by
  intro g' p eg hp
  simp only [X8]
  rw [if_neg (by rintro rfl;rw [hω] at eg;cases eg;exact hp rfl)]
  exact eg
 have hstep:∀q n' k' E v,q≠.tmp s→Ki (Mine Φ0 W) Φ ω w q n' k' E v→Ki (Mine Φ0 W) Φ' (upd ω g (some (.tmp d))) (w.setRow g (cur.toList.take (n * k) ++ news ++ cur.toList.drop (n * k+news.length)).toArray) q n' k' E v:=by
  intro q n' k' E v hq hh
  refine hh.step (fun g' eg=>?_)
  have hne:g'≠g:=by rintro rfl;rw [hω] at eg;cases eg;exact hq rfl
  exact ⟨setRow_other w g g' _ hne,fun j=>hoth g' j hne,hω' g' q eg hq⟩
 refine ⟨Φ',upd ω g (some (.tmp d)),?_,h.defers,by simp [Act.put,h.size],?_,?_,fun t=>?_,fun t n' k' cs' E' et=>?_,fun id bs eb=>?_,h.gone,?_,h.gmu,h.kmu,fun b o u e=>⟨hsub _ _ _ (h.ext b o u e).1,(h.ext b o u e).2⟩,fun id X e=>(h.map id X e).step hsub (fun _ _ e=>e) (fun q hq g' eg=>?_),fun g' p e=>?_⟩
 ·exact h.below.trans ⟨rfl,rfl,rfl,S_,fun j hj=>setRow_other w g j _ (hB.ne hj)⟩
 ·intro b o u eu
  by_cases hb:b=g
  ·subst hb
   rw [cell_setRow_same w b o cur _ e _ hg,List.getElem?_toArray]
   rw [hrow] at eu
   rw [List.getElem?_append_left (by have:=(List.getElem?_eq_some_iff.1 eu).1;exact this)]
   exact eu
  ·rw [hoth b o hb] at eu
   have:=h.imm b o u eu
   simp only [World.cell?] at this ⊢
   rw [setRow_other w g b _ hb];exact this
 ·intro b o hb
  rw [hoth b o (hB.ne hb)];exact h.old b o hb
 ·rw [K5 _ _ _ _ hd']
  simp only [X8]
  by_cases ht:t=d
  ·simp only [if_pos ht]
   refine .sl (n+m) k _ _ g 0 cap (fun j=>all.getD j undef) (by rw [A_,hcs,hds,Nat.add_mul]) hroom hcap (fun j hj=>?_) (fun j c hc=>?_)
   ·rw [Nat.zero_add,hrow]
    have:j < all.length:=by rw [hrep.1];exact hj
    rw [G_,E_ this];rfl
   ·exact (hrep.mono hsub (fun _ _ e=>e)).us j c hc
  ·simp only [if_neg ht]
   by_cases hts:t=s
   ·subst hts;simp only [if_true];exact ((h.tmps t).mono hsub (fun _ _ e=>e)).bare
   ·simp only [if_neg hts];exact (h.tmps t).mono hsub (fun _ _ e=>e)
 ·rw [K5 _ _ _ _ hd']
  simp only [X8] at et
  by_cases ht:t=d
  ·simp only [if_pos ht] at et ⊢
   cases et
   subst ht
   refine .inr (.inl ⟨g,cap,_,rfl,hB,setRow_heap w g cur _ e _ hg,hroom,hcap,?_,by simp [X8],hE,fun j hj=>?_⟩)
   ·simp only [List.size_toArray,A_,T_,L_,Array.length_toList];omega
   ·rw [hrow,List.getElem?_eq_none O_]
  ·simp only [if_neg ht] at et ⊢
   by_cases hts:t=s
   ·simp only [if_pos hts] at et
    have:=PV.bare_own (σ.t s);rw [et] at this;simp [PV.ownB] at this
   ·simp only [if_neg hts] at et
    exact hstep _ _ _ _ _ (by simp [hts]) (h.own t n' k' cs' E' et)
 ·obtain ⟨g2,cur',Ty,h1,h2',h3,h4,h5,h6,h7⟩:=h.box id bs eb
  have hne:g2≠g:=by rintro rfl;rw [hω] at h4;cases h4
  refine ⟨g2,cur',Ty,h1,by rw [setRow_other w g g2 _ hne];exact h2',h3,hω' g2 _ h4 S_,fun j=>by rw [hoth g2 j hne];exact h5 j,h6,fun j c hc=>?_⟩
  obtain ⟨u,r1,r2,r3,r4⟩:=h7 j c hc
  exact ⟨u,r1,r2,r3.mono hsub (fun _ _ e=>e),fun n k cs E e=>hstep _ _ _ _ _ S_ (r4 n k cs E e)⟩
 ·intro g' p eg
  simp only [X8] at eg
  split at eg
  ·subst g'; simpa using hlt
  ·simpa using h.lt g' p eg
 ·have hne:g'≠g:=by rintro rfl;rw [hω] at eg;cases eg;rcases hq with hq|⟨j,hq⟩<;>cases hq
  exact ⟨setRow_other w g g' _ hne,fun j=>hoth g' j hne,hω' g' q eg (by rintro rfl;rcases hq with hq|⟨j,hq⟩<;>cases hq)⟩
 ·simp only [X8] at e
  split at e
  ·subst g'; exact hB
  ·exact h.mine g' p e
theorem Xd6 {α:Type} {l:List α} {i j:Nat} {x c:α} (h:(l.set i x)[j]? = some c):(j=i∧c=x)∨(j≠i∧l[j]? = some c):=by
 rw [List.getElem?_set] at h
 by_cases e:i=j
 ·subst e
  rw [if_pos rfl] at h
  split at h
  ·simp at h;exact .inl ⟨rfl,h.symm⟩
  ·cases h
 ·rw [if_neg e] at h;exact .inr ⟨fun x=>e x.symm,h⟩
theorem RelG.disj (h:RelG Φ0 W M Φ μ ω σ a w) {i j:Nat} {bs:List PV} {X:PMap} (hb:σ.b i=some bs) (hm:σ.m j=some X):i≠j:=by
 rintro rfl
 obtain ⟨g,cur,T,h1,h2,-⟩:=h.box _ _ hb
 obtain ⟨g',k1,-,-,-,k5⟩:=h.map _ _ hm
 rw [h1] at k1;cases k1
 cases X with
 |map es clock=>obtain ⟨-,ents,k6,-⟩:=k5;rw [h2] at k6;cases k6
 |iter mid since seen last=>obtain ⟨gm,-,k6⟩:=k5;rw [h2] at k6;cases k6
theorem RelG.give (h:RelG Φ0 W M Φ μ ω σ a w) {s id off n k g:Nat} {cs:List PV} {E:TypeId} {bs:List PV} (hs:σ.t s = .sl n k cs (some E)) (hb:σ.b id=some bs) (ho:bs[off]? = some (.sl n k cs none)) (hg:μ id=some g) (hc:w.cell? ⟨g,off,none⟩=some (a.tmps.getD s undef)) :
  ∃ω',RelG Φ0 W M Φ μ ω' { t:=upd σ.t s (σ.t s).bare,b:=upd σ.b id (some (bs.set off (.sl n k cs (some E)))),m:=σ.m } a w:=by
 have hown:=h.own s n k cs E hs
 have hmo:∀i X,σ.m i=some X→∀q,OfId i q→q≠.tmp s:=by
  rintro i X e q hq rfl
  rcases hq with hq|⟨j,hq⟩<;>cases hq
 have key:∀ω' : Nat→Option Who,(∀g p,ω g=some p→p≠.tmp s→ω' g=some p)→(∀g p,ω' g=some p→g < w.heap.size∧Mine Φ0 W g)→Ki (Mine Φ0 W) Φ ω' w (.cell id off) n k E (a.tmps.getD s undef) →
   RelG Φ0 W M Φ μ ω' { t:=upd σ.t s (σ.t s).bare,b:=upd σ.b id (some (bs.set off (.sl n k cs (some E)))),m:=σ.m } a w:=by
  intro ω' hω hlt ho'
  have hstep:∀q n k E v,q≠.tmp s→Ki (Mine Φ0 W) Φ ω w q n k E v→Ki (Mine Φ0 W) Φ ω' w q n k E v:=fun q n k E v hq hh=>hh.step (fun g e=>⟨rfl,fun _=>rfl,hω g q e hq⟩)
  have h1:=h.strip s
  refine ⟨h.below,h.defers,h.size,h.imm,h.old,h1.tmps,fun t n' k' cs' E' e=>?_,fun i bs' e=>?_,fun i e em=>?_,fun g p e=>(hlt g p e).1,h.gmu,h.kmu_upd hb _,h.ext,fun i X e=>(h.map i X e).step (fun _ _ _ e=>e) (fun _ _ e=>e) (fun q hq g e' => ⟨rfl,fun _=>rfl,hω g q e' (hmo i X e q hq)⟩),fun g p e=>(hlt g p e).2⟩
  ·by_cases ht:t=s
   ·subst ht
    simp only [X8,if_true] at e
    have:=PV.bare_own (σ.t t);rw [e] at this;simp [PV.ownB] at this
   ·simp only [X8,if_neg ht] at e
    exact hstep _ _ _ _ _ (by simp [ht]) (h.own t n' k' cs' E' e)
  ·by_cases hi:i=id
   ·subst hi
    simp only [X8,if_true] at e
    cases e
    obtain ⟨g',cur,Ty,h1,h2,h3,h4,h5,h6,h7⟩:=h.box i bs hb
    rw [hg] at h1;cases h1
    refine ⟨g,cur,Ty,hg,h2,h3,hω g _ h4 S_,h5,by simpa using h6,fun j c hcj=>?_⟩
    rcases Xd6 hcj with ⟨rfl,rfl⟩|⟨hne,hcj⟩
    ·obtain ⟨u,r1,r2,r3,r4⟩:=h7 j _ ho
     have hu:u=a.tmps.getD s undef:=by
      simp only [World.cell?,h2] at hc
      have hc' : cur[j]? = some (a.tmps.getD s undef):=by simpa using hc
      rw [r1] at hc'; simpa using hc'
     refine ⟨u,r1,r2,?_,fun n' k' cs' E' e=>?_⟩
     ·have:=h.tmps s;rw [hs,←hu] at this;exact this
     ·cases e;rw [hu];exact ho'
    ·obtain ⟨u,r1,r2,r3,r4⟩:=h7 j c hcj
     exact ⟨u,r1,r2,r3,fun n k cs E e=>hstep _ _ _ _ _ S_ (r4 n k cs E e)⟩
   ·simp only [X8,if_neg hi] at e
    obtain ⟨g',cur,Ty,h1,h2,h3,h4,h5,h6,h7⟩:=h.box i bs' e
    refine ⟨g',cur,Ty,h1,h2,h3,hω g' _ h4 S_,h5,h6,fun j c hcj=>?_⟩
    obtain ⟨u,r1,r2,r3,r4⟩:=h7 j c hcj
    exact ⟨u,r1,r2,r3,fun n k cs E e=>hstep _ _ _ _ _ S_ (r4 n k cs E e)⟩
  ·by_cases hi:i=id
   ·subst hi;simp [X8] at e
   ·simp only [X8,if_neg hi] at e;exact h.gone i e em
 rcases hown with ⟨hn,hn0⟩|⟨g',cap,cur,h1,h2,h3,h4,h5,h6,h7,h8⟩|hfl
 rotate_left 2
 ·exact ⟨ω,key ω (fun g p e _=>e) (fun g p e=>⟨h.lt g p e,h.mine g p e⟩) (.inr (.inr hfl))⟩
 ·exact ⟨ω,key ω (fun g p e _=>e) (fun g p e=>⟨h.lt g p e,h.mine g p e⟩) (.inl ⟨hn,hn0⟩)⟩
 ·refine ⟨upd ω g' (some (.cell id off)),key _ ?_ ?_ (.inr (.inl ⟨g',cap,cur,h1,h2,h3,h4,h5,h6,by simp [X8],h8⟩))⟩
  ·intro g'' p e hp
   simp only [X8]
   rw [if_neg (by rintro rfl;rw [h7] at e;cases e;exact hp rfl)]
   exact e
  ·intro g'' p e
   simp only [X8] at e
   split at e
   ·subst g''; exact ⟨(Array.getElem?_eq_some_iff.1 h3).1,h2⟩
   ·exact ⟨h.lt g'' p e,h.mine g'' p e⟩
theorem RelG.fetch (h:RelG Φ0 W M Φ μ ω σ a w) {d id off n k g:Nat} (hd:d < M) {cs:List PV} {E:TypeId} {bs:List PV} (hb:σ.b id=some bs) (ho:bs[off]? = some (.sl n k cs (some E))) (hg:μ id=some g) :
  ∃u ω',w.cell? ⟨g,off,none⟩=some u∧RelG Φ0 W M Φ μ ω' { t:=upd σ.t d (.sl n k cs (some E)),b:=upd σ.b id (some (bs.set off (.sl n k cs none))),m:=σ.m } (a.put (some d) u) w:=by
 have hd' : d < a.tmps.size:=by rw [h.size];exact hd
 obtain ⟨g',cur,Ty,b1,b2,b3,b4,b5,b6,b7⟩:=h.box id bs hb
 rw [hg] at b1;cases b1
 obtain ⟨u,r1,r2,r3,r4⟩:=b7 off _ ho
 have hown:=r4 n k cs E rfl
 have hcell:w.cell? ⟨g,off,none⟩=some u:=by simp [World.cell?,b2,r1]
 have hmo:∀i X,σ.m i=some X→∀q,OfId i q→q≠.cell id off:=by
  rintro i X e q hq rfl
  rcases hq with hq|⟨j,hq⟩
  ·cases hq
  ·cases hq;exact h.disj hb e rfl
 have key:∀ω' : Nat→Option Who,(∀g p,ω g=some p→p≠.cell id off→ω' g=some p)→(∀g p,ω' g=some p→g < w.heap.size∧Mine Φ0 W g)→Ki (Mine Φ0 W) Φ ω' w (.tmp d) n k E u →
   RelG Φ0 W M Φ μ ω' { t:=upd σ.t d (.sl n k cs (some E)),b:=upd σ.b id (some (bs.set off (.sl n k cs none))),m:=σ.m } (a.put (some d) u) w:=by
  intro ω' hω hlt ho'
  have hstep:∀q n k E v,q≠.cell id off→Ki (Mine Φ0 W) Φ ω w q n k E v→Ki (Mine Φ0 W) Φ ω' w q n k E v:=fun q n k E v hq hh=>hh.step (fun g e=>⟨rfl,fun _=>rfl,hω g q e hq⟩)
  refine ⟨h.below,h.defers,by simp [Act.put,h.size],h.imm,h.old,fun t=>?_,fun t n' k' cs' E' e=>?_,fun i bs' e=>?_,fun i e em=>?_,fun g p e=>(hlt g p e).1,h.gmu,h.kmu_upd hb _,h.ext,fun i X e=>(h.map i X e).step (fun _ _ _ e=>e) (fun _ _ e=>e) (fun q hq g e' => ⟨rfl,fun _=>rfl,hω g q e' (hmo i X e q hq)⟩),fun g p e=>(hlt g p e).2⟩
  ·rw [K5 _ _ _ _ hd']
   by_cases ht:t=d
   ·simp only [X8,if_pos ht];exact r3
   ·simp only [X8,if_neg ht];exact h.tmps t
  ·rw [K5 _ _ _ _ hd']
   by_cases ht:t=d
   ·simp only [X8,if_pos ht] at e ⊢
    cases e
    subst ht;exact ho'
   ·simp only [X8,if_neg ht] at e ⊢
    exact hstep _ _ _ _ _ S_ (h.own t n' k' cs' E' e)
  ·by_cases hi:i=id
   ·subst hi
    simp only [X8,if_true] at e
    cases e
    refine ⟨g,cur,Ty,hg,b2,b3,hω g _ b4 S_,b5,by simpa using b6,fun j c hcj=>?_⟩
    rcases Xd6 hcj with ⟨rfl,rfl⟩|⟨hne,hcj⟩
    ·exact ⟨u,r1,r2,r3.bare,fun n' k' cs' E' e=>by cases e⟩
    ·obtain ⟨u',q1,q2,q3,q4⟩:=b7 j c hcj
     exact ⟨u',q1,q2,q3,fun n k cs E e=>hstep _ _ _ _ _ (by simp [hne]) (q4 n k cs E e)⟩
   ·simp only [X8,if_neg hi] at e
    obtain ⟨g',cur',Ty',h1,h2,h3,h4,h5,h6,h7⟩:=h.box i bs' e
    refine ⟨g',cur',Ty',h1,h2,h3,hω g' _ h4 S_,h5,h6,fun j c hcj=>?_⟩
    obtain ⟨u',q1,q2,q3,q4⟩:=h7 j c hcj
    exact ⟨u',q1,q2,q3,fun n k cs E e=>hstep _ _ _ _ _ (by simp [hi]) (q4 n k cs E e)⟩
  ·by_cases hi:i=id
   ·subst hi;simp [X8] at e
   ·simp only [X8,if_neg hi] at e;exact h.gone i e em
 rcases hown with ⟨hn,hn0⟩|⟨g',cap,cur',h1,h2,h3,h4,h5,h6,h7,h8⟩|hfl
 rotate_left 2
 ·exact ⟨u,ω,hcell,key ω (fun g p e _=>e) (fun g p e=>⟨h.lt g p e,h.mine g p e⟩) (.inr (.inr hfl))⟩
 ·exact ⟨u,ω,hcell,key ω (fun g p e _=>e) (fun g p e=>⟨h.lt g p e,h.mine g p e⟩) (.inl ⟨hn,hn0⟩)⟩
 ·refine ⟨u,upd ω g' (some (.tmp d)),hcell,key _ ?_ ?_ (.inr (.inl ⟨g',cap,cur',h1,h2,h3,h4,h5,h6,by simp [X8],h8⟩))⟩
  ·intro g'' p e hp
   simp only [X8]
   rw [if_neg (by rintro rfl;rw [h7] at e;cases e;exact hp rfl)]
   exact e
  ·intro g'' p e
   simp only [X8] at e
   split at e
   ·subst g''; exact ⟨(Array.getElem?_eq_some_iff.1 h3).1,h2⟩
   ·exact ⟨h.lt g'' p e,h.mine g'' p e⟩
def World.setO (w:World) (g:Nat) (o:Obj):World:={ w with heap:=w.heap.setIfInBounds g o }
theorem X9d (w:World) (g k:Nat) (o:Obj) (h:k≠g):(World.setO w g o).heap[k]? = w.heap[k]?:=by
 simp [World.setO,Array.getElem?_setIfInBounds,Ne.symm h]
theorem X8m (w:World) (g:Nat) (o:Obj) (h:g < w.heap.size):(World.setO w g o).heap[g]? = some o:=by
 simp [World.setO,Array.getElem?_setIfInBounds,h]
theorem RelG.setMap (h:RelG Φ0 W M Φ μ ω σ a w) {id g:Nat} {X X' : PMap} (hm:σ.m id=some X) (hg:μ id=some g) (ob:Obj) (hX:match X' with
   | .map es clock=>X41 es clock∧∃ents,ob = .map ents clock∧ents.size=es.length∧∀(j:Nat) s k c,es[j]? = some (s,k,c)→∃e,ents[j]? = some e∧e.born=s∧Rep Φ μ k e.key∧Rep Φ μ c e.val∧∀n kk cs E,c = .sl n kk cs (some E)→Ki (Mine Φ0 W) Φ ω w (.cell id s) n kk E e.val
   | .iter mid since seen last=>∃gm,μ mid=some gm∧ob = .mapIter (some gm) since seen.toArray last) :
  RelG Φ0 W M Φ μ ω { σ with m:=upd σ.m id (some X') } a (World.setO w g ob):=by
 obtain ⟨g',k1,k2,k3,k4,k5⟩:=h.map _ _ hm
 rw [hg] at k1;cases k1
 have hlt:=h.lt g _ k3
 have hkeep:∀q:Who,q≠.box id→∀g',ω g' = some q→(World.setO w g ob).heap[g']? = w.heap[g']?∧(∀j,Φ g' j=Φ g' j)∧ω g' = some q:=by
  intro q hq g' e
  refine ⟨X9d w g g' _ ?_,fun _=>rfl,e⟩
  rintro rfl
  rw [k3] at e;cases e;exact hq rfl
 refine ⟨h.below.trans ⟨rfl,rfl,rfl,by simp [World.setO],fun k hk=>X9d w g k _ (k2.ne hk)⟩,h.defers,h.size,?_,h.old,h.tmps,fun t n k cs E e=>(h.own t n k cs E e).step (hkeep _ S_),fun i bs e=>(h.box i bs e).step (fun _ _ _ e=>e) (fun _ _ e=>e) (fun q hq=>hkeep q ?_),fun i e em=>?_,fun g' p e=>by simpa [World.setO] using h.lt g' p e,h.gmu,fun i g' e hi=>h.kmu i g' e ?_,h.ext,fun i Y e=>?_,h.mine⟩
 ·intro b o u e
  have hbg:b≠g:=by rintro rfl;rw [k4] at e;cases e
  have:=h.imm b o u e
  simp only [World.cell?] at this ⊢
  rw [X9d w g b _ hbg];exact this
 ·rintro rfl
  rcases hq with hq|⟨j,hq⟩
  ·cases hq;exact h.disj e hm rfl
  ·cases hq
 ·by_cases hi:i=id
  ·subst hi;simp [X8] at em
  ·simp only [X8,if_neg hi] at em;exact h.gone i e em
 ·rcases hi with hi|hi
  ·exact .inl hi
  ·by_cases hid:i=id
   ·subst hid;right;rw [hm];simp
   ·simp only [X8,if_neg hid] at hi;exact .inr hi
 ·by_cases hi:i=id
  ·subst hi
   simp only [X8,if_true] at e
   cases e
   refine ⟨g,hg,k2,k3,k4,?_⟩
   cases X' with
   |map es clock=>
    obtain ⟨e0,ents,rfl,e2,e3⟩:=hX
    refine ⟨e0,ents,X8m w g _ hlt,e2,fun j s k c hj=>?_⟩
    obtain ⟨e,f1,f2,f3,f4,f5⟩:=e3 j s k c hj
    exact ⟨e,f1,f2,f3,f4,fun n kk cs E ec=>(f5 n kk cs E ec).step (hkeep _ S_)⟩
   |iter mid since seen last=>
    obtain ⟨gm,e1,rfl⟩:=hX
    exact ⟨gm,e1,X8m w g _ hlt⟩
  ·simp only [X8,if_neg hi] at e
   exact (h.map i Y e).step (fun _ _ _ e=>e) (fun _ _ e=>e) (fun q hq=>hkeep q (by rintro rfl;rcases hq with hq|⟨j,hq⟩<;>cases hq;exact hi rfl))
theorem RelG.turn (h:RelG Φ0 W M Φ μ ω σ a w) {σ' : PS} {a' : Act} {p q:Who} {n k:Nat} {E:TypeId} {v:Value} (ho:Ki (Mine Φ0 W) Φ ω w p n k E v)
  (hsz:a'.tmps.size=M) (hdf:a'.defers=Φ0.marks.map X7u∧Xxe Φ0 W) (htm:∀t,Rep Φ μ (σ'.t t) (a'.tmps.getD t undef))
  (key:∀ω' : Nat→Option Who,(∀g r,ω g=some r→r≠p→ω' g=some r)→Ki (Mine Φ0 W) Φ ω' w q n k E v →
   (∀t n k cs E,σ'.t t = .sl n k cs (some E)→Ki (Mine Φ0 W) Φ ω' w (.tmp t) n k E (a'.tmps.getD t undef))∧(∀id bs,σ'.b id=some bs→V2 (Mine Φ0 W) Φ μ ω' w id bs)∧(∀id X,σ'.m id=some X→Z6 (Mine Φ0 W) Φ μ ω' w id X))
  (hb:∀id,σ'.b id=none↔σ.b id=none) (hm:∀id,σ'.m id=none↔σ.m id=none):∃ω',RelG Φ0 W M Φ μ ω' σ' a' w:=by
 have fin:∀ω' : Nat→Option Who,(∀g r,ω g=some r→r≠p→ω' g=some r)→(∀g p,ω' g=some p→g < w.heap.size∧Mine Φ0 W g)→Ki (Mine Φ0 W) Φ ω' w q n k E v→RelG Φ0 W M Φ μ ω' σ' a' w:=by
  intro ω' h1 h2 h3
  obtain ⟨k1,k2,k3⟩:=key ω' h1 h3
  exact ⟨h.below,hdf,hsz,h.imm,h.old,htm,k1,k2,fun id e em=>h.gone id ((hb id).1 e) ((hm id).1 em),fun g p e=>(h2 g p e).1,h.gmu,fun id g e hi=>h.kmu id g e (by
   rcases hi with hi|hi
   ·exact .inl (fun e=>hi ((hb id).2 e))
   ·exact .inr (fun e=>hi ((hm id).2 e))),h.ext,k3,fun g p e=>(h2 g p e).2⟩
 rcases ho with ⟨hn,hn0⟩|⟨g',cap,cur,h1,h2,h3,h4,h5,h6,h7,h8⟩|hfl
 rotate_left 2
 ·exact ⟨ω,fin ω (fun g r e _=>e) (fun g p e=>⟨h.lt g p e,h.mine g p e⟩) (.inr (.inr hfl))⟩
 ·exact ⟨ω,fin ω (fun g r e _=>e) (fun g p e=>⟨h.lt g p e,h.mine g p e⟩) (.inl ⟨hn,hn0⟩)⟩
 ·refine ⟨upd ω g' (some q),fin _ ?_ ?_ (.inr (.inl ⟨g',cap,cur,h1,h2,h3,h4,h5,h6,by simp [X8],h8⟩))⟩
  ·intro g r e hp
   simp only [X8]
   rw [if_neg (by rintro rfl;rw [h7] at e;cases e;exact hp rfl)]
   exact e
  ·intro g r e
   simp only [X8] at e
   split at e
   ·subst g;exact ⟨(Array.getElem?_eq_some_iff.1 h3).1,h2⟩
   ·exact ⟨h.lt g r e,h.mine g r e⟩
theorem X9b {es:List (Nat×PV×PV)} {clock j s:Nat} {k c k' c' : PV} (h:X41 es clock) (hj:es[j]? = some (s,k,c)):X41 (es.set j (s,k',c')) clock:=by
 have e1:(es.set j (s,k',c')).map (·.1)=es.map (·.1):=by
  rw [List.map_set]
  apply List.ext_getElem?
  intro q
  rw [List.getElem?_set]
  split
  ·rename_i e;subst e
   rw [M_,hj]
   split
   ·rfl
   ·rename_i hl;simp at hl;have:=(List.getElem?_eq_some_iff.1 hj).1;omega
  ·rfl
 refine ⟨by rw [e1];exact h.1,fun e he=>?_⟩
 have:e.1∈(es.set j (s,k',c')).map (·.1):=List.mem_map.2 ⟨e,he,rfl⟩
 rw [e1] at this
 obtain ⟨x,hx,e2⟩:=List.mem_map.1 this
 rw [←e2];exact h.2 x hx
theorem RelG.giveM (h:RelG Φ0 W M Φ μ ω σ a w) {s id n k j st clock g:Nat} {cs:List PV} {E:TypeId} {es:List (Nat×PV×PV)} {kp:PV} {ents:Array MapEntry} {en:MapEntry} (hs:σ.t s = .sl n k cs (some E)) (hm:σ.m id=some (.map es clock)) (hj:es[j]? = some (st,kp, .sl n k cs none))
  (hg:μ id=some g) (hh:w.heap[g]? = some (.map ents clock)) (he:ents[j]? = some en) (hv:en.val=a.tmps.getD s undef) :
  ∃ω',RelG Φ0 W M Φ μ ω' { t:=upd σ.t s (σ.t s).bare,b:=σ.b,m:=upd σ.m id (some (.map (es.set j (st,kp, .sl n k cs (some E))) clock)) } a w:=by
 refine h.turn (q:=.cell id st) (h.own s n k cs E hs) h.size h.defers (h.strip s).tmps (fun ω' hω ho' => ⟨?_,?_,?_⟩) (fun i=>Iff.rfl) (fun i=>?_)
 ·intro t n' k' cs' E' e
  by_cases ht:t=s
  ·subst ht
   simp only [X8,if_true] at e
   have:=PV.bare_own (σ.t t);rw [e] at this;simp [PV.ownB] at this
  ·simp only [X8,if_neg ht] at e
   exact (h.own t n' k' cs' E' e).step (fun g e=>⟨rfl,fun _=>rfl,hω g _ e (by simp [ht])⟩)
 ·intro i bs e
  exact (h.box i bs e).step (fun _ _ _ e=>e) (fun _ _ e=>e) (fun q hq g e' => ⟨rfl,fun _=>rfl,hω g q e' (by rintro rfl;rcases hq with hq|⟨j,hq⟩<;>cases hq)⟩)
 ·intro i X e
  have hk:X6r (OfId i) Φ Φ ω ω' w w:=fun q hq g e' => ⟨rfl,fun _=>rfl,hω g q e' (by rintro rfl;rcases hq with hq|⟨j,hq⟩<;>cases hq)⟩
  by_cases hi:i=id
  ·subst hi
   simp only [X8,if_true] at e
   cases e
   obtain ⟨g',k1,k2,k3,k4,hst,ents',k5,k6,k7⟩:=h.map i _ hm
   rw [hg] at k1;cases k1
   rw [hh] at k5;cases k5
   refine ⟨g,hg,k2,(hk _ (.inl rfl) g k3).2.2,k4,X9b hst hj,ents,hh,by simpa using k6,fun j' s' kk c hj' => ?_⟩
   rcases Xd6 hj' with ⟨rfl,e⟩|⟨hne,hj'⟩
   ·cases e
    obtain ⟨e,f1,f2,f3,f4,f5⟩:=k7 j' _ _ _ hj
    rw [he] at f1;cases f1
    refine ⟨en,he,f2,f3,?_,fun n' kk' cs' E' e=>?_⟩
    ·have:=h.tmps s;rw [hs,←hv] at this;exact this
    ·cases e;rw [hv];exact ho'
   ·obtain ⟨e,f1,f2,f3,f4,f5⟩:=k7 j' _ _ _ hj'
    exact ⟨e,f1,f2,f3,f4,fun n' kk' cs' E' ec=>(f5 n' kk' cs' E' ec).step (fun g e' => hk _ (.inr ⟨_,rfl⟩) g e')⟩
  ·simp only [X8,if_neg hi] at e
   exact (h.map i X e).step (fun _ _ _ e=>e) (fun _ _ e=>e) hk
 ·by_cases hi:i=id
  ·subst hi;simp [X8,hm]
  ·simp [X8,hi]
theorem RelG.fetchM (h:RelG Φ0 W M Φ μ ω σ a w) {d id n k j st clock g:Nat} (hd:d < M) {cs:List PV} {E:TypeId} {es:List (Nat×PV×PV)} {kp:PV} {ents:Array MapEntry} {en:MapEntry} (hm:σ.m id=some (.map es clock)) (hj:es[j]? = some (st,kp, .sl n k cs (some E)))
  (hg:μ id=some g) (hh:w.heap[g]? = some (.map ents clock)) (he:ents[j]? = some en) :
  ∃ω',RelG Φ0 W M Φ μ ω' { t:=upd σ.t d (.sl n k cs (some E)),b:=σ.b,m:=upd σ.m id (some (.map (es.set j (st,kp, .sl n k cs none)) clock)) } (a.put (some d) en.val) w:=by
 have hd' : d < a.tmps.size:=by rw [h.size];exact hd
 obtain ⟨g',k1,k2,k3,k4,hst,ents',k5,k6,k7⟩:=h.map id _ hm
 rw [hg] at k1;cases k1
 rw [hh] at k5;cases k5
 obtain ⟨en',f1,f2,f3,f4,f5⟩:=k7 j _ _ _ hj
 rw [he] at f1;cases f1
 refine h.turn (q:=.tmp d) (f5 n k cs E rfl) (by simp [Act.put,h.size]) h.defers (fun t=>?_) (fun ω' hω ho' => ⟨?_,?_,?_⟩) (fun i=>Iff.rfl) (fun i=>?_)
 ·rw [K5 _ _ _ _ hd']
  by_cases ht:t=d
  ·simp only [X8,if_pos ht];exact f4
  ·simp only [X8,if_neg ht];exact h.tmps t
 ·intro t n' k' cs' E' e
  rw [K5 _ _ _ _ hd']
  by_cases ht:t=d
  ·simp only [X8,if_pos ht] at e ⊢
   cases e
   subst ht;exact ho'
  ·simp only [X8,if_neg ht] at e ⊢
   exact (h.own t n' k' cs' E' e).step (fun g e=>⟨rfl,fun _=>rfl,hω g _ e S_⟩)
 ·intro i bs e
  exact (h.box i bs e).step (fun _ _ _ e=>e) (fun _ _ e=>e) (fun q hq g e' => ⟨rfl,fun _=>rfl,hω g q e' (by
   rintro rfl
   rcases hq with hq|⟨j,hq⟩
   ·cases hq
   ·cases hq;exact h.disj e hm rfl)⟩)
 ·intro i X e
  by_cases hi:i=id
  ·subst hi
   simp only [X8,if_true] at e
   cases e
   refine ⟨g,hg,k2,hω g _ k3 S_,k4,X9b hst hj,ents,hh,by simpa using k6,fun j' s' kk c hj' => ?_⟩
   rcases Xd6 hj' with ⟨rfl,e⟩|⟨hne,hj2⟩
   ·cases e
    exact ⟨en,he,f2,f3,f4.bare,fun n' kk' cs' E' e=>by cases e⟩
   ·obtain ⟨e,q1,q2,q3,q4,q5⟩:=k7 j' _ _ _ hj2
    refine ⟨e,q1,q2,q3,q4,fun n' kk' cs' E' ec=>(q5 n' kk' cs' E' ec).step (fun g e' => ⟨rfl,fun _=>rfl,hω g _ e' ?_⟩)⟩
    rw [Ne,Who.cell.injEq]
    rintro ⟨-,rfl⟩
    have h1:(es.map (·.1))[j]? = some s':=by rw [M_,hj];rfl
    have h2:(es.map (·.1))[j']? = some s':=by rw [M_,hj2];rfl
    have hl1:=(List.getElem?_eq_some_iff.1 h1).1
    exact hne ((List.getElem?_inj hl1 hst.1).1 (h1.trans h2.symm)).symm
  ·simp only [X8,if_neg hi] at e
   exact (h.map i X e).step (fun _ _ _ e=>e) (fun _ _ e=>e) (fun q hq g e' => ⟨rfl,fun _=>rfl,hω g q e' (by
    rintro rfl
    rcases hq with hq|⟨j,hq⟩
    ·cases hq
    ·cases hq;exact hi rfl)⟩)
 ·by_cases hi:i=id
  ·subst hi;simp [X8,hm]
  ·simp [X8,hi]
end
section
open Go.RowKit
structure Eff where
 v:PV
 bx:List (Nat×List PV)
 dis:Option Nat
 mx:List (Nat×PMap)
def PS.app (σ:PS) (dst:Option Nat) (e:Eff):PS where
 t:=match dst with
  |some d=>upd (match e.dis with|some s=>upd σ.t s (σ.t s).bare|none=>σ.t) d e.v
  |none=>(match e.dis with|some s=>upd σ.t s (σ.t s).bare|none=>σ.t)
 b:=e.bx.foldl (fun b x=>upd b x.1 (some x.2)) σ.b
 m:=e.mx.foldl (fun b x=>upd b x.1 (some x.2)) σ.m
def X75 (σ:PS):Operand→Eff
 | .tmp s=>if (σ.t s).ownB then ⟨σ.t s,[],some s,[]⟩ else ⟨(σ.t s).bare,[],none,[]⟩
 |x=>⟨pev σ x,[],none,[]⟩
def Xhx (e k:Nat):PV→Option (Nat×List PV)
 | .nilsl=>some (0,[])
 | .sl n k' cs (some e')=>if k' = k∧(e' = e∨e' = e+1000000) then some (n,cs) else none
 |_=>none
def Xhu (e:TypeId):PV→Bool
 | .sl _ _ _ (some e')=>decide (e'≠e)
 |_=>false
def Xr1 (k:Nat):PV→Option (Nat×List PV)
 | .nilsl=>some (0,[])
 | .sl n k' cs _=>if k' = k then some (n,cs) else none
 |_=>none
def Kj (σ:PS):Operand→PV
 | .tmp s=>σ.t s
 |x=>pev σ x
def X3u:Operand→Option Nat
 | .tmp s=>some s
 |_=>none
open Classical in
noncomputable def pappend (e k by_:Nat) (p q:PV) (s:Option Nat):Option Eff:=
 match Xhx e k p,Xr1 k q with
 |some x,some y=>if (x.1+y.1) * by_≤140737488355328∧x.1+y.1≤140737488355328∧y.2.all PV.one∧e < 1000000∧(Xhu e p=false∨0 < y.1) then some ⟨.sl (x.1+y.1) k (x.2 ++ y.2) (some e),[],s,[]⟩ else none
 |_,_=>none
open Classical in
noncomputable def pmake (k by_:Nat) (zr:List PV) (x y:Int):Option (Nat×List PV):=
 if 0≤x∧x=y∧(by_:Int) * x≤281474976710656∧x≤9223372036854775807 then some (x.toNat,(List.replicate x.toNat zr).flatten) else none
def X0u (T:Tab) (hd:Bool) (b:Nat→Option (List PV)) (t:TypeId):PV→Option Eff
 | .ptr j off=>if hd then (match b j with
  |some bs=>match bs[off]? with
   |some (.sl n k cs (some E))=>match T.at t with
    |some ti=>if ti.agg=false then some ⟨.sl n k cs (some E),[(j,bs.set off (.sl n k cs none))],none,[]⟩ else none
    |none=>none
   |_=>none
  |none=>none) else none
 |_=>none
noncomputable def presE (T:Tab) (hd:Bool) (id:Nat) (σ:PS):Op→Option Eff
 | .assign x=>some (X75 σ x)
 | .move x=>if hd then some (X75 σ x) else some ⟨pev σ x,[],none,[]⟩
 | .alloc e=>match T.at e,σ.b id,σ.m id with
  |some ti,none,none=>some ⟨.ptr id 0,[(id,ti.zero)],none,[]⟩
  |_,_,_=>none
 | .box _ x=>match X01 (pev σ x),σ.b id,σ.m id with
  |some cs,none,none=>some ⟨.ptr id 0,[(id,cs)],none,[]⟩
  |_,_,_=>none
 | .store t x y=>match pev σ x with
  | .ptr j off=>if (Kj σ y).ownB then (match σ.b j,T.at t with
    |some bs,some ti=>if ti.size=1∧off+1≤bs.length then some ⟨.tup [],[(j,bs.set off (Kj σ y))],X3u y,[]⟩ else none
    |_,_=>none)
   else match σ.b j,T.at t,X01 (pev σ y) with
   |some bs,some ti,some new=>if new.length=ti.size∧off+new.length≤bs.length then some ⟨.tup [],[(j,splF bs off new)],none,[]⟩ else none
   |_,_,_=>none
  |_=>none
 | .load t x=>match X0u T hd σ.b t (pev σ x) with
  |some E=>some E
  |none=>(V5 T σ (.load t x)).map fun v=>⟨v,[],none,[]⟩
 | .buildSlice t len parts=>match T.at t with
  |some ti=>match ti.kind with
   | .slice e k _ zr=>if len * k≤16777216∧e < 1000000 then (X11 (fun i=>some (i * k,k)) ((List.replicate len zr).flatten) (parts.toList.map fun x=>(x.1,pev σ x.2))).map fun cs=>⟨.sl len k cs (some e),[],none,[]⟩ else none
   |_=>none
  |none=>none
 | .makeSlice t l c=>match T.at t,pev σ l,pev σ c,σ.b id,σ.m id with
  |some ti, .val (.int _ x), .val (.int _ y),none,none=>match ti.kind with
   | .slice _ k by_ zr=>match pmake k by_ zr x y with
    |some r=>some ⟨.msl id 0 r.1 k,[(id,r.2)],none,[]⟩
    |none=>none
   |_=>none
  |_,_,_,_,_=>none
 | .call c=>match c.callee with
  | .builtin .append=>match c.args.toList,c.argTypes.toList with
   | [s,x],[t,t']=>if t' = t then (match T.at t with
     |some ti=>match ti.kind with
      | .slice e k by_ _=>pappend e k by_ (Kj σ s) (pev σ x) (X3u s)
      |_=>none
     |none=>none) else none
   |_,_=>none
  |_=>(V5 T σ (.call c)).map fun v=>⟨v,[],none,[]⟩
 |op=>(V5 T σ op).map fun v=>⟨v,[],none,[]⟩
def Xx7:Op→Bool
 | .store .. | .mapUpdate .. | .insert .. => true
 |_=>false
def Xby:Op→Bool
 | .store .. | .mapUpdate .. | .insert .. => false
 | .call c=>match c.callee with
  | .builtin .delete | .builtin .copy | .builtin .clear | .value _ | .invoke .. => false
  |_=>true
 |_=>true
theorem Xoe {T:Tab} {σ:PS} {op:Op} {p:PV} (h:V5 T σ op=some p):Xby op=true:=by
 unfold V5 at h
 cases op with
 |call c=>
  obtain ⟨callee,args,argTypes⟩:=c
  cases callee with
  |builtin b=>cases b<;>first|rfl|simp [pval,X2k] at h
  |_=>simp [pval,X2k] at h
 |store=>simp [pval,X2k] at h
 |mapUpdate=>simp [pval,X2k] at h
 |insert=>simp [pval,X2k] at h
 |_=>rfl
end
section
open Go.RowKit
variable {Φ0:Ent} {W:World} {M:Nat} {Φ:Imm} {μ:Nat→Option Nat} {ω:Nat→Option Who} {σ:PS} {a:Act} {w:World} {P:Program} {T:Tab}
def Does (P:Program) (Φ0:Ent) (W:World) (M:Nat) (a:Act) (w:World) (o:Oper) (σ' : PS):Prop:=
 ∃nx v w',(execOp a.eval o).run P w = .ok nx w'∧(nx = .value v∨nx = .skip∧v=undef)∧Rel Φ0 W M σ' (a.put o.dst v) w'
theorem X5w (h:RelG Φ0 W M Φ μ ω σ a w) (o:Oper) {d:Nat} (hd:o.dst=some d) (hM:d < M) {p:PV} {v:Value} (hr:(execOp a.eval o).run P w = .ok (.value v) w) (hp:Rep Φ μ p v) (ho:p.ownB=false) :
  Does P Φ0 W M a w o (σ.app o.dst ⟨p,[],none,[]⟩):=by
 refine ⟨_,v,w,hr, .inl rfl,Φ,μ,ω,?_⟩
 rw [hd]
 exact h.put hM hp ho
theorem Xcg (h:RelG Φ0 W M Φ μ ω σ a w) (o:Oper) {d:Nat} (hd:o.dst=some d) (hM:d < M) (x:Operand) (hr:(execOp a.eval o).run P w = .ok (.value (a.eval x)) w):Does P Φ0 W M a w o (σ.app o.dst (X75 σ x)):=by
 cases x with
 |tmp s=>
  simp only [X75]
  split
  ·rename_i hown
   obtain ⟨n,k,cs,E,hs⟩:∃n k cs E,σ.t s = .sl n k cs (some E):=by
    cases hσ:σ.t s with
    |sl n k cs own=>cases own with
     |none=>rw [hσ] at hown;simp [PV.ownB] at hown
     |some E=>exact ⟨n,k,cs,E,rfl⟩
    |_=>rw [hσ] at hown;simp [PV.ownB] at hown
   obtain ⟨ω',h'⟩:=h.moveOwn hM hs
   refine ⟨_,a.eval (.tmp s),w,hr, .inl rfl,Φ,μ,ω',?_⟩
   rw [hd]
   exact h'
  ·exact X5w h o hd hM hr (h.tmps s).bare (PV.bare_own _)
 |const v=>exact X5w h o hd hM hr (h.ev (.const v)) (X3x σ _)
 |global g=>exact X5w h o hd hM hr (h.ev (.global g)) (X3x σ _)
 |func f=>exact X5w h o hd hM hr (h.ev (.func f)) (X3x σ _)
theorem X5p {zr:List PV} {z:Array Value} {k len:Nat} (hk:z.size=k) (hpos:0 < k) (hr:RepL Φ μ zr z.toList) (hone:∀c∈z.toList,c.oneCell' = true) (hno:∀c∈zr,c.ownB=false) :
  X4r Φ μ ((List.replicate len zr).flatten) ((Array.range (len * k)).map (fun i=>z[i % z.size]!)).toList:=by
 have hzl:zr.length=k:=by rw [←hr.1];simpa using hk
 have hget:∀j,((List.replicate len zr).flatten)[j]? = if j < len * k then zr[j % k]? else none:=by
  induction len with
  |zero=>intro j;simp
  |succ len ih=>
   intro j
   rw [List.replicate_succ,List.flatten_cons]
   by_cases hj:j < k
   ·rw [List.getElem?_append_left O_,if_pos (by rw [Nat.succ_mul];omega),Nat.mod_eq_of_lt hj]
   ·rw [List.getElem?_append_right O_,hzl,ih]
    have e1:(j - k) % k=j % k:=by rw [Nat.mod_eq_sub_mod (a:=j) O_]
    rw [e1]
    by_cases h1:j - k < len * k
    ·rw [if_pos h1,if_pos (by rw [Nat.succ_mul];omega)]
    ·rw [if_neg h1,if_neg (by rw [Nat.succ_mul];omega)]
 have hz:∀j,j < len * k→((Array.range (len * k)).map (fun i=>z[i % z.size]!)).toList[j]? = z.toList[j % k]?:=by
  intro j hj
  have:j % k < z.size:=by rw [hk];exact Nat.mod_lt _ hpos
  simp [hj,hk,this,getElem!_pos]
  rw [getElem!_pos z _ this,Array.getElem?_eq_getElem this]
 refine ⟨⟨?_,fun j c u h1 h2=>?_⟩,fun u hu=>?_,fun c hc=>?_⟩
 ·simp [hzl]
 ·rw [hget] at h1
  split at h1
  ·rename_i hj
   rw [hz j hj] at h2
   exact hr.2 _ c u h1 h2
  ·cases h1
 ·obtain ⟨j,hj⟩:=List.getElem?_of_mem hu
  have hlt:j < len * k:=by have:=(List.getElem?_eq_some_iff.1 hj).1;simpa using this
  rw [hz j hlt] at hj
  exact hone u (Xc hj)
 ·obtain ⟨l,hl,hcl⟩:=List.mem_flatten.1 hc
  rw [List.eq_of_mem_replicate hl] at hcl
  exact hno c hcl
theorem Xif (h:RelG Φ0 W M Φ μ ω σ a w) (parts:Array (Nat×Operand)):∀(j:Nat) i p i' v,(parts.toList.map fun x=>(x.1,pev σ x.2))[j]? = some (i,p)→(parts.toList.map fun x=>(x.1,a.eval x.2))[j]? = some (i',v)→i' = i∧Rep Φ μ p v:=by
 intro j i p i' v h1 h2
 rw [M_] at h1 h2
 obtain ⟨x,hx,e⟩:=Option.map_eq_some_iff.1 h1
 rw [hx] at h2
 simp at h2 e
 obtain ⟨rfl,rfl⟩:=e
 obtain ⟨rfl,rfl⟩:=h2
 exact ⟨rfl,h.ev x.2⟩
theorem X4t (h:RelG Φ0 W M Φ μ ω σ a w) (o:Oper) {d:Nat} (hd:o.dst=some d) (hM:d < M) {s x:Operand} {t:TypeId} (hop:o.op = .call { callee:=.builtin .append,args := #[s,x],argTypes := #[t,t] })
  {ti:TyI} (ht:tyI P t=some ti) {e k by_:Nat} {zr:List PV} (hk:ti.kind = .slice e k by_ zr) {n m:Nat} {cs ds:List PV} (hX:Xhx e k (Kj σ s)=some (n,cs)) (c1:(n+m) * by_≤140737488355328) (c2:n+m≤140737488355328) (ce:e < 1000000) (cf:Xhu e (Kj σ s)=false∨0 < m)
  (hx:∃ad cx news,a.eval x = .slice ad m cx∧(0 < m→∃adr,ad=some adr∧∀j u,news[j]? = some u→w.cell? (adr.add j)=some u)∧RepL Φ μ ds news∧(∀u∈news,u.oneCell' = true)∧ds.length=m * k):Does P Φ0 W M a w o (σ.app o.dst ⟨.sl (n+m) k (cs ++ ds) (some e),[],X3u s,[]⟩):=by
 obtain ⟨hu,i,z,e1,e2,e3,e4,e5,e6,-,-⟩:=Ys ht hk
 have hrun:∀v' w',(Builtin.append_ #[t,t] o.type #[a.eval s,a.eval x]).run P w = .ok v' w'→(execOp a.eval o).run P w = .ok (.value v') w':=by
  intro v' w' hr
  simp only [execOp,hop,resolve,invoke,builtin,Sem.run_bind,Sem.run_pure,Result.andThen_ok,List.map_toArray,List.map_cons,List.map_nil,hr]
 have hml:n+m≤maxLen:=by unfold maxLen;omega
 obtain ⟨ad,cx,news,hxv,hxa,hxr,hxo,hdl⟩:=hx
 have hnl:news.length=m * k:=by rw [hxr.1,hdl]
 -- a new block
 have fresh:∀(v' : Value) (xs:List Value) (cap:Nat) (rest:Array Value),RepL Φ μ cs xs→xs.length=n * k→n+m≤cap→cap≤maxLen→(xs.toArray ++ news.toArray ++ rest).size=cap * k →
   (Builtin.append_ #[t,t] o.type #[a.eval s,a.eval x]).run P w = .ok (.slice (some ⟨w.heap.size,0,none⟩) (n+m) cap) (w.drew.alloc (.cells (xs.toArray ++ news.toArray ++ rest) e))→Does P Φ0 W M a w o (σ.app o.dst ⟨.sl (n+m) k (cs ++ ds) (some e),[],X3u s,[]⟩):=by
  intro v' xs cap rest hxs hxl hcap hcm hsz hr
  have hL:(cs ++ ds).length=(n+m) * k:=by rw [A_,←hxs.1,hxl,hdl,Nat.add_mul]
  have htake:(xs.toArray ++ news.toArray ++ rest).toList.take ((n+m) * k)=xs ++ news:=by
   simp only [Array.toList_append]
   rw [←hL,A_,←hxs.1,←hxr.1,←A_]
   exact List.take_left
  have hrep:RepL Φ μ (cs ++ ds) (xs ++ news):=by
   refine ⟨by simp [hxs.1,hxr.1],fun j c u h1 h2=>?_⟩
   by_cases hj:j < cs.length
   ·rw [List.getElem?_append_left hj] at h1
    rw [List.getElem?_append_left (by rw [hxs.1];exact hj)] at h2
    exact hxs.2 j c u h1 h2
   ·rw [List.getElem?_append_right O_] at h1
    rw [List.getElem?_append_right (by rw [hxs.1];omega),hxs.1] at h2
    exact hxr.2 _ c u h1 h2
  obtain ⟨Φ',ω',h',-⟩:=h.drew.newOwn (d:=d) hM (N:=n+m) (k:=k) (cap:=cap) (L:=cs ++ ds) (cur:=xs.toArray ++ news.toArray ++ rest) (e:=e) hL (by rw [htake];exact hrep) hcap hcm hsz ce
  refine ⟨_,_,_,hrun _ _ hr, .inl rfl,?_⟩
  rw [hd]
  cases s with
  |tmp s=>
   have h2:=h'.strip s
   refine ⟨Φ',μ,ω',?_⟩
   simp only [PS.app,X3u,List.foldl_nil,List.foldl_cons]
   by_cases hsd:s=d
   ·subst hsd
    have e9:upd (upd σ.t s (σ.t s).bare) s (.sl (n+m) k (cs ++ ds) (some e))=upd σ.t s (.sl (n+m) k (cs ++ ds) (some e)):=by
     funext j;simp only [X8];by_cases hj:j=s<;>simp [hj]
    simp only [e9]
    exact h'
   ·have e9:upd (upd σ.t s (σ.t s).bare) d (.sl (n+m) k (cs ++ ds) (some e))=upd (upd σ.t d (.sl (n+m) k (cs ++ ds) (some e))) s (σ.t s).bare:=X81 _ _ _ hsd
    simp only [e9]
    have e10:(PS.put σ d (.sl (n+m) k (cs ++ ds) (some e))).t s=σ.t s:=by simp [PS.put,X8,hsd]
    rw [e10] at h2
    exact h2
  |const v=>exact ⟨Φ',μ,ω',h'⟩
  |global v=>exact ⟨Φ',μ,ω',h'⟩
  |func v=>exact ⟨Φ',μ,ω',h'⟩
 -- what is appended to
 have hsrc:(a.eval s = .slice none 0 0∧n=0∧cs = []∧(Kj σ s).ownB=false)∨(∃s' e',s = .tmp s'∧σ.t s' = .sl n k cs (some e')∧(e' = e∨e' = e+1000000)):=by
  unfold Xhx at hX
  split at hX
  ·rename_i hq
   simp at hX
   obtain ⟨rfl,rfl⟩:=hX
   left
   have:Rep Φ μ .nilsl (a.eval s):=by
    cases s with
    |tmp s' => have:=h.tmps s'; simp only [Kj] at hq;rw [hq] at this;exact this
    |const v=>have:=h.ev (.const v);simp only [Kj] at hq;rw [←hq];exact this
    |global v=>have:=h.ev (.global v);simp only [Kj] at hq;rw [←hq];exact this
    |func v=>have:=h.ev (.func v);simp only [Kj] at hq;rw [←hq];exact this
   exact ⟨this.nilsl_inv,rfl,rfl,by rw [hq];rfl⟩
  ·rename_i n' k' cs' e' hq
   split at hX
   ·rename_i hkk
    obtain ⟨rfl,hee⟩:=hkk
    simp at hX
    obtain ⟨rfl,rfl⟩:=hX
    right
    cases s with
    |tmp s' => exact ⟨s',e',rfl,hq,hee⟩
    |const v=>have:=Xgy v;simp only [Kj,pev] at hq;rw [hq] at this;simp [PV.ownB] at this
    |global g=>have:=X3e g X3b;simp only [Kj,pev] at hq;rw [hq] at this;simp [PV.ownB] at this
    |func f=>cases hblt:Nat.blt f 1000000<;>simp [Kj,pev,hblt] at hq
   ·cases hX
  ·cases hX
 by_cases hm:m=0
 ·-- nothing is appended
  subst hm
  have hds:ds = []:=List.eq_nil_of_length_eq_zero (by simpa using hdl)
  subst hds
  simp only [Nat.add_zero,List.append_nil]
  rcases hsrc with ⟨hs,rfl,rfl,hno⟩|⟨s',e',rfl,hs,hee⟩
  ·refine ⟨_, .slice none 0 0,w,hrun _ _ (by rw [hs,hxv];exact X7c w t _ e i hu e1 none ad 0 0 cx (Nat.le_refl _)), .inl rfl,?_⟩
   rw [hd]
   have hput:∀σ1:PS,RelG Φ0 W M Φ μ ω σ1 a w→RelG Φ0 W M Φ μ ω (σ1.put d (.sl 0 k [] (some e))) (a.put (some d) (.slice none 0 0)) w:=by
    intro σ1 h1
    have h2:=h1.put (p:=.nilsl) hM .nilsl rfl
    have h3:=h2.forget (upd (σ1.put d .nilsl).t d (.sl 0 k [] (some e))) (fun u=>by
     by_cases hu:u=d
     ·subst hu;right;right;right;exact ⟨k,e,by simp [X8],by simp [PS.put,X8]⟩
     ·right;left;simp [X8,hu])
    have e' : upd (σ1.put d .nilsl).t d (.sl 0 k [] (some e))=upd σ1.t d (.sl 0 k [] (some e)):=by
     funext j;simp only [PS.put,X8];by_cases hj:j=d<;>simp [hj]
    rw [e'] at h3
    exact h3
   cases s with
   |tmp s' => exact ⟨Φ,μ,ω,hput _ (h.strip s')⟩
   |const v=>exact ⟨Φ,μ,ω,hput _ h⟩
   |global v=>exact ⟨Φ,μ,ω,hput _ h⟩
   |func v=>exact ⟨Φ,μ,ω,hput _ h⟩
  ·have hsv:=h.tmps s'
   rw [hs] at hsv
   obtain ⟨ad',b,off,cap,us,hv,q1,-⟩:=hsv.sl_inv
   obtain ⟨ω',h'⟩:=h.moveOwn hM hs
   refine ⟨_,a.eval (.tmp s'),w,hrun _ _ ?_, .inl rfl,Φ,μ,ω',?_⟩
   ·rw [hxv,show a.eval (.tmp s') = .slice ad' n cap from hv];exact X7c w t _ e i hu e1 ad' ad n cap cx q1
   ·have hee' : e' = e:=by
     rcases cf with cf|cf
     ·simp only [Kj,hs,Xhu,decide_eq_false_iff_not,ne_eq,Decidable.not_not] at cf;exact cf
     ·omega
    subst hee'
    rw [hd]
    simp only [PS.app,X3u,List.foldl_nil,List.foldl_cons]
    rw [hs] at h' ⊢
    exact h'
 ·obtain ⟨adr,rfl,hcells⟩:=hxa O_
  rcases hsrc with ⟨hs,rfl,rfl,hno⟩|⟨s',e',rfl,hs,hee⟩
  ·have hr:=run_append_nil (P:=P) w t o.type e i z hu e1 e2 adr m cx news (by rw [hnl,e3]) hcells O_ O_ (by rw [e4];rw [Nat.zero_add] at c1;omega)
   refine fresh undef [] (grownCap w m 0 e) (Builtin.zeroCells z.cells (grownCap w m 0 e - m)) RepL.nil S_ ?_ ?_ ?_ ?_
   ·rw [Nat.zero_add];exact grownCap_ge w m 0 e
   ·exact grownCap_le_maxLen w m 0 e O_
   rotate_left
   ·rw [hs,hxv,Nat.zero_add]
    simpa using hr
   ·have hge:=grownCap_ge w m 0 e
    simp only [Array.size_append,List.size_toArray,size_zeroCells,hnl,e5,List.length_nil,Nat.zero_add,←Nat.add_mul]
    congr 1
    omega
  ·have ho:=h.own s' n k cs e' hs
   have hsr:=h.tmps s'
   rw [hs] at hsr
   have hcsl:cs.length=n * k:=by obtain ⟨_,_,_,_,_,_,_,_,h3,_⟩:=hsr.sl_inv;exact h3
   have nilc:a.eval (.tmp s') = .slice none 0 0→n=0→Does P Φ0 W M a w o (σ.app o.dst ⟨.sl (n+m) k (cs ++ ds) (some e),[],some s',[]⟩):=by
    intro hs0 hn0
    subst hn0
    have hcs:cs = []:=List.eq_nil_of_length_eq_zero (by simpa using hcsl)
    subst hcs
    have hr:=run_append_nil (P:=P) w t o.type e i z hu e1 e2 adr m cx news (by rw [hnl,e3]) hcells O_ O_ (by rw [e4];rw [Nat.zero_add] at c1;omega)
    refine fresh undef [] (grownCap w m 0 e) (Builtin.zeroCells z.cells (grownCap w m 0 e - m)) RepL.nil S_ ?_ ?_ ?_ ?_
    ·rw [Nat.zero_add];exact grownCap_ge w m 0 e
    ·exact grownCap_le_maxLen w m 0 e O_
    rotate_left
    ·rw [hs0,hxv,Nat.zero_add]
     simpa using hr
    ·have hge:=grownCap_ge w m 0 e
     simp only [Array.size_append,List.size_toArray,size_zeroCells,hnl,e5,List.length_nil,Nat.zero_add,←Nat.add_mul]
     congr 1
     omega
   have grow:∀(ad2:Addr) cap,a.eval (.tmp s') = .slice (some ad2) n cap→cap≤maxLen→¬(n+m≤cap)→Does P Φ0 W M a w o (σ.app o.dst ⟨.sl (n+m) k (cs ++ ds) (some e),[],some s',[]⟩):=by
    intro ad2 cap hsv hcapm hroom
    have hsr:=h.tmps s'
    rw [hs,show a.tmps.getD s' undef = .slice (some ad2) n cap from hsv] at hsr
    obtain ⟨xs,hxs,hcx⟩:∃xs,RepL Φ μ cs xs∧∀j u,xs[j]? = some u→w.cell? (ad2.add j)=some u:=by
     cases hsr with
     |sl0=>exact ⟨[],RepL.nil,fun j u hj=>by simp at hj⟩
     |sl _ _ _ _ _ _ _ us _ _ _ hp hrr=>
      refine ⟨_,X0v cs us hrr,fun j u hj=>?_⟩
      have hjl:j < cs.length:=by have:=(List.getElem?_eq_some_iff.1 hj).1;simpa using this
      simp [hjl] at hj
      subst hj
      rw [Addr.add_lit]
      exact h.imm _ _ _ (hp j hjl)
    have hxl:xs.length=n * k:=by rw [hxs.1,hcsl]
    have hr:=run_append_grow (P:=P) w t o.type e i z hu e1 e2 ad2 n cap xs (by rw [hxl,e3]) hcx adr m cx news (by rw [hnl,e3]) hcells O_ O_ (growslice_fits O_ (by rw [e4];exact c1))
    refine fresh undef xs (grownCap w (n+m) cap e) (Builtin.zeroCells z.cells (grownCap w (n+m) cap e - (n+m))) hxs hxl (grownCap_ge w _ _ e) (grownCap_le_maxLen w _ _ e hml) ?_ ?_
    rotate_left
    ·rw [hsv,hxv]
     exact hr
    ·have hge:=grownCap_ge w (n+m) cap e
     simp only [Array.size_append,List.size_toArray,size_zeroCells,hxl,hnl,e5,←Nat.add_mul]
     congr 1
     omega
   rcases ho with ⟨hnil,hn0⟩|⟨g,cap,cur,hv,hB,hg,q1,q2,q3,q4,q5⟩|⟨-,ad2,hfl⟩
   ·exact nilc hnil hn0
   ·have hsv:a.eval (.tmp s') = .slice (some ⟨g,0,none⟩) n cap:=hv
    by_cases hroom:n+m≤cap
    ·have hfit:n * i.size+news.length≤cur.size:=by rw [hnl,q3,e3,←Nat.add_mul];exact Nat.mul_le_mul_right _ hroom
     have hee' : e' = e:=by
      rcases hee with h0|h0
      ·exact h0
      ·have h6:=q5.1
       rw [h0] at h6
       exact absurd h6 (Nat.not_lt.2 (Nat.le_add_left _ _))
     subst hee'
     have hr:=run_append_room (P:=P) w t o.type e' i hu e1 g n cap cur hg adr m cx news (by rw [hnl,e3]) hcells hxo hroom hfit
     obtain ⟨Φ',ω',h'⟩:=h.appendIn hM hs hv hg hroom q3 q4 q5.1 q5.2 hB q2 hdl hxr
     refine ⟨_,_,_,hrun _ _ (by rw [hsv,hxv];exact hr), .inl rfl,Φ',μ,ω',?_⟩
     rw [hd,e3]
     exact h'
    ·exact grow _ cap hsv q2 hroom
   ·cases ad2 with
    |none=>
     have hn0:n=0:=by
      rw [hfl] at hsr
      cases hsr
      rfl
     subst hn0
     exact nilc hfl rfl
    |some ad2=>
     have hnm:n≤maxLen:=by
      rw [hfl] at hsr
      obtain ⟨_,_,_,_,_,he,_,hh,_⟩:=hsr.sl_inv
      cases he;exact hh
     exact grow ad2 n hfl hnm O_
theorem Xlk (h:RelG Φ0 W M Φ μ ω σ a w) (o:Oper) {d:Nat} (hd:o.dst=some d) (hM:d < M) {s x:Operand} {t:TypeId} (hop:o.op = .call { callee:=.builtin .append,args := #[s,x],argTypes := #[t,t] })
  {ti:TyI} (ht:tyI P t=some ti) {e k by_:Nat} {zr:List PV} (hk:ti.kind = .slice e k by_ zr) {E:Eff} (hp:pappend e k by_ (Kj σ s) (pev σ x) (X3u s)=some E):Does P Φ0 W M a w o (σ.app o.dst E):=by
 unfold pappend at hp
 split at hp
 case h_2=>cases hp
 rename_i X Y hX hY
 split at hp
 case isFalse=>cases hp
 rename_i hc
 obtain ⟨c1,c2,c3,ce,cf⟩:=hc
 cases hp
 obtain ⟨n,cs⟩:=X
 obtain ⟨m,ds⟩:=Y
 simp only at c1 c2 c3 cf
 -- what is appended
 have hx:∃ad cx news,a.eval x = .slice ad m cx∧(0 < m→∃adr,ad=some adr∧∀j u,news[j]? = some u→w.cell? (adr.add j)=some u)∧RepL Φ μ ds news∧(∀u∈news,u.oneCell' = true)∧ds.length=m * k:=by
  have hxr:=h.ev x
  unfold Xr1 at hY
  split at hY
  ·rename_i hq
   simp at hY
   obtain ⟨rfl,rfl⟩:=hY
   rw [hq] at hxr
   exact ⟨none,0,[],hxr.nilsl_inv,fun h=>by omega,RepL.nil,S_,S_⟩
  ·rename_i n' k' cs' own hq
   split at hY
   ·rename_i hkk
    subst hkk
    simp at hY
    obtain ⟨rfl,rfl⟩:=hY
    rw [hq] at hxr
    obtain ⟨ad,b,off,cap,us,hv,q1,q2,q3,q4,q5,q6⟩:=hxr.sl_inv
    have hrl:=X0v cs' us q6
    refine ⟨ad,cap,_,hv,fun hpos=>⟨_,q4 hpos,?_⟩,hrl,Xb7 hrl c3,q3⟩
    intro j u hj
    rw [Addr.add_lit]
    have hjl:j < cs'.length:=by have:=(List.getElem?_eq_some_iff.1 hj).1;simpa using this
    simp [hjl] at hj
    subst hj
    exact h.imm _ _ _ (q5 j hjl)
   ·cases hY
  ·cases hY
 exact X4t h o hd hM hop ht hk hX c1 c2 ce cf hx
theorem Xbg (h:RelG Φ0 W M Φ μ ω σ a w) (o:Oper) {d:Nat} (hd:o.dst=some d) (hM:d < M) {s x:Operand} {t:TypeId} (hop:o.op = .call { callee:=.builtin .append,args := #[s,x],argTypes := #[t,t] })
  {ti:TyI} (ht:tyI P t=some ti) {e k by_:Nat} {zr:List PV} (hk:ti.kind = .slice e k by_ zr) {n m id off:Nat} {cs bs:List PV} (hX:Xhx e k (Kj σ s)=some (n,cs)) (c1:(n+m) * by_≤140737488355328) (c2:n+m≤140737488355328) (ce:e < 1000000) (cf:Xhu e (Kj σ s)=false∨0 < m)
  (hxm:pev σ x = .msl id off m k) (hb:σ.b id=some bs) (hle:off+m * k≤bs.length):Does P Φ0 W M a w o (σ.app o.dst ⟨.sl (n+m) k (cs ++ ((bs.drop off).take (m * k)).map PV.bare) (some e),[],X3u s,[]⟩):=by
 refine X4t h o hd hM hop ht hk hX c1 c2 ce cf ?_
 have hxr:=h.ev x
 rw [hxm] at hxr
 obtain ⟨ad,cap,hxv,-,-,c4⟩:=hxr.msl_inv
 obtain ⟨g,cur,Ty,b1,b2,b3,b4,b5,b6,b7⟩:=h.box id bs hb
 have hat:∀j,j < m * k→∃c u,bs[off+j]? = some c∧cur[off+j]? = some u∧u.oneCell' = true∧Rep Φ μ c u:=fun j hj=>by
  have hc:bs[off+j]? = some bs[off+j]:=E_ O_
  obtain ⟨u,r1,r2,r3,-⟩:=b7 (off+j) _ hc
  exact ⟨_,u,hc,r1,r2,r3⟩
 have hget:∀j u,((List.range (m * k)).map fun j=>cur.getD (off+j) undef)[j]? = some u→j < m * k∧u=cur.getD (off+j) undef:=fun j u hj=>by
  have hjl:j < m * k:=by have:=(List.getElem?_eq_some_iff.1 hj).1;simpa using this
  rw [M_,List.getElem?_range hjl] at hj
  exact ⟨hjl,(Option.some.inj hj).symm⟩
 have hcur:∀j u,cur[off+j]? = some u→cur.getD (off+j) undef=u:=fun j u hj=>by
  rw [Array.getD_eq_getD_getElem?,hj];rfl
 refine ⟨ad,cap,(List.range (m * k)).map fun j=>cur.getD (off+j) undef,hxv,fun hm=>?_,⟨?_,fun j c u hc hu=>?_⟩,fun u hu=>?_,?_⟩
 ·obtain ⟨g',hg',rfl⟩:=c4 hm
  rw [b1] at hg'; cases hg'
  refine ⟨_,rfl,fun j u hj=>?_⟩
  obtain ⟨hjl,rfl⟩:=hget j u hj
  obtain ⟨c,u,-,r1,-,-⟩:=hat j hjl
  rw [hcur j u r1,Addr.add_lit]
  simp only [World.cell?,b2]
  simpa using r1
 ·simp only [List.length_map,List.length_range,T_,L_]
  omega
 ·obtain ⟨hjl,rfl⟩:=hget j u hu
  obtain ⟨c',u,q1,r1,-,r3⟩:=hat j hjl
  rw [M_,List.getElem?_take,if_pos hjl,List.getElem?_drop,q1] at hc
  cases hc
  rw [hcur j u r1]
  exact r3.bare
 ·obtain ⟨j,hj,rfl⟩:=List.mem_map.1 hu
  obtain ⟨c',u,q1,r1,r2,-⟩:=hat j (List.mem_range.1 hj)
  rw [hcur j u r1]
  exact r2
 ·simp only [List.length_map,T_,L_]
  omega
theorem Xlv (hT:T=Kf P) (h:RelG Φ0 W M Φ μ ω σ a w) (o:Oper) {hd:Bool} {id:Nat} (hidl:id < 1000000) {E:Eff} (hp:presE T hd id σ o.op=some E) (hdst:∀d,o.dst=some d→d < M) (hkind:(Xx7 o.op=true→o.dst=none)∧(Xby o.op=true→o.dst.isSome=true)) :
  Does P Φ0 W M a w o (σ.app o.dst E):=by
 obtain ⟨dst,op,ty,pos,after,guard⟩:=o
 simp only at hp hdst hkind
 have simple:∀p,V5 T σ op=some p→dst.isSome=true→Does P Φ0 W M a w ⟨dst,op,ty,pos,after,guard⟩ (σ.app dst ⟨p,[],none,[]⟩):=by
  intro p hpv hds
  obtain ⟨d,rfl⟩:=Option.isSome_iff_exists.1 hds
  obtain ⟨v,r1,r2,r3⟩:=Xkp hT h ⟨some d,op,ty,pos,after,guard⟩ hpv
  exact X5w h _ rfl (hdst d rfl) r1 r2 r3
 have other:∀E,(V5 T σ op).map (fun v=>(⟨v,[],none,[]⟩:Eff))=some E→Does P Φ0 W M a w ⟨dst,op,ty,pos,after,guard⟩ (σ.app dst E):=by
  intro E hE
  obtain ⟨p,hpv,rfl⟩:=Option.map_eq_some_iff.1 hE
  exact simple p hpv (hkind.2 (Xoe hpv))
 unfold presE at hp
 split at hp
 ·rename_i x
  cases hp
  obtain ⟨d,rfl⟩:=Option.isSome_iff_exists.1 (hkind.2 rfl)
  exact Xcg h _ rfl (hdst d rfl) x (by simp [execOp])
 ·rename_i x
  obtain ⟨d,rfl⟩:=Option.isSome_iff_exists.1 (hkind.2 rfl)
  split at hp
  ·cases hp
   exact Xcg h _ rfl (hdst d rfl) x (by simp [execOp])
  ·cases hp
   exact X5w h _ rfl (hdst d rfl) (by simp [execOp]) (h.ev x) (X3x σ x)
 ·rename_i e
  obtain ⟨d,rfl⟩:=Option.isSome_iff_exists.1 (hkind.2 rfl)
  split at hp
  ·rename_i ti ht hb hmb
   cases hp
   obtain ⟨i,dd,z,g1,g2,g3,g4,g5,g6⟩:=K1 (Y9 hT ht)
   have hz:ti.zero=z.cells.toList.map pv0:=by rw [g6]
   have h1:=h.newBox hidl hb hmb (bs:=ti.zero) (us:=z.cells.toList) (by rw [hz];exact X1y _) g5 (by rw [hz];intro c hc;obtain ⟨v,-,rfl⟩:=List.mem_map.1 hc;exact X56 v) e
   have h2:=h1.put (d:=d) (hdst d rfl) (p:=.ptr id 0) (.ptr id 0 w.heap.size (by simp [X8])) rfl
   refine ⟨_, .pointer (some ⟨w.heap.size,0,none⟩),w.alloc (.cells z.cells e),?_, .inl rfl,Φ,_,_,by rw [Array.toArray_toList] at h2;exact h2⟩
   simp [execOp,Instr.alloc,zeroValue,typeInfo,g1,g3,newVar,newRow]
  ·cases hp
 ·rename_i e x
  obtain ⟨d,rfl⟩:=Option.isSome_iff_exists.1 (hkind.2 rfl)
  split at hp
  ·rename_i cs hcs hb hmb
   cases hp
   have hc:=X54 (h.ev x) hcs
   have h1:=h.newBox hidl hb hmb hc.1 hc.2.1 hc.2.2 e
   have h2:=h1.put (d:=d) (hdst d rfl) (p:=.ptr id 0) (.ptr id 0 w.heap.size (by simp [X8])) rfl
   refine ⟨_, .pointer (some ⟨w.heap.size,0,none⟩),w.alloc (.cells (a.eval x).cells e),?_, .inl rfl,Φ,_,_,by rw [Array.toArray_toList] at h2;exact h2⟩
   simp [execOp,Instr.box,newVar,newRow]
  ·cases hp
 ·rename_i t x y
  have hkd:dst=none:=hkind.1 rfl
  subst hkd
  split at hp
  ·rename_i j off hx
   have hxr:=h.ev x
   rw [hx] at hxr
   obtain ⟨g,hg,hv⟩:=hxr.ptr_inv
   split at hp
   ·rename_i hown
    split at hp
    ·rename_i bs ti hb ht
     split at hp
     ·rename_i hc
      cases hp
      obtain ⟨s,n,k,cs,E,rfl,hs⟩:∃s n k cs E,y = .tmp s∧σ.t s = .sl n k cs (some E):=by
       cases y with
       |tmp s=>
        simp only [Kj] at hown
        cases hσ:σ.t s with
        |sl n k cs own=>cases own with
         |none=>rw [hσ] at hown;simp [PV.ownB] at hown
         |some E=>exact ⟨s,n,k,cs,E,rfl,hσ⟩
        |_=>rw [hσ] at hown;simp [PV.ownB] at hown
       |const v=>have:=Xgy v;simp only [Kj,pev] at hown;rw [this] at hown;cases hown
       |global g=>have:=X3e g X3b;simp only [Kj,pev] at hown;rw [this] at hown;cases hown
       |func f=>cases hblt:Nat.blt f 1000000<;>simp [Kj,pev,PV.ownB,hblt] at hown
      have hsr:=(h.tmps s)
      rw [hs] at hsr
      obtain ⟨o1,o2⟩:=hsr.one rfl
      have hcr:X4r Φ μ [.sl n k cs none] [a.tmps.getD s undef]:=⟨RepL.cons hsr.bare RepL.nil,by simpa using o1,by simp [PV.ownB]⟩
      obtain ⟨w',r1,r2⟩:=h.store (P:=P) hb hcr (off:=off) (by simpa using hc.2) hg
      have hsp:(Y5 bs off [.sl n k cs none])[off]? = some (.sl n k cs none):=by
       simp only [Y5]
       rw [List.append_assoc,List.getElem?_append_right (by rw [T_];omega),T_,show min off bs.length=off by omega]
       simp
      have hcell:w'.cell? ⟨g,off,none⟩=some (a.tmps.getD s undef):=by
       obtain ⟨g2,cur2,T2,q1,q2,q3,q4,q5,q6,q7⟩:=h.box j bs hb
       rw [hg] at q1;cases q1
       have hr:=run_storeCells_at P g off T2 [a.tmps.getD s undef] 0 cur2 w q2 (by simp;omega) (by simpa using o1)
       rw [Nat.add_zero] at hr
       rw [hr] at r1
       cases r1
       rw [cell_setRow_same w g off cur2 _ T2 _ q2,List.getElem?_toArray]
       rw [List.append_assoc,List.getElem?_append_right (by rw [T_];omega),T_,show min off cur2.toList.length=off by simp;omega]
       simp
      obtain ⟨ω',r3⟩:=r2.give (id:=j) (off:=off) (n:=n) (k:=k) (g:=g) (cs:=cs) (E:=E) (bs:=Y5 bs off [.sl n k cs none]) hs (by simp [X8]) hsp hg hcell
      obtain ⟨i,dd,z,g1,g2,g3,g4,g5,g6⟩:=K1 (Y9 hT ht)
      refine ⟨_,undef,w',?_, .inr ⟨rfl,rfl⟩,Φ,μ,ω',?_⟩
      ·have hsz:(a.eval (.tmp s)).cells.size=i.size:=by
        have:a.eval (.tmp s)=a.tmps.getD s undef:=rfl
        rw [this,o2]
        have h1:=hc.1
        rw [g6] at h1
        exact h1.symm
       have hcl:(a.eval (.tmp s)).cells.toList = [a.tmps.getD s undef]:=by
        have:a.eval (.tmp s)=a.tmps.getD s undef:=rfl
        rw [this,o2]
       have r1':=r1
       simp only [Array.getD_eq_getD_getElem?] at r1'
       simp [execOp,Instr.storeAt,Instr.sureAddr,hv,storeVar,Yc g1,hsz,hcl,r1']
      ·have e1:upd (upd σ.b j (some (Y5 bs off [.sl n k cs none]))) j (some ((Y5 bs off [.sl n k cs none]).set off (.sl n k cs (some E))))=upd σ.b j (some (bs.set off (.sl n k cs (some E)))):=by
        have e2:(Y5 bs off [.sl n k cs none]).set off (.sl n k cs (some E))=bs.set off (.sl n k cs (some E)):=by
         apply List.ext_getElem?
         intro q
         simp only [List.getElem?_set,Y5,A_,T_,L_,C_,List.length_nil]
         by_cases hq:off=q
         ·subst hq
          rw [if_pos rfl,if_pos rfl,if_pos O_,if_pos O_]
         ·rw [if_neg hq,if_neg hq]
          by_cases hql:q < off
          ·rw [List.append_assoc,List.getElem?_append_left (by rw [T_];omega),List.getElem?_take,if_pos hql]
          ·rw [List.getElem?_append_right (by rw [A_,T_];simp;omega),A_,T_,List.getElem?_drop]
           congr 1
           simp;omega
        rw [e2]
        funext q;simp only [X8];by_cases hq:q=j<;>simp [hq]
       simp only at r3
       rw [e1] at r3
       simp only [PS.app,Kj,X3u,hs,List.foldl_nil,List.foldl_cons] at r3 ⊢
       exact r3
     ·cases hp
    ·cases hp
   ·split at hp
    ·rename_i bs ti new hb ht hnew
     split at hp
     ·rename_i hc
      cases hp
      have hcr:=X54 (h.ev y) hnew
      obtain ⟨w',r1,r2⟩:=h.store (P:=P) hb hcr hc.2 hg
      rw [←Zh bs off new hc.2] at r2
      obtain ⟨i,dd,z,g1,g2,g3,g4,g5,g6⟩:=K1 (Y9 hT ht)
      refine ⟨_,undef,w',?_, .inr ⟨rfl,rfl⟩,Φ,μ,ω,r2⟩
      have hsz:(a.eval y).cells.size=i.size:=by
       have:=hcr.1.1
       simp only [Array.length_toList] at this
       rw [this,hc.1,g6]
      simp [execOp,Instr.storeAt,Instr.sureAddr,hv,storeVar,Yc g1,hsz,r1]
     ·cases hp
    ·cases hp
  ·cases hp
 ·rename_i t x
  obtain ⟨d,rfl⟩:=Option.isSome_iff_exists.1 (hkind.2 rfl)
  split at hp
  ·rename_i E' hE
   cases hp
   unfold X0u at hE
   split at hE
   ·rename_i j off hx
    split at hE
    ·split at hE
     ·rename_i bs hb
      split at hE
      ·rename_i n k cs E hbo
       split at hE
       ·rename_i ti ht
        split at hE
        ·rename_i hag
         cases hE
         have hxr:=h.ev x
         rw [hx] at hxr
         obtain ⟨g,hg,hv⟩:=hxr.ptr_inv
         obtain ⟨u,ω',hc,h'⟩:=h.fetch (d:=d) (hdst d rfl) hb hbo hg
         obtain ⟨i,dd,z,g1,g2,g3,g4,g5,g6⟩:=K1 (Y9 hT ht)
         have hagg:aggD dd=false:=by rw [g6] at hag;exact hag
         refine ⟨_,u,w,?_, .inl rfl,Φ,μ,ω',h'⟩
         simp [execOp,Instr.loadAt,Instr.sureAddr,hv,loadVar,X5g g2,hagg,hc]
        ·cases hE
       ·cases hE
      ·cases hE
     ·cases hE
    ·cases hE
   ·cases hE
  ·exact other E hp
 ·rename_i t len parts
  obtain ⟨d,rfl⟩:=Option.isSome_iff_exists.1 (hkind.2 rfl)
  split at hp
  ·rename_i ti ht
   split at hp
   ·rename_i e k by_ zr hk
    split at hp
    ·rename_i hle0
     obtain ⟨hle,hle2⟩:=hle0
     obtain ⟨cs,hcs,rfl⟩:=Option.map_eq_some_iff.1 hp
     obtain ⟨hu,i,z,e1,e2,e3,e4,e5,e6,e7,e8⟩:=Ys (Y9 hT ht) hk
     subst e8
     have hzr:=X5p (Φ:=Φ) (μ:=μ) (len:=len) (z:=z.cells) e5 e6 (X1y _) e7 (by intro c hc;obtain ⟨v,-,rfl⟩:=List.mem_map.1 hc;exact X56 v)
     obtain ⟨cur,r1,r2⟩:=X3g (fun i=>some (i * k,k)) _ (parts.toList.map fun (x:Nat×Operand)=>(x.1,a.eval x.2)) _ _ _ hzr S_ (Xif h parts) hcs
     have hlen:cs.length=len * k:=by
      have hl:∀(ps:List (Nat×PV)) (c0 c1:List PV),X11 (fun i=>some (i * k,k)) c0 ps=some c1→c1.length=c0.length:=by
       intro ps
       induction ps with
       |nil=>intro c0 c1 hh;simp [X11] at hh;rw [hh]
       |cons x ps ih=>
        intro c0 c1 hh
        simp only [X11] at hh
        split at hh
        ·rename_i off size new hpl hnew
         split at hh
         ·rename_i hcc
          rw [ih _ _ hh,Zh _ _ _ O_]
          simp only [Y5,A_,T_,L_];omega
         ·cases hh
        ·cases hh
      rw [hl _ _ _ hcs,←hzr.1.1];simp
     have hcl:=r2.1.1
     simp only [Array.length_toList] at hcl
     obtain ⟨Φ',ω',h',-⟩:=h.newOwn (d:=d) (hdst d rfl) (N:=len) (k:=k) (cap:=len) (L:=cs) (cur:=cur) (e:=e) hlen (by rw [H_ (by simp;omega)];exact r2.1) (Nat.le_refl _) (by
      have:len≤len * k:=Nat.le_mul_of_pos_right _ e6
      unfold maxLen;omega) O_ hle2
     refine ⟨_, .slice (some ⟨w.heap.size,0,none⟩) len len,w.alloc (.cells cur e),?_, .inl rfl,Φ',μ,ω',h'⟩
     have hnle:¬(len * k > 2 ^ 24):=O_
     simp only [execOp,Instr.buildSlice,Sem.run_bind,run_underlying hu,Result.andThen_ok,Yc e1,e3,hnle,if_false]
     by_cases hz0:len * k=0
     ·have hr0:((Array.range (len * k)).map (fun i=>z.cells[i % z.cells.size]!)) = #[]:=by rw [hz0];simp
      rw [hr0] at r1
      have hr1:(Array.map (fun (_:Nat)=>(default:Value)) (Array.range 0)) = #[]:=S_
      simp [hz0,hr1,r1,newRow]
     ·simp only [hz0,if_false,Sem.run_bind,zeroValue,typeInfo,run_program,Result.andThen_ok,e1,e2,Sem.run_pure,Array.toList_map,r1]
      rfl
    ·cases hp
   ·cases hp
  ·cases hp
 ·rename_i t l c
  obtain ⟨d,rfl⟩:=Option.isSome_iff_exists.1 (hkind.2 rfl)
  split at hp
  ·rename_i ti kx x ky y ht hx hy hb hmb
   split at hp
   ·rename_i e k by_ zr hk
    split at hp
    ·rename_i r hm
     cases hp
     unfold pmake at hm
     split at hm
     ·rename_i hc
      obtain ⟨c1,rfl,c3,c4⟩:=hc
      cases hm
      obtain ⟨hu,i,z,e1,e2,e3,e4,e5,e6,e7,e8⟩:=Ys (Y9 hT ht) hk
      subst e8
      have hzr:=X5p (Φ:=Φ) (μ:=μ) (len:=x.toNat) (z:=z.cells) e5 e6 (X1y _) e7 (by intro c hc;obtain ⟨v,-,rfl⟩:=List.mem_map.1 hc;exact X56 v)
      have h1:=h.newBox hidl hb hmb hzr.1 hzr.2.1 hzr.2.2 e
      have h2:=h1.put (d:=d) (hdst d rfl) (p:=.msl id 0 x.toNat k) (v:=.slice (some ⟨w.heap.size,0,none⟩) x.toNat x.toNat) (.msl id 0 x.toNat k _ _ (fun _=>⟨w.heap.size,by simp [X8],rfl⟩) (Nat.le_refl _) (by unfold maxLen;omega)) rfl
      refine ⟨_, .slice (some ⟨w.heap.size,0,none⟩) x.toNat x.toNat,w.alloc (.cells ((Array.range (x.toNat * k)).map (fun i=>z.cells[i % z.cells.size]!)) e),?_, .inl rfl,Φ,_,_,by rw [Array.toArray_toList] at h2;exact h2⟩
      have hxr:=h.ev l
      rw [hx] at hxr
      obtain ⟨hxv,-⟩:=hxr.val_inv
      have hyr:=h.ev c
      rw [hy] at hyr
      obtain ⟨hyv,-⟩:=hyr.val_inv
      have w1:IntKind.i64.wrap x=x:=IntWalk.i64_in x ⟨O_,O_⟩
      have n1:¬x < 0:=O_
      have p48:(2:Int) ^ 48=281474976710656:=D_
      have n2:¬((2:Int) ^ 48 < (i.bytes:Int) * x):=by rw [e4,p48];omega
      simp only [execOp,hxv,hyv,Instr.makeSlice,Sem.run_bind,run_underlying hu,Result.andThen_ok,asInt,asIntOf,typeInfo,run_program,e1,Sem.run_pure,w1]
      have n3:¬x > x:=O_
      simp only [n1,decide_false,Bool.false_or,n2,gt_iff_lt,Bool.or_self,Int.lt_irrefl,if_false,Bool.false_eq_true,run_askRoom,Result.andThen_ok,Yc e1,e3,zeroValue,typeInfo,run_program,e1,e2]
      by_cases hz0:x.toNat * k=0
      ·have hr1:(Array.map (fun (_:Nat)=>(default:Value)) (Array.range 0)) = #[]:=S_
       simp [hz0,newRow,Yc e1,e3]
       have hr2:(Array.map (fun i=>z.cells[i % z.cells.size]!) (Array.range 0)) = #[]:=S_
       rw [hr1,hr2]
      ·simp only [hz0,if_false,Sem.run_bind,Yc e1,e3,zeroValue,typeInfo,run_program,Result.andThen_ok,e1,e2,Sem.run_pure,run_askRoom]
       rfl
     ·cases hm
    ·cases hp
   ·cases hp
  ·cases hp
 ·rename_i c
  obtain ⟨callee,args,argTypes⟩:=c
  simp only at hp
  split at hp
  ·split at hp
   ·rename_i s x t t' ea et
    obtain rfl:args = #[s,x]:=by rw [←Array.toArray_toList (xs:=args),ea]
    obtain rfl:argTypes = #[t,t']:=by rw [←Array.toArray_toList (xs:=argTypes),et]
    obtain ⟨d,rfl⟩:=Option.isSome_iff_exists.1 (hkind.2 rfl)
    split at hp
    ·rename_i htt
     subst htt
     split at hp
     ·rename_i ti ht
      split at hp
      ·rename_i e k by_ zr hk
       exact Xlk h _ rfl (hdst d rfl) rfl (Y9 hT ht) hk hp
      ·cases hp
     ·cases hp
    ·cases hp
   ·cases hp
  ·exact other E hp
 ·rename_i hne1 hne2 hne3 hne4 hne5 hne6 hne7 hne8 hne9
  exact other E hp
end
section
def val:List Int→Int
 | []=>0
 |d :: r=>d % 128+128 * val r
end
section
open Go.RowKit
theorem Y2d:Xju Tryz.prog 9 (.string ⟨#[]⟩) 16:=⟨K_,rfl⟩
end
end Go.Proofs.YtmciloafahkolaaGreatDoor
