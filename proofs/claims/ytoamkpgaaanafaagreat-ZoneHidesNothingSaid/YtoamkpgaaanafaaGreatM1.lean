/- Out of: Base, PlainW, Wire, Row, Base3, Base4, Glob, PwA, PwB, PwC, PwD. -/
import Derived.Test.YtoamkpgaaanafaaGreatRows
import Derived.WalkKit
import Derived.WalkSpells
import Derived.WalkLawsBesides
import Derived.Deep.QuietTactic
import Derived.BigQuiet
import Derived.RegionTactic
import Derived.ProofKit
import Derived.OpenShut
import Derived.SizedLaws
import Derived.Lib.AppendZeros
import Derived.Lib.AppendStr
import Derived.Lib.Hide
import Derived.OrdersIn
namespace Go.Proofs.YtoamkpgaaanafaaGreat
set_option linter.unusedSimpArgs false
set_option linter.unusedVariables false
set_option linter.unnecessarySimpa false
section
open Go.RowKit
def Rd (w:World) (v:Value) (cs:List Value):Prop:=
 ∃a cap b off,v = .slice a cs.length cap∧cs.length≤cap∧cap≤maxLen∧(0 < cs.length→a=some ⟨b,off,none⟩) ∧
  ∀j u,cs[j]? = some u→w.cell? ⟨b,off+j,none⟩=some u
def Ints (w:World) (v:Value) (zs:List Int):Prop:=Rd w v (zs.map (Value.int .i64))
theorem Rd.below {w w' : World} {v:Value} {cs:List Value} (h:Rd w v cs) (hb:Below w.heap.size w w'):Rd w' v cs:=by
 obtain ⟨a,cap,b,off,h1,h2,h3,h4,h5⟩:=h
 refine ⟨a,cap,b,off,h1,h2,h3,h4,fun j u hu=>?_⟩
 have:=h5 j u hu
 rw [←this]
 exact hb.cell (World.block_lt_of_cell? _ _ this)
theorem Ints.open {w:World} {v:Value} {zs:List Int} (h:Ints w v zs):∃a cap b off,v = .slice a zs.length cap∧zs.length≤cap∧cap≤maxLen ∧
  (0 < zs.length→a=some ⟨b,off,none⟩)∧Hid (∀j x,zs[j]? = some x→w.cell? ⟨b,off+j,none⟩=some (.int .i64 x)):=by
 obtain ⟨a,cap,b,off,h1,h2,h3,h4,h5⟩:=h
 simp only [List.length_map] at h1 h2 h4
 exact ⟨a,cap,b,off,h1,h2,h3,h4,fun j x hx=>h5 j _ (by simp [hx])⟩
theorem ints_get {α:Type} (zs:List α) (k:Nat) (h:k < zs.length):∃x,zs[k]? = some x:=⟨zs[k],by simp [h]⟩
def Own (B:Nat) (E:TypeId) (w:World) (v:Value) (cs:List Value):Prop:=w.ownsRow B E 1 v cs.length cs
theorem Own.nil (B E w):Own B E w (.slice none 0 0) []:=World.ownsRow_nil w B E 1
theorem Own.rd {B E:Nat} {w:World} {v:Value} {cs:List Value} (h:Own B E w v cs):Rd w v cs:=by
 rcases h.2 with ⟨rfl,hn⟩|⟨g,cap,cur,rfl,hb,hgg,hc,hm,hs,ht⟩
 ·exact ⟨none,0,0,0,by rw [hn],by omega,by unfold maxLen;omega,fun hh=>by omega,fun j u hu=>by
   have:cs = []:=List.eq_nil_of_length_eq_zero hn
   subst this;simp at hu⟩
 ·refine ⟨_,cap,g,0,rfl,hc,hm,fun _=>rfl,fun j u hu=>?_⟩
  have:=World.ownsRow.cells h (g:=g) rfl j u hu
  rw [←this];unfold Addr.add;split<;>simp_all
theorem Own.kept {B E:Nat} {w w' : World} {v:Value} {cs:List Value} (h:Own B E w v cs) (hb:Below w.heap.size w w'):Own B E w' v cs:=by
 refine ⟨h.1,?_⟩
 rcases h.2 with hn|⟨g,cap,cur,rfl,hb1,hgg,rest⟩
 ·exact .inl hn
 ·exact .inr ⟨g,cap,cur,rfl,hb1,by rw [hb.block g (Array.getElem?_eq_some_iff.1 hgg).1];exact hgg,rest⟩
theorem Own.alloc {B E:Nat} {w:World} {v:Value} {cs:List Value} (h:Own B E w v cs) (o:Obj):Own B E (w.alloc o) v cs:=World.ownsRow.alloc h o
theorem Own.drewN {B E:Nat} {w:World} {v:Value} {cs:List Value} (h:Own B E w v cs) {n:Nat} : Own B E (w.drewN n) v cs:=h
theorem Own.drew {B E:Nat} {w:World} {v:Value} {cs:List Value} (h:Own B E w v cs):Own B E w.drew v cs:=h
structure Elem1 (P:Program) (E:TypeId) (z:Value) (bytes:Nat):Prop where
 info:(P.info? E).map (fun i=>(i.zero,i.size,i.bytes))=some (some z,1,bytes)
 one:z.cells = #[z]
theorem wp_push {P:Program} {ops:Array Oper} {rest:List Oper} {o:Oper} {a:Act} {Q:Exit→Act→World→Prop} {w0:World} (s x:Operand) (t T E bytes:TypeId) (z:Value) (he:Elem1 P E z bytes)
  (hgd:o.guard=none) (ho:o.op = .call { callee:=.builtin .append,args := #[s,x],argTypes := #[t,t] })
  (ht:P.underlying t=some (.slice E)) (B:Nat) (v u:Value) (cs:List Value) (hs:a.eval s=v) (hown:Own B E w0 v cs)
  (hx:a.eval x = .slice (some ⟨w0.heap.size,0,none⟩) 1 1) (h1:u.oneCell' = true)
  (h63:cs.length+1≤maxLen) (hbytes:(cs.length+1) * bytes≤140737488355328) (hB:B≤w0.heap.size)
  (h:∀v' w',Own B E w' v' (cs ++ [u])→Below B w0 w'→wpList P ops Q rest (a.put o.dst v') w'):wpList P ops Q (o :: rest) a (w0.alloc (.cells #[u] T)):=by
 obtain ⟨i0,hi,hz0,hz1,hz2⟩:=info_parts he.info
 refine wpList_append_own _ hgd s x t ho B E i0 z 1 bytes ht hi hz0 hz1 hz2 (by rw [he.one];rfl) (by decide) v cs.length cs hs (World.ownsRow.alloc hown _) ⟨w0.heap.size,0,none⟩ 1 1 [u] hx rfl ?_ ?_ h63 hbytes (by simp;omega) ?_
 ·intro j y hj
  match j,hj with
  |0,hj=>simp at hj;subst hj;simp [Addr.add]
 ·intro y hy;simp at hy;subst hy;exact h1
 ·intro v' w' hown' hg _
  refine h v' w' (by simpa [Own] using hown') ?_
  exact ((Below.refl _ _).alloc hB _).grown hg (by simp;omega) (fun k hk=>(World.ownsRow.lt hown k hk).1)
theorem Own.lit (w:World) (cs:List Value) (E B:Nat) (hB:B≤w.heap.size) (hm:cs.length≤maxLen) :
  Own B E (w.alloc (.cells cs.toArray E)) (.slice (some ⟨w.heap.size,0,none⟩) cs.length cs.length) cs:=
 ⟨by simp, .inr ⟨w.heap.size,cs.length,cs.toArray,rfl,hB,heap_alloc_new w _,Nat.le_refl _,hm,by simp,by simp⟩⟩
def MadeInts (E:TypeId) (w:World) (zs:List Int) (e:Ending) (w' : World):Prop:=
 ∃v,e = .returned v∧Own w.heap.size E w' v (zs.map (Value.int .i64))∧Below w.heap.size w w'
theorem Own.form {B E:Nat} {w:World} {v:Value} {cs:List Value} (h:Own B E w v cs):∃a cap,v = .slice a cs.length cap:=by
 rcases h.2 with ⟨rfl,hn⟩|⟨g,cap,cur,rfl,_⟩
 ·exact ⟨none,0,by rw [hn]⟩
 ·exact ⟨_,_,rfl⟩
theorem below_cell {w w' : World} {p:Addr} {v:Value} (h:Below w.heap.size w w') (hc:w.cell? p=some v):w'.cell? p=some v:=
 (h.cell (World.block_lt_of_cell? _ _ hc)).trans hc
theorem Own.block {B E:Nat} {w:World} {v:Value} {cs:List Value} (h:Own B E w v cs) (hne:0 < cs.length):∃g cap,v = .slice (some ⟨g,0,none⟩) cs.length cap∧B≤g∧g < w.heap.size ∧
  Hid (∀(j:Nat) (u:Value),cs[j]? = some u→w.cell? ⟨g,j,none⟩=some u)∧Hid (∀j:Nat,w.frozen? ⟨g,j,none⟩=false) ∧
  Hid (∀(j:Nat) (u:Value),Own B E (w.setCell ⟨g,j,none⟩ u) (.slice (some ⟨g,0,none⟩) cs.length cap) (cs.set j u)):=by
 rcases h.2 with ⟨rfl,hn⟩|⟨g,cap,cur,rfl,hb,hgg,hc,hm,hs,ht⟩
 ·omega
 ·refine ⟨g,cap,rfl,hb,(Array.getElem?_eq_some_iff.1 hgg).1,?_,?_,?_⟩
  ·intro j u hu
   have:=World.ownsRow.cells h (g:=g) rfl j u hu
   rw [←this];unfold Addr.add;split<;>simp_all
  ·intro j;simp [World.frozen?,hgg]
  ·intro j u
   refine ⟨by simp, .inr ⟨g,cap,cur.setIfInBounds j u,by simp,hb,?_,by simpa using hc,hm,by simpa using hs,?_⟩⟩
   ·simp [World.setCell,Array.getElem?_modify,hgg]
   ·simp only [List.length_set,Nat.mul_one] at ht ⊢
    rw [Array.toList_setIfInBounds,List.take_set,ht]
theorem Hid.mk {p:Prop} (h:p):Hid p:=h
theorem ret_bool {a b:Bool} (h:a=b):Ending.returned (.bool a) = .returned (.bool b):=by rw [h]
theorem ret_int {k:IntKind} {a b:Int} (h:a=b):Ending.returned (.int k a) = .returned (.int k b):=by rw [h]
def Still (w w' : World):Prop:=∃n,w' = w.drewN n
theorem Still.refl (w:World):Still w w:=⟨0,rfl⟩
theorem Still.one (w:World) (n:Nat):Still w (w.drewN n):=⟨n,rfl⟩
theorem Still.two (w:World) (n m:Nat):Still w ((w.drewN n).drewN m):=⟨_,World.drewN_drewN _ _ _⟩
theorem Still.below {w w' : World} (h:Still w w') (B:Nat):Below B w w':=by
 obtain ⟨n,rfl⟩:=h
 exact ⟨rfl,rfl,rfl,Nat.le_refl _,fun _ _=>rfl⟩
end
section
def zig (n:Int):Nat:=if 0≤n then (2 * n).toNat else (-2 * n - 1).toNat
theorem zig_lt (n:Int) (h1 : -9223372036854775808≤n) (h2:n≤9223372036854775807):zig n < 18446744073709551616:=by unfold zig;split<;>omega
def leb (z:Nat):List Int:=if z < 128 then [(z:Int)] else ((z % 128+128:Nat):Int) :: leb (z / 128)
decreasing_by omega
theorem leb_small (z:Nat) (h:z < 128):leb z = [(z:Int)]:=by rw [leb,if_pos h]
theorem leb_big (z:Nat) (h:128≤z):leb z=((z % 128+128:Nat):Int) :: leb (z / 128):=by rw [leb,if_neg (by omega)]
theorem leb_pos (z:Nat):1≤(leb z).length:=by rw [leb];split<;>simp
theorem leb_len (k:Nat):∀z,z < 128 ^ (k+1)→(leb z).length≤k+1:=by
 induction k with
 |zero=>intro z h;rw [leb_small z (by simpa using h)];simp
 |succ k ih=>
  intro z h
  by_cases g:z < 128
  ·rw [leb_small z g];simp
  ·rw [leb_big z (by omega)]
   have:=ih (z / 128) (by rw [Nat.pow_succ] at h;exact Nat.div_lt_of_lt_mul (by omega))
   simp;omega
def intB (n:Int):List Int:=leb (zig n)
theorem leb64 (z:Nat) (h:z < 18446744073709551616):(leb z).length≤10:=leb_len 9 z (by have:128 ^ (9+1)=1180591620717411303424:=rfl;omega)
end
section
open Go.RowKit
theorem elemByte:Elem1 Tryz.prog 5 (.int .u8 0) 1:=⟨by kernel_rfl,rfl⟩
def MadeBytes (w:World) (bs:List Int) (e:Ending) (w' : World):Prop:=
 ∃v,e = .returned v∧Own w.heap.size 5 w' v (bs.map (Value.int .u8))∧Below w.heap.size w w'
def Bytes (w:World) (v:Value) (bs:List Int):Prop:=Rd w v (bs.map (Value.int .u8))
theorem Bytes.open {w:World} {v:Value} {zs:List Int} (h:Bytes w v zs):∃a cap b off,v = .slice a zs.length cap∧zs.length≤cap∧cap≤maxLen ∧
  (0 < zs.length→a=some ⟨b,off,none⟩)∧Hid (∀(j:Nat) (x:Int),zs[j]? = some x→w.cell? ⟨b,off+j,none⟩=some (.int .u8 x)):=by
 obtain ⟨a,cap,b,off,h1,h2,h3,h4,h5⟩:=h
 simp only [List.length_map] at h1 h2 h4
 exact ⟨a,cap,b,off,h1,h2,h3,h4,fun j x hx=>h5 j _ (by simp [hx])⟩
def Byte (bs:List Int):Prop:=∀(k:Nat) (c:Int),bs[k]? = some c→0≤c∧c < 256
set_option maxRecDepth 100000 in
set_option maxHeartbeats 400000 in
theorem refInt (n:Int) (w:World) (h1 : -9223372036854775808≤n) (h2:n≤9223372036854775807):Calls Tryz.prog 211 #[.int .i64 n] w (MadeBytes w (intB n)):=by
 have hz:=zig_lt n h1 h2
 have hlen:=leb64 _ hz
 by_cases hn:n < 0
 all_goals
  go_enter Tryz.func211,Tryz.ntmps211
  go_wp2
  go_loopw [3,4] (fun z o wr=>∃(q:Nat) (out:List Int),q < 18446744073709551616∧z = .int .u64 q∧out.length≤9∧Own w.heap.size 5 wr o (out.map (Value.int .u8))∧Below w.heap.size w wr∧Hid (intB n=out ++ leb q)) (fun z _ _=>(intOf z).toNat)
  case atStart=>exact ⟨zig n,[],hz,by congr 1;simp only [IntKind.wrap_u64,IntKind.wrap_i64,zig];split<;>omega,by simp,Own.nil _ _ _,Below.refl _ _,rfl⟩
  case round=>
   obtain ⟨q,out,hq,rfl,ho,hown,hb,hh⟩:=hrel
   have HB:=Hid.mk hb
   clear hb
   have hb2:=HB.out.size
   by_cases g:127 < q
   ·have H:=Hid.mk (leb_big q (by omega))
    have hl:out.length+1≤9:=by
     have e:=congrArg List.length hh.out
     rw [H.out] at e
     have:=leb_pos (q / 128)
     simp at e
     unfold intB at e
     omega
    go_wp2_with (at_builtin;refine wp_push (.tmp 17) (.tmp 22) 92 _ 5 1 _ elemByte rfl rfl Tryz.underlying92 w.heap.size _ _ _ rfl hown rfl rfl (by simp [maxLen];omega) (by simp;omega) hb2 ?_;intro v' w' hown' hb')
    go_roundw
    case rel=>exact ⟨q / 128,out ++ [((q % 128+128:Nat):Int)],by omega,by go_num,by simpa using hl,by simpa using hown',HB.out.trans hb',by rw [Hid,hh.out,H.out];simp⟩
    case measure=>simp [intOf];omega
   ·have H:=Hid.mk (leb_small q (by omega))
    go_wp2_with (at_builtin;refine wp_push (.tmp 26) (.tmp 29) 92 _ 5 1 _ elemByte rfl rfl Tryz.underlying92 w.heap.size _ _ _ rfl hown rfl rfl (by simp [maxLen];omega) (by simp;omega) hb2 ?_;intro v' w' hown' hb')
    go_ret
    exact ⟨_,rfl,by rw [hh.out,H.out];simpa using hown',HB.out.trans hb'⟩
end
section
open Go.ChangeShapes Go.WideShapes Go.ChangeAt Go.RowKit
theorem own:ownKnob Tryz.prog.godebug=none:=by kernel_rfl
theorem laidOut:laidOutB Tryz.prog=true:=by kernel_rfl
theorem trodAll_below {H:Type} {enc:TypeId×Value→H} {P:Program} (hl:laidOutB P=true) {W W' : World} (hb:Below W.heap.size W W') :
  ∀(ts:List TypeId) (vs:List Value) (ds:List (DataW H)) (ps:List MemPlace),ts.all (fun t=>P.readableRec t && decide (t < P.types.size))=true→DataW.TrodAll enc P W 0 (fun _=>true) true ts vs ds ps →
   (∀x∈ps,x.block < W.heap.size)→DataW.TrodAll enc P W' 0 (fun b=>decide (b < W.heap.size)) true ts vs ds ps
 | [],[],[],ps,_,h,_=>h
 |t :: ts,v :: vs,d :: ds,ps,hr,h,hlt=>by
  obtain ⟨p,q,h1,h2,rfl⟩:=h
  simp only [List.all_cons,Bool.and_eq_true,decide_eq_true_eq] at hr
  exact ⟨p,q,Below.trod hl hr.1.1 hr.1.2 h1 hb (fun x hx=>hlt x (List.mem_append_left _ hx)),trodAll_below hl hb ts vs ds q hr.2 h2 (fun x hx=>hlt x (List.mem_append_right _ hx)),rfl⟩
 | [],[],_ :: _,_,_,h,_=>by simp [DataW.TrodAll] at h
 | [],_ :: _,_,_,_,h,_=>by simp [DataW.TrodAll] at h
 |_ :: _,[],_,_,_,h,_=>by simp [DataW.TrodAll] at h
 |_ :: _,_ :: _,[],_,_,h,_=>by simp [DataW.TrodAll] at h
theorem post_law {H:Type} {enc:TypeId×Value→H} {P:Program} (hl:laidOutB P=true) {f:Func} {s:ChangeSpec} {W W' : World} {args:Array Value} {ds:List (DataW H)} {before:List MemPlace} {tb:TypeId}
  (htb:P.underlying tb=some .bool) (hres:f.resultTypes = #[tb]) (hvars:s.vars = []) (hread:f.params.toList.all (fun t=>P.readableRec t && decide (t < P.types.size))=true)
  (hW:DataW.Whole enc P f.params.toList s.vars false W args.toList ds [] before)
  (hr:(s.fn H (ds ++ [])).results = [.lit (.bool true)]) (ha:(s.fn H (ds ++ [])).args=ds) (hv:(s.fn H (ds ++ [])).vars = [])
  (hb:Below W.heap.size W W'):s.post enc P f false true false false W args (.bool true) W':=by
 have hW':=hW
 obtain ⟨p,q,hA,hV,rfl,_,_⟩:=hW
 rw [hvars] at hV
 obtain ⟨_,rfl⟩:=trodVars_none hV
 refine ⟨ds,[],p ++ [],[],p,[],hW',?_,?_,?_,hb.frame _,fun h=>by cases h⟩
 ·rw [hr,hres]
  exact trodAll_cons_mk (shut_bool htb true) trodAll_mk0
 ·rw [ha]
  exact trodAll_below hl hb _ _ _ _ hread hA (fun x hx=>by simpa using hW'.lt x (by simp [hx]))
 ·rw [hv,hvars];rfl
end
section
open Go.RowKit
theorem wp_append {P:Program} {ops:Array Oper} {rest:List Oper} {o:Oper} {a:Act} {Q:Exit→Act→World→Prop} {w:World} (s x:Operand) (t E:TypeId) (bytes:Nat) (z:Value) (he:Elem1 P E z bytes)
  (hgd:o.guard=none) (ho:o.op = .call { callee:=.builtin .append,args := #[s,x],argTypes := #[t,t] })
  (ht:P.underlying t=some (.slice E)) (B:Nat) (v u:Value) (cs cs2:List Value) (hs:a.eval s=v) (hown:Own B E w v cs)
  (hx:a.eval x=u) (hr:Rd w u cs2) (hne:0 < cs2.length) (h1:∀c∈cs2,c.oneCell' = true)
  (h63:cs.length+cs2.length≤maxLen) (hbytes:(cs.length+cs2.length) * bytes≤140737488355328) (hB:B≤w.heap.size)
  (h:∀v' w',Own B E w' v' (cs ++ cs2)→Below B w w'→wpList P ops Q rest (a.put o.dst v') w'):wpList P ops Q (o :: rest) a w:=by
 obtain ⟨i0,hi,hz0,hz1,hz2⟩:=info_parts he.info
 obtain ⟨aa,cap,b,off,rfl,r2,r3,r4,r5⟩:=hr
 have r4':=r4 hne
 subst r4'
 refine wpList_append_own _ hgd s x t ho B E i0 z 1 bytes ht hi hz0 hz1 hz2 (by rw [he.one];rfl) (by decide) v cs.length cs hs hown ⟨b,off,none⟩ cs2.length cap cs2 hx (by simp) ?_ h1 h63 hbytes hB ?_
 ·intro j y hj
  rw [Addr.add_lit];exact r5 j y hj
 ·intro v' w' hown' hg _
  refine h v' w' (by simpa [Own] using hown') ?_
  exact (Below.refl _ _).grown hg hB (fun k hk=>(World.ownsRow.lt hown k hk).1)
theorem run_append0 {P:Program} (w:World) (t ty e:TypeId) (i:TypeInfo) (ht:P.underlying t=some (.slice e)) (hi:P.info? e=some i) (a a2:Option Addr) (n c c2:Nat) (hnc:n≤c) :
  (Builtin.append_ #[t,t] ty #[.slice a n c, .slice a2 0 c2]).run P w = .ok (.slice a n c) w:=by
 cases a<;>cases a2<;>simp [Builtin.append_,run_underlying ht,sizeOf,typeInfo,hi,Builtin.lenOf,hnc,Builtin.firstCells,loadCells,loadCellsFrom,storeCells]
theorem wp_append0 {P:Program} {ops:Array Oper} {rest:List Oper} {o:Oper} {a:Act} {Q:Exit→Act→World→Prop} {w:World} (s x:Operand) (t E:TypeId) (i:TypeInfo) (hi:P.info? E=some i)
  (hgd:o.guard=none) (ho:o.op = .call { callee:=.builtin .append,args := #[s,x],argTypes := #[t,t] })
  (ht:P.underlying t=some (.slice E)) (b b2:Option Addr) (n c c2:Nat) (hs:a.eval s = .slice b n c) (hx:a.eval x = .slice b2 0 c2) (hnc:n≤c)
  (h:wpList P ops Q rest (a.put o.dst (.slice b n c)) w):wpList P ops Q (o :: rest) a w:=
 Lib.wpList_append_run w hgd s x t t ho _ _ hs hx _ _ (run_append0 w t _ E i ht hi b b2 n c c2 hnc) h
theorem Own.cap {B E:Nat} {w:World} {v:Value} {cs:List Value} (h:Own B E w v cs):∃a c,v = .slice a cs.length c∧cs.length≤c:=by
 rcases h.2 with ⟨rfl,hn⟩|⟨g,cap,cur,rfl,hb,hgg,hc,_⟩
 ·exact ⟨none,0,by rw [hn],by omega⟩
 ·exact ⟨_,cap,rfl,hc⟩
theorem wp_appendR {P:Program} {ops:Array Oper} {rest:List Oper} {o:Oper} {a:Act} {Q:Exit→Act→World→Prop} {w:World} (s x:Operand) (t E:TypeId) (bytes:Nat) (z:Value) (he:Elem1 P E z bytes)
  (hgd:o.guard=none) (ho:o.op = .call { callee:=.builtin .append,args := #[s,x],argTypes := #[t,t] })
  (ht:P.underlying t=some (.slice E)) (B:Nat) (v u:Value) (cs cs2:List Value) (hs:a.eval s=v) (hown:Own B E w v cs)
  (hx:a.eval x=u) (hr:Rd w u cs2) (h1:∀c∈cs2,c.oneCell' = true)
  (h63:cs.length+cs2.length≤maxLen) (hbytes:(cs.length+cs2.length) * bytes≤140737488355328) (hB:B≤w.heap.size)
  (h:∀v' w',Own B E w' v' (cs ++ cs2)→Below B w w'→wpList P ops Q rest (a.put o.dst v') w'):wpList P ops Q (o :: rest) a w:=by
 by_cases hne:0 < cs2.length
 ·exact wp_append s x t E bytes z he hgd ho ht B v u cs cs2 hs hown hx hr hne h1 h63 hbytes hB h
 ·obtain rfl:cs2 = []:=List.eq_nil_of_length_eq_zero (by omega)
  obtain ⟨i0,hi,-⟩:=info_parts he.info
  obtain ⟨b2,c2,-,-,rfl,-⟩:=hr
  obtain ⟨b1,c1,rfl,hc⟩:=hown.cap
  refine wp_append0 s x t E i0 hi hgd ho ht b1 b2 _ c1 c2 hs hx hc (h _ w (by simpa using hown) (Below.refl _ _))
theorem wp_appendStr {P:Program} {ops:Array Oper} {rest:List Oper} {o:Oper} {a:Act} {Q:Exit→Act→World→Prop} {w:World} (s x:Operand) (t ts E:TypeId) (he:Elem1 P E (.int .u8 0) 1)
  (hgd:o.guard=none) (ho:o.op = .call { callee:=.builtin .append,args := #[s,x],argTypes := #[t,ts] })
  (ht:P.underlying t=some (.slice E)) (hts:P.underlying ts=some .string) (B:Nat) (v:Value) (cs:List Value) (st:ByteArray) (hs:a.eval s=v) (hown:Own B E w v cs)
  (hx:a.eval x = .string st) (h63:cs.length+st.size≤1000000000000) (hB:B≤w.heap.size)
  (h:∀v' w',Own B E w' v' (cs ++ Lib.strCells st)→Below B w w'→wpList P ops Q rest (a.put o.dst v') w'):wpList P ops Q (o :: rest) a w:=by
 obtain ⟨i0,hi,hz0,hz1,hz2⟩:=info_parts he.info
 refine Lib.wpList_append_own_string w hgd s x t ts ho B E i0 ht hts hi hz0 hz1 hz2 v cs.length cs hs hown st hx (by unfold maxLen;omega) (by omega) hB ?_
 intro v' w' hown' hg _
 refine h v' w' (by simpa [Own,Lib.strCells_length] using hown') ?_
 exact (Below.refl _ _).grown hg hB (fun k hk=>(World.ownsRow.lt hown k hk).1)
def OwnS (B E k:Nat) (w:World) (v:Value) (rows:List (List Value)):Prop:=w.ownsRow B E k v rows.length rows.flatten∧∀r∈rows,r.length=k
theorem OwnS.nil (B E k:Nat) (w:World):OwnS B E k w (.slice none 0 0) []:=⟨World.ownsRow_nil w B E k,fun r hr=>by simp at hr⟩
theorem OwnS.kept {B E k:Nat} {w w' : World} {v:Value} {rows:List (List Value)} (h:OwnS B E k w v rows) (hb:Below w.heap.size w w'):OwnS B E k w' v rows:=by
 refine ⟨⟨h.1.1,?_⟩,h.2⟩
 rcases h.1.2 with hn|⟨g,cap,cur,rfl,hb1,hgg,rest⟩
 ·exact .inl hn
 ·exact .inr ⟨g,cap,cur,rfl,hb1,by rw [hb.block g (Array.getElem?_eq_some_iff.1 hgg).1];exact hgg,rest⟩
theorem OwnS.form {B E k:Nat} {w:World} {v:Value} {rows:List (List Value)} (h:OwnS B E k w v rows):∃a cap,v = .slice a rows.length cap:=by
 rcases h.1.2 with ⟨rfl,hn⟩|⟨g,cap,cur,rfl,_⟩
 ·exact ⟨none,0,by rw [hn]⟩
 ·exact ⟨_,_,rfl⟩
theorem OwnS.cap {B E k:Nat} {w:World} {v:Value} {rows:List (List Value)} (h:OwnS B E k w v rows):∃a cap,v = .slice a rows.length cap∧rows.length≤cap:=by
 rcases h.1.2 with ⟨rfl,hn⟩|⟨g,cap,cur,rfl,hb,hgg,hc,_⟩
 ·exact ⟨none,0,by rw [hn],by omega⟩
 ·exact ⟨_,cap,rfl,hc⟩
theorem flat_getS {α:Type} (k:Nat):∀(rows:List (List α)),(∀r∈rows,r.length=k)→∀(i j:Nat) (r:List α) (u:α),rows[i]? = some r→r[j]? = some u→rows.flatten[i * k+j]? = some u
 | [],_,i,j,r,u,h,_=>by simp at h
 |x :: xs,hk,0,j,r,u,h,hu=>by
  simp at h;subst h
  have hj:j < x.length:=(List.getElem?_eq_some_iff.1 hu).1
  rw [List.flatten_cons,Nat.zero_mul,Nat.zero_add,List.getElem?_append_left hj]
  exact hu
 |x :: xs,hk,i+1,j,r,u,h,hu=>by
  have hx:x.length=k:=hk x (by simp)
  rw [List.flatten_cons,List.getElem?_append_right (by rw [hx,Nat.succ_mul];omega),hx,show (i+1) * k+j - k=i * k+j by rw [Nat.succ_mul];omega]
  exact flat_getS k xs (fun r hr=>hk r (by simp [hr])) i j r u (by simpa using h) hu
theorem OwnS.cells {B E k:Nat} {w:World} {v:Value} {rows:List (List Value)} (h:OwnS B E k w v rows):∃a cap b off,v = .slice a rows.length cap∧rows.length≤cap∧cap≤maxLen∧(0 < rows.length→a=some ⟨b,off,none⟩) ∧
  ∀i j r u,rows[i]? = some r→r[j]? = some u→w.cell? ⟨b,off+i * k+j,none⟩=some u:=by
 rcases h.1.2 with ⟨rfl,hn⟩|⟨g,cap,cur,rfl,hb,hgg,hc,hm,hs,ht⟩
 ·exact ⟨none,0,0,0,by rw [hn],by omega,by unfold maxLen;omega,fun hh=>by omega,fun i j r u hr hu=>by
   have:rows = []:=List.eq_nil_of_length_eq_zero hn
   subst this;simp at hr⟩
 ·refine ⟨_,cap,g,0,rfl,hc,hm,fun _=>rfl,fun i j r u hr hu=>?_⟩
  have:=World.ownsRow.cells h.1 (g:=g) rfl (i * k+j) u (flat_getS k rows h.2 i j r u hr hu)
  rw [←this];unfold Addr.add;split<;>simp_all
def globTab:List (Nat×IntKind×List Int) := []
inductive PV where
 |undef
 |val (v:Value)
 |nilsl
 |sl (n k:Nat) (cs:List PV) (own:Option TypeId)
 |ptr (id off:Nat)
 |msl (id off n k:Nat)
 |ep (cs:List PV) (off:Nat)
 |fn (f:FuncId) (caps:List PV)
 |agg (cs:List PV)
 |tup (vs:List PV)
 |mref (id:Nat)
 deriving Inhabited
def yieldB:Fn→Array Value→Array Value→Bool
 | .yield _,a,b=>a.isEmpty && b.isEmpty
 |_,_,_=>false
def plainV:Value→Bool
 | .bool _ | .int _ _ | .string _ | .nilFunc | .nilIface | .pointer none | .map none=>true
 | .func f a b=>yieldB f a b
 |_=>false
theorem plainV_one {v:Value} (h:plainV v=true):v.oneCell' = true∧v.cells = #[v]:=by
 cases v<;>simp_all [plainV,Value.oneCell',Value.cells]
abbrev Imm:=Nat→Nat→Option Value
def unB (f:Nat):Nat:=f - 1000000
def fnV (f:Nat) (us:Array Value):Value:=if f < 1000000 then .func (.func f) #[] us else .func (.func (unB f)) us #[]
theorem fnV_func (f:Nat) (us:Array Value):∃n p q,fnV f us = .func (.func n) p q:=by unfold fnV;split<;>exact ⟨_,_,_,rfl⟩
inductive Rep (Φ:Imm) (μ:Nat→Option Nat):PV→Value→Prop
 |undef (v:Value):Rep Φ μ .undef v
 |val (v:Value) (h:plainV v=true):Rep Φ μ (.val v) v
 |nilsl:Rep Φ μ .nilsl (.slice none 0 0)
 |sl0 (k:Nat) (own:Option TypeId) (a:Option Addr) (cap:Nat) (h:cap≤maxLen):Rep Φ μ (.sl 0 k [] own) (.slice a 0 cap)
 |sl (n k:Nat) (cs:List PV) (own:Option TypeId) (b off cap:Nat) (us:Nat→Value) (h1:cs.length=n * k) (h2:n≤cap) (h3:cap≤maxLen)
   (hp:∀j,j < cs.length→Φ b (off+j)=some (us j)) (hr:∀j c,cs[j]? = some c→Rep Φ μ c (us j)):Rep Φ μ (.sl n k cs own) (.slice (some ⟨b,off,none⟩) n cap)
 |ptr (id off g:Nat) (h:μ id=some g):Rep Φ μ (.ptr id off) (.pointer (some ⟨g,off,none⟩))
 |msl (id off n k:Nat) (a:Option Addr) (cap:Nat) (h:0 < n→∃g,μ id=some g∧a=some ⟨g,off,none⟩) (h2:n≤cap) (h3:cap≤maxLen):Rep Φ μ (.msl id off n k) (.slice a n cap)
 |ep (cs:List PV) (off b o:Nat) (us:Nat→Value) (hp:∀j,j < cs.length→Φ b (o+j)=some (us j)) (hr:∀j c,cs[j]? = some c→Rep Φ μ c (us j)) :
   Rep Φ μ (.ep cs off) (.pointer (some ⟨b,o+off,none⟩))
 |fn (f:FuncId) (cs:List PV) (us:Nat→Value) (hr:∀j c,cs[j]? = some c→Rep Φ μ c (us j)):Rep Φ μ (.fn f cs) (fnV f ((List.range cs.length).map us).toArray)
 |agg (cs:List PV) (us:Nat→Value) (hr:∀j c,cs[j]? = some c→Rep Φ μ c (us j)):Rep Φ μ (.agg cs) (.agg ((List.range cs.length).map us).toArray)
 |tup (cs:List PV) (us:Nat→Value) (hr:∀j c,cs[j]? = some c→Rep Φ μ c (us j)):Rep Φ μ (.tup cs) (.tuple ((List.range cs.length).map us).toArray)
 |mref (id g:Nat) (h:μ id=some g):Rep Φ μ (.mref id) (.map (some g))
theorem Rep.mono {Φ Φ' : Imm} {μ μ' : Nat→Option Nat} (hΦ:∀b o u,Φ b o=some u→Φ' b o=some u) (hμ:∀i g,μ i=some g→μ' i=some g) {p:PV} {v:Value} (h:Rep Φ μ p v):Rep Φ' μ' p v:=by
 induction h with
 |undef v=>exact .undef v
 |val v h=>exact .val v h
 |nilsl=>exact .nilsl
 |sl0 k own a cap h=>exact .sl0 k own a cap h
 |sl n k cs own b off cap us h1 h2 h3 hp hr ih=>exact .sl n k cs own b off cap us h1 h2 h3 (fun j hj=>hΦ _ _ _ (hp j hj)) ih
 |ptr id off g h=>exact .ptr id off g (hμ _ _ h)
 |msl id off n k a cap h h2 h3=>exact .msl id off n k a cap (fun hn=>by obtain ⟨g,h1,h4⟩:=h hn;exact ⟨g,hμ _ _ h1,h4⟩) h2 h3
 |ep cs off b o us hp hr ih=>exact .ep cs off b o us (fun j hj=>hΦ _ _ _ (hp j hj)) ih
 |fn f cs us hr ih=>exact .fn f cs us ih
 |agg cs us hr ih=>exact .agg cs us ih
 |tup cs us hr ih=>exact .tup cs us ih
 |mref id g h=>exact .mref id g (hμ _ _ h)
theorem Rep.nilsl_inv {Φ:Imm} {μ:Nat→Option Nat} {v:Value} (h:Rep Φ μ .nilsl v):v = .slice none 0 0:=by cases h;rfl
def PV.bare:PV→PV
 | .sl n k cs _=>.sl n k cs none
 |p=>p
def PV.ownB:PV→Bool
 | .sl _ _ _ (some _)=>true
 |_=>false
theorem PV.bare_own (p:PV):p.bare.ownB=false:=by cases p<;>simp [PV.bare,PV.ownB]
theorem PV.bare_bare (p:PV):p.bare.bare=p.bare:=by cases p<;>rfl
theorem PV.bare_of (p:PV) (h:p.ownB=false):p.bare=p:=by
 cases p with
 |sl n k cs own=>cases own<;>simp_all [PV.bare,PV.ownB]
 |_=>rfl
theorem Rep.bare {Φ:Imm} {μ:Nat→Option Nat} {p:PV} {v:Value} (h:Rep Φ μ p v):Rep Φ μ p.bare v:=by
 cases h with
 |sl0 k own a cap h=>exact .sl0 k none a cap h
 |sl n k cs own b off cap us h1 h2 h3 hp hr=>exact .sl n k cs none b off cap us h1 h2 h3 hp hr
 |undef v=>exact .undef v
 |val v h=>exact .val v h
 |nilsl=>exact .nilsl
 |ptr id off g h=>exact .ptr id off g h
 |msl id off n k a cap h h2 h3=>exact .msl id off n k a cap h h2 h3
 |ep cs off b o us hp hr=>exact .ep cs off b o us hp hr
 |fn f cs us hr=>exact .fn f cs us hr
 |agg cs us hr=>exact .agg cs us hr
 |tup cs us hr=>exact .tup cs us hr
 |mref id g h=>exact .mref id g h
inductive Low:PV→Prop
 |undef:Low .undef
 |val (v:Value):Low (.val v)
 |nilsl:Low .nilsl
 |sl (n k:Nat) (cs:List PV) (own:Option TypeId) (h:∀c∈cs,Low c):Low (.sl n k cs own)
 |ep (cs:List PV) (off:Nat) (h:∀c∈cs,Low c):Low (.ep cs off)
 |fn (f:FuncId) (cs:List PV) (h:∀c∈cs,Low c):Low (.fn f cs)
 |agg (cs:List PV) (h:∀c∈cs,Low c):Low (.agg cs)
 |tup (cs:List PV) (h:∀c∈cs,Low c):Low (.tup cs)
theorem mem_of_get {α:Type} {l:List α} {j:Nat} {c:α} (h:l[j]? = some c):c∈l:=List.mem_of_getElem? h
theorem Rep.low {Φ:Imm} {μ μ' : Nat→Option Nat} {p:PV} {v:Value} (h:Rep Φ μ p v) (hl:Low p):Rep Φ μ' p v:=by
 induction h with
 |undef v=>exact .undef v
 |val v h=>exact .val v h
 |nilsl=>exact .nilsl
 |sl0 k own a cap h=>exact .sl0 k own a cap h
 |sl n k cs own b off cap us h1 h2 h3 hp hr ih=>cases hl with|sl _ _ _ _ hl=>exact .sl n k cs own b off cap us h1 h2 h3 hp (fun j c hj=>ih j c hj (hl c (mem_of_get hj)))
 |ptr id off g h=>cases hl
 |msl id off n k a cap h h2 h3=>cases hl
 |ep cs off b o us hp hr ih=>cases hl with|ep _ _ hl=>exact .ep cs off b o us hp (fun j c hj=>ih j c hj (hl c (mem_of_get hj)))
 |fn f cs us hr ih=>cases hl with|fn _ _ hl=>exact .fn f cs us (fun j c hj=>ih j c hj (hl c (mem_of_get hj)))
 |agg cs us hr ih=>cases hl with|agg _ hl=>exact .agg cs us (fun j c hj=>ih j c hj (hl c (mem_of_get hj)))
 |tup cs us hr ih=>cases hl with|tup _ hl=>exact .tup cs us (fun j c hj=>ih j c hj (hl c (mem_of_get hj)))
 |mref id g h=>cases hl
inductive Flat:PV→Prop
 |undef:Flat .undef
 |val (v:Value):Flat (.val v)
 |nilsl:Flat .nilsl
 |agg (cs:List PV) (h:∀c∈cs,Flat c):Flat (.agg cs)
 |tup (cs:List PV) (h:∀c∈cs,Flat c):Flat (.tup cs)
inductive PMap where
 |map (es:List (Nat×PV×PV)) (clock:Nat)
 |iter (mid since:Nat) (seen:List Nat) (last:Nat)
 deriving Inhabited
structure PS where
 t:Nat→PV
 b:Nat→Option (List PV)
 m:Nat→Option PMap
def upd {α:Type} (f:Nat→α) (i:Nat) (x:α) (j:Nat):α:=cond (Nat.beq j i) x (f j)
theorem upd_if {α:Type} (f:Nat→α) (i:Nat) (x:α) (j:Nat):upd f i x j=if j=i then x else f j:=by
 unfold upd
 by_cases h:j=i
 ·subst h;simp
 ·have:Nat.beq j i=false:=by
   cases hb:Nat.beq j i with
   |false=>rfl
   |true=>exact absurd (Nat.eq_of_beq_eq_true hb) h
  rw [this,if_neg h];rfl
theorem upd_same {α:Type} (f:Nat→α) (i:Nat) (x:α):upd f i x i=x:=by simp [upd_if]
theorem upd_ne {α:Type} (f:Nat→α) {i j:Nat} (x:α) (h:j≠i):upd f i x j=f j:=by simp [upd_if,h]
theorem upd_comm {α:Type} (f:Nat→α) {i j:Nat} (x y:α) (h:i≠j):upd (upd f i x) j y=upd (upd f j y) i x:=by
 funext k;simp only [upd_if];by_cases h1:k=i<;>by_cases h2:k=j<;>simp_all
def PS.put (σ:PS) (d:Nat) (p:PV):PS:={ σ with t:=upd σ.t d p }
inductive Who where
 |box (id:Nat)
 |tmp (t:Nat)
 |cell (id off:Nat)
 deriving DecidableEq
def GlobOK (Φ:Imm):Prop:=∀x∈globTab,∀j z,x.2.2[j]? = some z→Φ x.1 j=some (.int x.2.1 z)
def globPV (g:Nat):List (Nat×IntKind×List Int)→PV
 | []=>.undef
 |(g',k,zs) :: l=>cond (Nat.beq g g') (.ep (zs.map fun z=>.val (.int k z)) 0) (globPV g l)
theorem globPV_rep {Φ:Imm} {μ:Nat→Option Nat} {g:Nat} : ∀(l:List (Nat×IntKind×List Int)),(∀x∈l,∀j z,x.2.2[j]? = some z→Φ x.1 j=some (.int x.2.1 z))→Rep Φ μ (globPV g l) (.pointer (some ⟨g,0,none⟩))
 | [],_=>.undef _
 |x :: l,h=>by
  unfold globPV
  cases hb:Nat.beq g x.1 with
  |false=>exact globPV_rep l fun y hy=>h y (List.mem_cons_of_mem _ hy)
  |true=>
   have e:=Nat.eq_of_beq_eq_true hb
   subst e
   refine Rep.ep (Φ:=Φ) (μ:=μ) _ 0 x.1 0 (fun j=>.int x.2.1 (x.2.2.getD j 0)) (fun j hj=>?_) (fun j c hc=>?_)
   ·have hj' : j < x.2.2.length:=by simpa using hj
    rw [Nat.zero_add]
    refine h x (List.mem_cons_self ..) j _ ?_
    rw [List.getD_eq_getElem?_getD,List.getElem?_eq_getElem hj'];rfl
   ·rw [List.getElem?_map] at hc
    cases hz:x.2.2[j]? with
    |none=>rw [hz] at hc;cases hc
    |some z=>
     rw [hz] at hc
     simp only [Option.map_some,Option.some.injEq] at hc
     subst hc
     rw [List.getD_eq_getElem?_getD,hz]
     exact .val _ rfl
theorem globPV_own (g:Nat):∀l,(globPV g l).ownB=false
 | []=>rfl
 |x :: l=>by unfold globPV;cases Nat.beq g x.1 with
  |false=>exact globPV_own g l
  |true=>rfl
def isI64:Value→Bool
 | .int .i64 _=>true
 |_=>false
def Mix (Φ:Imm) (g:Nat):Prop:=∀o u,Φ g o=some u→∃o' u',Φ g o' = some u'∧isI64 u' = false
theorem mix_all {Φ:Imm} {g:Nat} (h:∀o u,Φ g o=some u→isI64 u=false):Mix Φ g:=fun o u e=>⟨o,u,e,h o u e⟩
structure Ent where
 imm:Imm
 giv:Nat→Prop
 mu:Nat→Option Nat
 glob:GlobOK imm
 fl:∀g,giv g→Mix imm g
 marks:List Nat
 round:Option Nat
def collD (m:Nat):Deferred:={ target:=.collected m,args := #[] }
def Mine (Φ0:Ent) (W:World) (g:Nat):Prop:=W.heap.size≤g∨Φ0.giv g
def Old (Φ0:Ent) (W:World) (g:Nat):Prop:=g < W.heap.size∧¬Φ0.giv g
def RndOK (Φ0:Ent) (W:World):Prop:=∀l,Φ0.round=some l→Old Φ0 W l∧∃r,W.heap[l]? = some (.loop r)
theorem Mine.ne {Φ0:Ent} {W:World} {g b:Nat} (h:Mine Φ0 W g) (k:Old Φ0 W b):b≠g:=by
 rintro rfl
 rcases h with h|h
 ·have:=k.1;omega
 ·exact k.2 h
structure Kept (S:Nat→Prop) (w w' : World):Prop where
 os:w'.os=w.os
 tape:w'.tape=w.tape
 output:w'.output=w.output
 size:w.heap.size≤w'.heap.size
 block:∀k,S k→w'.heap[k]? = w.heap[k]?
theorem Kept.refl (S:Nat→Prop) (w:World):Kept S w w:=⟨rfl,rfl,rfl,Nat.le_refl _,fun _ _=>rfl⟩
theorem Kept.trans {S:Nat→Prop} {a b c:World} (h:Kept S a b) (k:Kept S b c):Kept S a c:=
 ⟨k.os.trans h.os,k.tape.trans h.tape,k.output.trans h.output,Nat.le_trans h.size k.size,fun i hi=>(k.block i hi).trans (h.block i hi)⟩
theorem Kept.drew {S:Nat→Prop} {a w:World} (h:Kept S a w):Kept S a w.drew:=⟨h.os,h.tape,h.output,h.size,h.block⟩
theorem Kept.mono {S S' : Nat→Prop} {w w' : World} (h:Kept S w w') (hS:∀k,S' k→S k):Kept S' w w':=⟨h.os,h.tape,h.output,h.size,fun k hk=>h.block k (hS k hk)⟩
theorem Kept.of {B:Nat} {S:Nat→Prop} {w w' : World} (h:Below B w w') (hS:∀k,S k→k < B):Kept S w w':=⟨h.os,h.tape,h.output,h.size,fun k hk=>h.block k (hS k hk)⟩
theorem Kept.to {B:Nat} {S:Nat→Prop} {w w' : World} (h:Kept S w w') (hS:∀k,k < B→S k):Below B w w':=⟨h.os,h.tape,h.output,h.size,fun k hk=>h.block k (hS k hk)⟩
theorem Kept.alloc {Φ0:Ent} {W w:World} (h:Kept (Old Φ0 W) W w) (o:Obj):Kept (Old Φ0 W) W (w.alloc o):=
 h.trans ⟨rfl,rfl,rfl,by simp,fun k hk=>Below.heap_alloc _ _ _ (by have:=hk.1;have:=h.size;omega)⟩
def OwnAt (B:Nat→Prop) (Φ:Imm) (ω:Nat→Option Who) (w:World) (p:Who) (n k:Nat) (E:TypeId) (v:Value):Prop:=
 (v = .slice none 0 0∧n=0)∨(∃g cap cur,v = .slice (some ⟨g,0,none⟩) n cap∧B g∧w.heap[g]? = some (.cells cur E (0,0))∧n≤cap∧cap≤maxLen∧cur.size=cap * k∧ω g=some p∧E < 1000000∧∀j,n * k≤j→Φ g j=none)∨(1000000≤E∧∃ad,v = .slice ad n n)
def BoxAt (B:Nat→Prop) (Φ:Imm) (μ:Nat→Option Nat) (ω:Nat→Option Who) (w:World) (id:Nat) (bs:List PV):Prop:=
 ∃g cur T,μ id=some g∧w.heap[g]? = some (.cells cur T (0,0))∧B g∧ω g=some (.box id)∧(∀j,Φ g j=none)∧bs.length≤cur.size∧∀j c,bs[j]? = some c→∃u,cur[j]? = some u∧u.oneCell' = true∧Rep Φ μ c u ∧
  ∀n k cs E,c = .sl n k cs (some E)→OwnAt B Φ ω w (.cell id j) n k E u
def KeptBy (S:Who→Prop) (Φ Φ' : Imm) (ω ω' : Nat→Option Who) (w w' : World):Prop:=∀q,S q→∀g,ω g=some q→w'.heap[g]? = w.heap[g]?∧(∀j,Φ' g j=Φ g j)∧ω' g=some q
def OfId (id:Nat) (q:Who):Prop:=q = .box id∨∃j,q = .cell id j
theorem OwnAt.step {Φ:Imm} {ω:Nat→Option Who} {w:World} {B:Nat→Prop} {p:Who} {n k:Nat} {E:TypeId} {v:Value} (ho:OwnAt B Φ ω w p n k E v) {Φ' : Imm} {ω' : Nat→Option Who} {w' : World} (hk:∀g,ω g=some p→w'.heap[g]? = w.heap[g]?∧(∀j,Φ' g j=Φ g j)∧ω' g=some p):OwnAt B Φ' ω' w' p n k E v:=by
 rcases ho with ho|⟨g,cap,cur,h1,h2,h3,h4,h5,h6,h7,h8⟩|ho
 rotate_left 2
 ·exact .inr (.inr ho)
 ·exact .inl ho
 ·obtain ⟨k1,k2,k3⟩:=hk g h7
  exact .inr (.inl ⟨g,cap,cur,h1,h2,by rw [k1];exact h3,h4,h5,h6,k3,h8.1,fun j hj=>by rw [k2];exact h8.2 j hj⟩)
theorem OwnAt.inB {Φ:Imm} {ω:Nat→Option Who} {w:World} {B B' : Nat→Prop} {p:Who} {n k:Nat} {E:TypeId} {v:Value} (ho:OwnAt B Φ ω w p n k E v) (h:∀g,ω g=some p→B' g):OwnAt B' Φ ω w p n k E v:=by
 rcases ho with ho|⟨g,cap,cur,h1,h2,h3,h4,h5,h6,h7,h8⟩|ho
 rotate_left 2
 ·exact .inr (.inr ho)
 ·exact .inl ho
 ·exact .inr (.inl ⟨g,cap,cur,h1,h g h7,h3,h4,h5,h6,h7,h8⟩)
theorem BoxAt.step {B:Nat→Prop} {Φ Φ' : Imm} {μ μ' : Nat→Option Nat} {ω ω' : Nat→Option Who} {w w' : World} {id:Nat} {bs:List PV} (h:BoxAt B Φ μ ω w id bs) (hΦ:∀b o u,Φ b o=some u→Φ' b o=some u) (hμ:∀i g,μ i=some g→μ' i=some g) (hk:KeptBy (OfId id) Φ Φ' ω ω' w w'):BoxAt B Φ' μ' ω' w' id bs:=by
 obtain ⟨g,cur,T,h1,h2,h3,h4,h5,h6,h7⟩:=h
 obtain ⟨k1,k2,k3⟩:=hk _ (.inl rfl) g h4
 refine ⟨g,cur,T,hμ _ _ h1,by rw [k1];exact h2,h3,k3,fun j=>by rw [k2];exact h5 j,h6,fun j c hc=>?_⟩
 obtain ⟨u,r1,r2,r3,r4⟩:=h7 j c hc
 exact ⟨u,r1,r2,r3.mono hΦ hμ,fun n k cs E e=>(r4 n k cs E e).step (hk _ (.inr ⟨j,rfl⟩))⟩
def StampsOK (es:List (Nat×PV×PV)) (clock:Nat):Prop:=(es.map (·.1)).Nodup∧∀e∈es,e.1 < clock
def MapAt (B:Nat→Prop) (Φ:Imm) (μ:Nat→Option Nat) (ω:Nat→Option Who) (w:World) (id:Nat) (M:PMap):Prop:=
 ∃g,μ id=some g∧B g∧ω g=some (.box id)∧(∀j,Φ g j=none)∧match M with
  | .map es clock=>StampsOK es clock∧∃ents,w.heap[g]? = some (.map ents clock)∧ents.size=es.length∧∀(j:Nat) s k c,es[j]? = some (s,k,c)→∃e,ents[j]? = some e∧e.born=s∧Rep Φ μ k e.key∧Rep Φ μ c e.val ∧
    ∀n kk cs E,c = .sl n kk cs (some E)→OwnAt B Φ ω w (.cell id s) n kk E e.val
  | .iter mid since seen last=>∃gm,μ mid=some gm∧w.heap[g]? = some (.mapIter (some gm) since seen.toArray last)
theorem MapAt.step {B:Nat→Prop} {Φ Φ' : Imm} {μ μ' : Nat→Option Nat} {ω ω' : Nat→Option Who} {w w' : World} {id:Nat} {M:PMap} (h:MapAt B Φ μ ω w id M) (hΦ:∀b o u,Φ b o=some u→Φ' b o=some u) (hμ:∀i g,μ i=some g→μ' i=some g) (hk:KeptBy (OfId id) Φ Φ' ω ω' w w'):MapAt B Φ' μ' ω' w' id M:=by
 obtain ⟨g,h1,h2,h3,h4,h5⟩:=h
 obtain ⟨k1,k2,k3⟩:=hk _ (.inl rfl) g h3
 refine ⟨g,hμ _ _ h1,h2,k3,fun j=>by rw [k2];exact h4 j,?_⟩
 cases M with
 |map es clock=>
  obtain ⟨e0,ents,e1,e2,e3⟩:=h5
  refine ⟨e0,ents,by rw [k1];exact e1,e2,fun j s k c hj=>?_⟩
  obtain ⟨e,f1,f2,f3,f4,f5⟩:=e3 j s k c hj
  exact ⟨e,f1,f2,f3.mono hΦ hμ,f4.mono hΦ hμ,fun n kk cs E ec=>(f5 n kk cs E ec).step (hk _ (.inr ⟨s,rfl⟩))⟩
 |iter mid since seen last=>
  obtain ⟨gm,e1,e2⟩:=h5
  exact ⟨gm,hμ _ _ e1,by rw [k1];exact e2⟩
structure RelG (Φ0:Ent) (W:World) (M:Nat) (Φ:Imm) (μ:Nat→Option Nat) (ω:Nat→Option Who) (σ:PS) (a:Act) (w:World):Prop where
 below:Kept (Old Φ0 W) W w
 defers:a.defers=Φ0.marks.map collD∧RndOK Φ0 W
 size:a.tmps.size=M
 imm:∀b o u,Φ b o=some u→w.cell? ⟨b,o,none⟩=some u
 old:∀b o,Old Φ0 W b→Φ b o=Φ0.imm b o
 tmps:∀t,Rep Φ μ (σ.t t) (a.tmps.getD t undef)
 own:∀t n k cs E,σ.t t = .sl n k cs (some E)→OwnAt (Mine Φ0 W) Φ ω w (.tmp t) n k E (a.tmps.getD t undef)
 box:∀id bs,σ.b id=some bs→BoxAt (Mine Φ0 W) Φ μ ω w id bs
 gone:∀id,σ.b id=none→σ.m id=none→μ id=none
 lt:∀g p,ω g=some p→g < w.heap.size
 gmu:∀id g,Φ0.mu id=some g→1000000≤id
 kmu:∀id g,Φ0.mu id=some g→(σ.b id≠none∨σ.m id≠none)→μ id=some g
 ext:∀b o u,Φ0.imm b o=some u→Φ b o=some u∧b < W.heap.size
 map:∀id X,σ.m id=some X→MapAt (Mine Φ0 W) Φ μ ω w id X
 mine:∀g p,ω g=some p→Mine Φ0 W g
def Rel (Φ0:Ent) (W:World) (M:Nat) (σ:PS) (a:Act) (w:World):Prop:=∃Φ μ ω,RelG Φ0 W M Φ μ ω σ a w
theorem getD_put (a:Act) (d t:Nat) (v:Value) (hd:d < a.tmps.size):(a.put (some d) v).tmps.getD t undef=if t=d then v else a.tmps.getD t undef:=by
 simp only [Act.put,Array.getD_eq_getD_getElem?,Array.getElem?_setIfInBounds]
 by_cases h:d=t
 ·subst h;simp [hd]
 ·rw [if_neg h,if_neg (fun e=>h e.symm)]
end
section
open Go.RowKit
variable {Φ0:Ent} {W:World} {M:Nat} {Φ:Imm} {μ:Nat→Option Nat} {ω:Nat→Option Who} {σ:PS} {a:Act} {w:World}
theorem RelG.put (h:RelG Φ0 W M Φ μ ω σ a w) {d:Nat} (hd:d < M) {p:PV} {v:Value} (hp:Rep Φ μ p v) (ho:p.ownB=false):RelG Φ0 W M Φ μ ω (σ.put d p) (a.put (some d) v) w:=by
 have hd' : d < a.tmps.size:=by rw [h.size];exact hd
 refine { h with defers:=h.defers,size:=by simp [Act.put,h.size],tmps:=fun t=>?_,own:=fun t n k cs E e=>?_ }
 ·rw [getD_put _ _ _ _ hd']
  by_cases ht:t=d
  ·simp only [PS.put,upd_if,if_pos ht];exact hp
  ·simp only [PS.put,upd_if,if_neg ht];exact h.tmps t
 ·rw [getD_put _ _ _ _ hd']
  by_cases ht:t=d
  ·simp only [PS.put,upd_if,if_pos ht] at e;rw [e] at ho;simp [PV.ownB] at ho
  ·simp only [PS.put,upd_if,if_neg ht] at e ⊢; exact h.own t n k cs E e
theorem RelG.strip (h:RelG Φ0 W M Φ μ ω σ a w) (t:Nat):RelG Φ0 W M Φ μ ω { σ with t:=upd σ.t t (σ.t t).bare } a w:=by
 refine { h with tmps:=fun u=>?_,own:=fun u n k cs E e=>?_ }
 ·simp only [upd_if]
  split
  ·rename_i e;subst e;exact (h.tmps u).bare
  ·exact h.tmps u
 ·simp only [upd_if] at e
  split at e
  ·have:=PV.bare_own (σ.t t);rw [e] at this;simp [PV.ownB] at this
  ·exact h.own u n k cs E e
theorem RelG.forget (h:RelG Φ0 W M Φ μ ω σ a w) (f:Nat→PV) (hf:∀t,f t = .undef∨f t=σ.t t∨f t=(σ.t t).bare∨(∃k E,f t = .sl 0 k [] (some E)∧σ.t t = .nilsl)):RelG Φ0 W M Φ μ ω { σ with t:=f } a w:=by
 refine { h with tmps:=fun u=>?_,own:=fun u n k cs E e=>?_ }
 ·rcases hf u with e|e|e|⟨k,E,e,e'⟩<;>simp only [e]
  ·exact .undef _
  ·exact h.tmps u
  ·exact (h.tmps u).bare
  ·have:=h.tmps u
   rw [e'] at this
   rw [this.nilsl_inv]
   exact .sl0 _ _ _ _ (by unfold maxLen;omega)
 ·simp only at e
  rcases hf u with e' | e' | e' | ⟨k',E',e',e''⟩
  ·rw [e'] at e;cases e
  ·rw [e'] at e;exact h.own u n k cs E e
  ·rw [e'] at e;have:=PV.bare_own (σ.t u);rw [e] at this;simp [PV.ownB] at this
  ·rw [e'] at e
   cases e
   have:=h.tmps u
   rw [e''] at this
   exact .inl ⟨this.nilsl_inv,rfl⟩
theorem RelG.glob (h:RelG Φ0 W M Φ μ ω σ a w):GlobOK Φ:=fun x hx j z e=>(h.ext _ _ _ (Φ0.glob x hx j z e)).1
end
section
open Go.RowKit
def RepL (Φ:Imm) (μ:Nat→Option Nat) (cs:List PV) (vs:List Value):Prop:=vs.length=cs.length∧∀(j:Nat) c u,cs[j]? = some c→vs[j]? = some u→Rep Φ μ c u
theorem RepL.nil {Φ:Imm} {μ:Nat→Option Nat} : RepL Φ μ [] []:=⟨rfl,fun j c u h=>by simp at h⟩
theorem RepL.cons {Φ:Imm} {μ:Nat→Option Nat} {c:PV} {u:Value} {cs:List PV} {us:List Value} (h:Rep Φ μ c u) (hs:RepL Φ μ cs us):RepL Φ μ (c :: cs) (u :: us):=by
 refine ⟨by simp [hs.1],fun j c' u' h1 h2=>?_⟩
 cases j with
 |zero=>simp at h1 h2;subst h1 h2;exact h
 |succ j=>simp at h1 h2;exact hs.2 j c' u' h1 h2
theorem RepL.mono {Φ Φ' : Imm} {μ μ' : Nat→Option Nat} (hΦ:∀b o u,Φ b o=some u→Φ' b o=some u) (hμ:∀i g,μ i=some g→μ' i=some g) {cs:List PV} {us:List Value} (h:RepL Φ μ cs us):RepL Φ' μ' cs us:=
 ⟨h.1,fun j c u h1 h2=>(h.2 j c u h1 h2).mono hΦ hμ⟩
theorem RepL.get {Φ:Imm} {μ:Nat→Option Nat} {cs:List PV} {us:List Value} (h:RepL Φ μ cs us) {j:Nat} {c:PV} (hc:cs[j]? = some c):∃u,us[j]? = some u∧Rep Φ μ c u:=by
 have hj:j < us.length:=by rw [h.1];exact (List.getElem?_eq_some_iff.1 hc).1
 exact ⟨us[j],by simp [hj],h.2 j c _ hc (by simp [hj])⟩
theorem range_map_get {n:Nat} (us:List Value) (hu:us.length=n):((List.range n).map (fun j=>us.getD j undef))=us:=by
 apply List.ext_getElem
 ·simp [hu]
 ·intro i h1 h2
  simp [List.getD_eq_getElem?_getD,h2]
theorem RepL.us {Φ:Imm} {μ:Nat→Option Nat} {cs:List PV} {us:List Value} (h:RepL Φ μ cs us):∀j c,cs[j]? = some c→Rep Φ μ c (us.getD j undef):=by
 intro j c hc
 obtain ⟨u,hu,hr⟩:=h.get hc
 rw [List.getD_eq_getElem?_getD,hu];exact hr
theorem RepL.agg {Φ:Imm} {μ:Nat→Option Nat} {cs:List PV} {us:List Value} (h:RepL Φ μ cs us):Rep Φ μ (.agg cs) (.agg us.toArray):=by
 have:=Rep.agg (Φ:=Φ) (μ:=μ) cs (fun j=>us.getD j undef) h.us
 rwa [range_map_get us h.1] at this
theorem RepL.tup {Φ:Imm} {μ:Nat→Option Nat} {cs:List PV} {us:List Value} (h:RepL Φ μ cs us):Rep Φ μ (.tup cs) (.tuple us.toArray):=by
 have:=Rep.tup (Φ:=Φ) (μ:=μ) cs (fun j=>us.getD j undef) h.us
 rwa [range_map_get us h.1] at this
theorem RepL.fn {Φ:Imm} {μ:Nat→Option Nat} {cs:List PV} {us:List Value} (f:FuncId) (h:RepL Φ μ cs us):Rep Φ μ (.fn f cs) (fnV f us.toArray):=by
 have:=Rep.fn (Φ:=Φ) (μ:=μ) f cs (fun j=>us.getD j undef) h.us
 rwa [range_map_get us h.1] at this
theorem repL_of_us {Φ:Imm} {μ:Nat→Option Nat} (cs:List PV) (us:Nat→Value) (hr:∀j c,cs[j]? = some c→Rep Φ μ c (us j)):RepL Φ μ cs ((List.range cs.length).map us):=by
 refine ⟨by simp,fun j c u h1 h2=>?_⟩
 have hj:j < cs.length:=(List.getElem?_eq_some_iff.1 h1).1
 simp [hj] at h2
 subst h2;exact hr j c h1
theorem Rep.agg_inv {Φ:Imm} {μ:Nat→Option Nat} {cs:List PV} {v:Value} (h:Rep Φ μ (.agg cs) v):∃us,v = .agg us.toArray∧RepL Φ μ cs us:=by
 cases h with|agg _ us hr=>exact ⟨_,rfl,repL_of_us cs us hr⟩
theorem Rep.tup_inv {Φ:Imm} {μ:Nat→Option Nat} {cs:List PV} {v:Value} (h:Rep Φ μ (.tup cs) v):∃us,v = .tuple us.toArray∧RepL Φ μ cs us:=by
 cases h with|tup _ us hr=>exact ⟨_,rfl,repL_of_us cs us hr⟩
theorem Rep.fn_inv {Φ:Imm} {μ:Nat→Option Nat} {f:FuncId} {cs:List PV} {v:Value} (h:Rep Φ μ (.fn f cs) v):∃us,v=fnV f us.toArray∧RepL Φ μ cs us:=by
 cases h with|fn _ _ us hr=>exact ⟨_,rfl,repL_of_us cs us hr⟩
theorem Rep.val_inv {Φ:Imm} {μ:Nat→Option Nat} {u v:Value} (h:Rep Φ μ (.val u) v):v=u∧plainV u=true:=by
 cases h with|val _ h=>exact ⟨rfl,h⟩
theorem Rep.ptr_inv {Φ:Imm} {μ:Nat→Option Nat} {id off:Nat} {v:Value} (h:Rep Φ μ (.ptr id off) v):∃g,μ id=some g∧v = .pointer (some ⟨g,off,none⟩):=by
 cases h with|ptr _ _ g h=>exact ⟨g,h,rfl⟩
theorem Rep.mref_inv {Φ:Imm} {μ:Nat→Option Nat} {id:Nat} {v:Value} (h:Rep Φ μ (.mref id) v):∃g,μ id=some g∧v = .map (some g):=by
 cases h with|mref _ g h=>exact ⟨g,h,rfl⟩
theorem Rep.msl_inv {Φ:Imm} {μ:Nat→Option Nat} {id off n k:Nat} {v:Value} (h:Rep Φ μ (.msl id off n k) v):∃a cap,v = .slice a n cap∧n≤cap∧cap≤maxLen∧(0 < n→∃g,μ id=some g∧a=some ⟨g,off,none⟩):=by
 cases h with|msl _ _ _ _ a cap h h2 h3=>exact ⟨a,cap,rfl,h2,h3,h⟩
theorem Rep.ep_inv {Φ:Imm} {μ:Nat→Option Nat} {cs:List PV} {off:Nat} {v:Value} (h:Rep Φ μ (.ep cs off) v):∃b o,∃us:Nat→Value,v = .pointer (some ⟨b,o+off,none⟩)∧(∀j,j < cs.length→Φ b (o+j)=some (us j))∧∀j c,cs[j]? = some c→Rep Φ μ c (us j):=by
 cases h with|ep _ _ b o us hp hr=>exact ⟨b,o,us,rfl,hp,hr⟩
theorem Rep.sl_inv {Φ:Imm} {μ:Nat→Option Nat} {n k:Nat} {cs:List PV} {own:Option TypeId} {v:Value} (h:Rep Φ μ (.sl n k cs own) v):∃a b off cap,∃us:Nat→Value,v = .slice a n cap∧n≤cap∧cap≤maxLen∧cs.length=n * k∧(0 < n→a=some ⟨b,off,none⟩) ∧
  (∀j,j < cs.length→Φ b (off+j)=some (us j))∧∀j c,cs[j]? = some c→Rep Φ μ c (us j):=by
 cases h with
 |sl0 _ _ a cap h=>exact ⟨a,0,0,cap,fun _=>Go.undef,rfl,Nat.zero_le _,h,by simp,fun h=>by omega,fun j hj=>by simp at hj,fun j c hj=>by simp at hj⟩
 |sl _ _ _ _ b off cap us h1 h2 h3 hp hr=>exact ⟨_,b,off,cap,us,rfl,h2,h3,h1,fun _=>rfl,hp,hr⟩
def PV.one:PV→Bool
 | .val _ | .nilsl | .sl .. | .ptr .. | .msl .. | .ep .. | .fn .. | .mref .. => true
 |_=>false
theorem Rep.one {Φ:Imm} {μ:Nat→Option Nat} {p:PV} {v:Value} (h:Rep Φ μ p v) (ho:p.one=true):v.oneCell' = true∧v.cells = #[v]:=by
 cases h with
 |val v h=>exact plainV_one h
 |undef=>simp [PV.one] at ho
 |agg=>simp [PV.one] at ho
 |tup=>simp [PV.one] at ho
 |fn f cs us hr=>
  obtain ⟨t1,p1,q1,e1⟩:=fnV_func f ((List.range cs.length).map us).toArray
  rw [e1];exact ⟨rfl,rfl⟩
 |_=>exact ⟨rfl,rfl⟩
def pv0:Value→PV
 | .slice none 0 0=>.nilsl
 |v=>if plainV v then .val v else .undef
def pvC:Value→PV
 | .agg cs=>.agg (cs.toList.map pv0)
 |v=>pv0 v
theorem rep_pv0 {Φ:Imm} {μ:Nat→Option Nat} (v:Value):Rep Φ μ (pv0 v) v:=by
 unfold pv0
 split
 ·exact .nilsl
 ·split
  ·exact .val _ ‹_›
  ·exact .undef _
theorem repL_pv0 {Φ:Imm} {μ:Nat→Option Nat} (vs:List Value):RepL Φ μ (vs.map pv0) vs:=by
 refine ⟨by simp,fun j c u h1 h2=>?_⟩
 rw [List.getElem?_map,h2] at h1
 simp at h1
 subst h1;exact rep_pv0 u
theorem rep_pvC {Φ:Imm} {μ:Nat→Option Nat} (v:Value):Rep Φ μ (pvC v) v:=by
 unfold pvC
 split
 ·rename_i cs
  exact (repL_pv0 cs.toList).agg
 ·exact rep_pv0 _
theorem pv0_own (v:Value):(pv0 v).ownB=false:=by
 unfold pv0
 split
 ·rfl
 ·split<;>rfl
theorem pvC_own (v:Value):(pvC v).ownB=false:=by
 unfold pvC
 split
 ·rfl
 ·exact pv0_own _
end
section
open Go.RowKit
variable {Φ0:Ent} {W:World} {M:Nat} {Φ:Imm} {μ:Nat→Option Nat} {ω:Nat→Option Who} {σ:PS} {a:Act} {w:World}
theorem RelG.grow (h:RelG Φ0 W M Φ μ ω σ a w) {Φ' : Imm} {w' : World} (hb:Kept (Old Φ0 W) W w') (himm:∀b o u,Φ' b o=some u→w'.cell? ⟨b,o,none⟩=some u) (hold:∀b o,Old Φ0 W b→Φ' b o=Φ b o) (hsub:∀b o u,Φ b o=some u→Φ' b o=some u)
  (hkeep:∀g p,ω g=some p→w'.heap[g]? = w.heap[g]?∧∀j,Φ' g j=Φ g j) (hsz:w.heap.size≤w'.heap.size):RelG Φ0 W M Φ' μ ω σ a w':=by
 have hown:∀p n k E v,OwnAt (Mine Φ0 W) Φ ω w p n k E v→OwnAt (Mine Φ0 W) Φ' ω w' p n k E v:=by
  intro p n k E v ho
  rcases ho with ho|⟨g,cap,cur,h1,h2,h3,h4,h5,h6,h7,h8⟩|ho
  rotate_left 2
  ·exact .inr (.inr ho)
  ·exact .inl ho
  ·obtain ⟨k1,k2⟩:=hkeep g _ h7
   exact .inr (.inl ⟨g,cap,cur,h1,h2,by rw [k1];exact h3,h4,h5,h6,h7,h8.1,fun j hj=>by rw [k2];exact h8.2 j hj⟩)
 refine ⟨hb,h.defers,h.size,himm,fun b o hbo=>(hold b o hbo).trans (h.old b o hbo),fun t=>(h.tmps t).mono hsub (fun _ _ e=>e),fun t n k cs E e=>hown _ _ _ _ _ (h.own t n k cs E e),fun id bs e=>?_,h.gone,fun g p e=>Nat.lt_of_lt_of_le (h.lt g p e) hsz,h.gmu,h.kmu,fun b o u e=>⟨hsub _ _ _ (h.ext b o u e).1,(h.ext b o u e).2⟩,fun id X e=>(h.map id X e).step hsub (fun _ _ e=>e) (fun q _ g e=>⟨(hkeep g q e).1,(hkeep g q e).2,e⟩),h.mine⟩
 obtain ⟨g,cur,T,h1,h2,h3,h4,h5,h6,h7⟩:=h.box id bs e
 obtain ⟨k1,k2⟩:=hkeep g _ h4
 refine ⟨g,cur,T,h1,by rw [k1];exact h2,h3,h4,fun j=>by rw [k2];exact h5 j,h6,fun j c hc=>?_⟩
 obtain ⟨u,r1,r2,r3,r4⟩:=h7 j c hc
 exact ⟨u,r1,r2,r3.mono hsub (fun _ _ e=>e),fun n k cs E e=>hown _ _ _ _ _ (r4 n k cs E e)⟩
theorem RelG.drew (h:RelG Φ0 W M Φ μ ω σ a w):RelG Φ0 W M Φ μ ω σ a w.drew:=
 h.grow h.below.drew h.imm (fun _ _ _=>rfl) (fun _ _ _ e=>e) (fun _ _ _=>⟨rfl,fun _=>rfl⟩) (Nat.le_refl _)
def immRow (Φ:Imm) (g:Nat) (cur:Array Value):Imm:=fun b o=>if b=g then cur[o]? else Φ b o
theorem RelG.fresh (h:RelG Φ0 W M Φ μ ω σ a w) {b o:Nat} {u:Value} (e:Φ b o=some u):b < w.heap.size:=World.block_lt_of_cell? _ _ (h.imm b o u e)
theorem cell_alloc_new (w:World) (cur:Array Value) (T:TypeId) (o:Nat):(w.alloc (.cells cur T)).cell? ⟨w.heap.size,o,none⟩=cur[o]?:=by
 have:=heap_alloc_new w (.cells cur T)
 simp only [World.cell?,this];simp
theorem cell_alloc_old (w:World) (ob:Obj) (b o:Nat) (h:b < w.heap.size):(w.alloc ob).cell? ⟨b,o,none⟩=w.cell? ⟨b,o,none⟩:=by
 simp only [World.cell?];rw [Below.heap_alloc w ob b h]
theorem RelG.row (h:RelG Φ0 W M Φ μ ω σ a w) (cur:Array Value) (T:TypeId):RelG Φ0 W M (immRow Φ w.heap.size cur) μ ω σ a (w.alloc (.cells cur T)):=by
 have hW:=h.below.size
 refine h.grow (h.below.alloc _) ?_ ?_ ?_ ?_ (by simp)
 ·intro b o u e
  unfold immRow at e
  split at e
  ·subst b;rw [cell_alloc_new];exact e
  ·have:=h.imm b o u e
   rw [cell_alloc_old _ _ _ _ (h.fresh e)];exact this
 ·intro b o hb;unfold immRow;rw [if_neg (by have:=hb.1;omega)]
 ·intro b o u e;unfold immRow;rw [if_neg (by have:=h.fresh e;omega)];exact e
 ·intro g p e
  have:=h.lt g p e
  exact ⟨Below.heap_alloc _ _ _ this,fun j=>by unfold immRow;rw [if_neg (by omega)]⟩
theorem RelG.newBox (h:RelG Φ0 W M Φ μ ω σ a w) {id:Nat} (hlow:id < 1000000) (hid:σ.b id=none) (hmid:σ.m id=none) {bs:List PV} {us:List Value} (hr:RepL Φ μ bs us) (hone:∀u∈us,u.oneCell' = true) (hno:∀c∈bs,c.ownB=false) (T:TypeId) :
  RelG Φ0 W M Φ (upd μ id (some w.heap.size)) (upd ω w.heap.size (some (.box id))) { σ with b:=upd σ.b id (some bs) } a (w.alloc (.cells us.toArray T)):=by
 have hW:=h.below.size
 have hμ:∀i g,μ i=some g→upd μ id (some w.heap.size) i=some g:=by
  intro i g e
  simp only [upd_if]
  rw [if_neg (by rintro rfl;rw [h.gone _ hid hmid] at e;cases e)];exact e
 have hω:∀g p,ω g=some p→upd ω w.heap.size (some (.box id)) g=some p:=by
  intro g p e
  simp only [upd_if];rw [if_neg (by have:=h.lt g p e;omega)];exact e
 have hown:∀p n k E v,OwnAt (Mine Φ0 W) Φ ω w p n k E v→OwnAt (Mine Φ0 W) Φ (upd ω w.heap.size (some (.box id))) (w.alloc (.cells us.toArray T)) p n k E v:=by
  intro p n k E v ho
  rcases ho with ho|⟨g,cap,cur,h1,h2,h3,h4,h5,h6,h7,h8⟩|ho
  rotate_left 2
  ·exact .inr (.inr ho)
  ·exact .inl ho
  ·exact .inr (.inl ⟨g,cap,cur,h1,h2,by rw [Below.heap_alloc _ _ _ (h.lt g _ h7)];exact h3,h4,h5,h6,hω _ _ h7,h8⟩)
 refine ⟨h.below.alloc _,h.defers,h.size,?_,h.old,fun t=>(h.tmps t).mono (fun _ _ _ e=>e) hμ,fun t n k cs E e=>hown _ _ _ _ _ (h.own t n k cs E e),?_,?_,?_,h.gmu,fun i g e hi=>?_,h.ext,fun i X e=>(h.map i X e).step (fun _ _ _ e=>e) hμ (fun q _ g e=>⟨Below.heap_alloc _ _ _ (h.lt g _ e),fun _=>rfl,hω _ _ e⟩),fun g p e=>?_⟩
 ·intro b o u e
  rw [cell_alloc_old _ _ _ _ (h.fresh e)];exact h.imm b o u e
 ·intro i bs' e
  by_cases hi:i=id
  ·subst hi
   simp only [upd_if,if_true] at e
   cases e
   refine ⟨w.heap.size,us.toArray,T,by simp [upd_if],heap_alloc_new w _, .inl hW,by simp [upd_if],?_,(by have:=hr.1;simp;omega),?_⟩
   ·intro j
    cases hj:Φ w.heap.size j with
    |none=>rfl
    |some u=>have:=h.fresh hj;omega
   ·intro j c hc
    obtain ⟨u,hu,hru⟩:=hr.get hc
    refine ⟨u,by simpa using hu,hone u (mem_of_get hu),hru.mono (fun _ _ _ e=>e) hμ,fun n k cs E e=>?_⟩
    have:=hno c (mem_of_get hc)
    rw [e] at this;simp [PV.ownB] at this
  ·simp only [upd_if,if_neg hi] at e
   obtain ⟨g,cur,T',h1,h2,h3,h4,h5,h6,h7⟩:=h.box i bs' e
   refine ⟨g,cur,T',hμ _ _ h1,by rw [Below.heap_alloc _ _ _ (h.lt g _ h4)];exact h2,h3,hω _ _ h4,h5,h6,fun j c hc=>?_⟩
   obtain ⟨u,r1,r2,r3,r4⟩:=h7 j c hc
   exact ⟨u,r1,r2,r3.mono (fun _ _ _ e=>e) hμ,fun n k cs E e=>hown _ _ _ _ _ (r4 n k cs E e)⟩
 ·intro i e em
  by_cases hi:i=id
  ·subst hi;simp [upd_if] at e
  ·simp only [upd_if,if_neg hi] at e ⊢; exact h.gone i e em
 ·intro g p e
  simp only [upd_if] at e
  split at e
  ·subst g;simp
  ·have:=h.lt g p e;simp;omega
 ·have hne:i≠id:=by have:=h.gmu i g e;omega
  simp only [upd_if,if_neg hne] at hi ⊢
  exact h.kmu i g e hi
 ·simp only [upd_if] at e
  split at e
  ·subst g;exact .inl hW
  ·exact h.mine g p e
theorem RelG.newMap (h:RelG Φ0 W M Φ μ ω σ a w) {id:Nat} (hlow:id < 1000000) (hid:σ.b id=none) (hmid:σ.m id=none) (X:PMap) (ob:Obj) (hX:match X with
   | .map es clock=>es = []∧ob = .map #[] clock
   | .iter mid since seen last=>∃gm,μ mid=some gm∧ob = .mapIter (some gm) since seen.toArray last) :
  RelG Φ0 W M Φ (upd μ id (some w.heap.size)) (upd ω w.heap.size (some (.box id))) { σ with m:=upd σ.m id (some X) } a (w.alloc ob):=by
 have hW:=h.below.size
 have hμ:∀i g,μ i=some g→upd μ id (some w.heap.size) i=some g:=by
  intro i g e
  simp only [upd_if]
  rw [if_neg (by rintro rfl;rw [h.gone _ hid hmid] at e;cases e)];exact e
 have hω:∀g p,ω g=some p→upd ω w.heap.size (some (.box id)) g=some p:=by
  intro g p e
  simp only [upd_if];rw [if_neg (by have:=h.lt g p e;omega)];exact e
 have hk:∀S,KeptBy S Φ Φ ω (upd ω w.heap.size (some (.box id))) w (w.alloc ob):=fun S q _ g e=>⟨Below.heap_alloc _ _ _ (h.lt g _ e),fun _=>rfl,hω _ _ e⟩
 refine ⟨h.below.alloc _,h.defers,h.size,?_,h.old,fun t=>(h.tmps t).mono (fun _ _ _ e=>e) hμ,fun t n k cs E e=>(h.own t n k cs E e).step (fun g e=>hk (fun _=>True) _ trivial g e),fun i bs e=>(h.box i bs e).step (fun _ _ _ e=>e) hμ (hk _),?_,?_,h.gmu,fun i g e hi=>?_,h.ext,fun i X' e=>?_,fun g p e=>?_⟩
 ·intro b o u e
  rw [cell_alloc_old _ _ _ _ (h.fresh e)];exact h.imm b o u e
 ·intro i e em
  by_cases hi:i=id
  ·subst hi;simp [upd_if] at em
  ·simp only [upd_if,if_neg hi] at em ⊢; exact h.gone i e em
 ·intro g p e
  simp only [upd_if] at e
  split at e
  ·subst g;simp
  ·have:=h.lt g p e;simp;omega
 ·have hne:i≠id:=by have:=h.gmu i g e;omega
  simp only [upd_if,if_neg hne] at hi ⊢
  exact h.kmu i g e hi
 ·by_cases hi:i=id
  ·subst hi
   simp only [upd_if,if_true] at e
   cases e
   refine ⟨w.heap.size,by simp [upd_if], .inl hW,by simp [upd_if],fun j=>?_,?_⟩
   ·cases hj:Φ w.heap.size j with
    |none=>rfl
    |some u=>have:=h.fresh hj;omega
   ·cases X with
    |map es clock=>
     obtain ⟨rfl,rfl⟩:=hX
     exact ⟨⟨by simp,by simp⟩,#[],heap_alloc_new w _,rfl,fun j s k c hj=>by simp at hj⟩
    |iter mid since seen last=>
     obtain ⟨gm,e1,rfl⟩:=hX
     exact ⟨gm,hμ _ _ e1,heap_alloc_new w _⟩
  ·simp only [upd_if,if_neg hi] at e
   exact (h.map i X' e).step (fun _ _ _ e=>e) hμ (hk _)
 ·simp only [upd_if] at e
  split at e
  ·subst g;exact .inl hW
  ·exact h.mine g p e
end
section
open Go.RowKit
inductive TD where
 |int (k:IntKind)|bool|str
 |slice (e:TypeId) (k by_:Nat) (zero:List PV)
 |struct (fs:List (Nat×Nat×Bool))
 |arr (n:Nat) (e:TypeId) (k:Nat) (agg:Bool)
 |parr (n:Nat) (e:TypeId) (k:Nat)
 |ptr|func|map (k e:TypeId)
 |other
inductive SK where
 |int|bool|str
 deriving DecidableEq
structure TyI where
 size:Nat
 agg:Bool
 kind:TD
 zero:List PV
 eqs:List SK
def aggD:TypeDesc→Bool
 | .struct _ | .array _ _=>true
 |_=>false
def tdOf (P:Program):TypeDesc→TD
 | .int k=>.int k
 | .bool=>.bool
 | .string=>.str
 | .slice e=>match P.info? e with
  |some i=>match i.zero with
   |some z=>if z.cells.toList.length=i.size∧0 < i.size∧z.cells.toList.all (·.oneCell') then .slice e i.size i.bytes (z.cells.toList.map pv0) else .other
   |none=>.other
  |none=>.other
 | .struct fs=>match fs.toList.mapM (m:=Option) (fun f=>match P.info? f.type,P.underlying f.type with|some i,some d=>some (f.offset,i.size,aggD d)|_,_=>none) with
  |some l=>.struct l
  |none=>.other
 | .array n e=>match P.info? e,P.underlying e with
  |some i,some d=>.arr n e i.size (aggD d)
  |_,_=>.other
 | .pointer t=>match P.underlying t with
  |some (.array n e)=>match P.info? e with
   |some i=>.parr n e i.size
   |none=>.other
  |some _=>.ptr
  |none=>.other
 | .func _ _ _=>.func
 | .map k e=>.map k e
 |_=>.other
def skOf (P:Program) (t:TypeId):Option SK:=match P.underlying t,P.info? t with
 |some (.int _),some i=>if i.size=1 then some .int else none
 |some .bool,some i=>if i.size=1 then some .bool else none
 |some .string,some i=>if i.size=1 then some .str else none
 |_,_=>none
def eqsD (P:Program):Nat→TypeId→Option (List SK)
 |0,_=>none
 |d+1,t=>match skOf P t with
  |some k=>some [k]
  |none=>match P.underlying t,P.info? t with
   |some (.struct fs),some i=>if P.stoodInHeld t=false then
     match fs.toList.foldr (fun f acc=>match acc with
      |some (off,l)=>if f.name ≠ "_" then match eqsD P d f.type with
       |some m=>if f.offset+m.length=off then some (f.offset,m ++ l) else none
       |none=>none else none
      |none=>none) (some (i.size,[])) with
     |some (0,l)=>if l.length=i.size then some l else none
     |_=>none
    else none
   |some (.array n e),some i=>match eqsD P d e,P.info? e with
    |some l,some ie=>if l.length=ie.size∧i.size=n * ie.size then some ((List.replicate n l).flatten) else none
    |_,_=>none
   |_,_=>none
def eqsOf (P:Program) (t:TypeId):List SK:=match P.underlying t with
 |some (.struct _)=>if P.eqGuardType P.depth t=false then (eqsD P 6 t).getD [] else []
 |some (.array _ _)=>if P.eqGuardType P.depth t=false then (eqsD P 6 t).getD [] else []
 |_ => []
def isAggV:Value→Bool
 | .agg _=>true
 |_=>false
def tyI (P:Program) (t:TypeId):Option TyI:=
 match P.info? t,P.underlying t with
 |some i,some d=>match i.zero with
  |some z=>if z.cells.toList.length=i.size∧z.cells.toList.all (·.oneCell')∧isAggV z=aggD d then some ⟨i.size,aggD d,tdOf P d,z.cells.toList.map pv0,eqsOf P t⟩ else none
  |none=>none
 |_,_=>none
def tabOf (P:Program):List (Option TyI):=(List.range P.types.size).map (tyI P)
theorem tyTab_get {P:Program} {T:List (Option TyI)} (hT:T=tabOf P) {t:TypeId} {x:TyI} (h:T[t]? = some (some x)):tyI P t=some x:=by
 subst hT
 rw [tabOf,List.getElem?_map] at h
 by_cases ht:t < P.types.size
 ·simpa [ht] using h
 ·simp [ht] at h
theorem tyI_parts {P:Program} {t:TypeId} {x:TyI} (h:tyI P t=some x):∃i d z,P.info? t=some i∧P.underlying t=some d∧i.zero=some z∧z.cells.size=i.size∧(∀c∈z.cells.toList,c.oneCell' = true)∧x=⟨i.size,aggD d,tdOf P d,z.cells.toList.map pv0,eqsOf P t⟩:=by
 unfold tyI at h
 split at h
 ·rename_i i d h1 h2
  split at h
  ·rename_i z h3
   split at h
   ·rename_i h4
    exact ⟨i,d,z,h1,h2,h3,by simpa using h4.1,fun c hc=>List.all_eq_true.1 h4.2.1 c hc,by simpa using h.symm⟩
   ·cases h
  ·cases h
 ·cases h
theorem tyI_agg {P:Program} {t:TypeId} {x:TyI} (h:tyI P t=some x):∃i z,P.info? t=some i∧i.zero=some z∧isAggV z=x.agg∧x.zero=z.cells.toList.map pv0:=by
 unfold tyI at h
 split at h
 ·rename_i i d h1 h2
  split at h
  ·rename_i z h3
   split at h
   ·rename_i h4
    cases h
    exact ⟨i,z,h1,h3,h4.2.2,rfl⟩
   ·cases h
  ·cases h
 ·cases h
theorem run_isAgg {P:Program} {t:TypeId} {d:TypeDesc} (h:P.underlying t=some d) (w:World):(isAgg t).run P w = .ok (aggD d) w:=by
 unfold isAgg
 simp only [Sem.run_bind,run_underlying h,Result.andThen_ok]
 cases d<;>simp [aggD]
theorem run_size {P:Program} {t:TypeId} {i:TypeInfo} (h:P.info? t=some i) (w:World):(sizeOf t).run P w = .ok i.size w:=by
 simp [sizeOf,typeInfo,h]
def pev (σ:PS):Operand→PV
 | .tmp t=>(σ.t t).bare
 | .const v=>pvC v
 | .func f=>cond (Nat.blt f 1000000) (.fn f []) .undef
 | .global g=>globPV g globTab
end
section
open Go.RowKit
variable {Φ0:Ent} {W:World} {M:Nat} {Φ:Imm} {μ:Nat→Option Nat} {ω:Nat→Option Who} {σ:PS} {a:Act} {w:World}
theorem RelG.ev (h:RelG Φ0 W M Φ μ ω σ a w) (x:Operand):Rep Φ μ (pev σ x) (a.eval x):=by
 cases x with
 |tmp t=>exact (h.tmps t).bare
 |const v=>exact rep_pvC v
 |func f=>
  simp only [pev]
  cases hb:Nat.blt f 1000000 with
  |false=>exact .undef _
  |true=>
   have h1:=(RepL.nil (Φ:=Φ) (μ:=μ)).fn f
   have hlt:f < 1000000:=by simpa [Nat.blt_eq] using hb
   unfold fnV at h1
   rw [if_pos hlt] at h1
   exact h1
 |global g=>exact globPV_rep globTab fun x hx j z e=>(h.ext _ _ _ (Φ0.glob x hx j z e)).1
theorem pev_own (σ:PS) (x:Operand):(pev σ x).ownB=false:=by
 cases x with
 |tmp t=>exact PV.bare_own _
 |const v=>exact pvC_own v
 |func f=>
  show (cond (Nat.blt f 1000000) (PV.fn f []) .undef).ownB=false
  cases Nat.blt f 1000000<;>rfl
 |global g=>exact globPV_own g _
end
section
open Go.RowKit
def asVal (agg:Bool) (k:Nat) (cs:List PV) (off:Nat):Option PV:=
 if agg then (if off+k≤cs.length then some (.agg (((cs.drop off).take k).map PV.bare)) else none) else (cs[off]?).map PV.bare
def ploadAt (x:TyI) (b:Nat→Option (List PV)):PV→Option PV
 | .ptr id off=>match b id with
  |some bs=>asVal x.agg x.size bs off
  |none=>none
 | .ep cs off=>asVal x.agg x.size cs off
 |_=>none
end
section
open Go.RowKit
variable {Φ0:Ent} {W:World} {M:Nat} {Φ:Imm} {μ:Nat→Option Nat} {ω:Nat→Option Who} {σ:PS} {a:Act} {w:World} {P:Program}
theorem load_cells {cs:List PV} {off b o:Nat} {us:Nat→Value} {t:TypeId} {x:TyI} {p:PV} (ht:tyI P t=some x) (hc:∀j,j < cs.length→w.cell? ⟨b,o+j,none⟩=some (us j)) (hr:∀j c,cs[j]? = some c→Rep Φ μ c (us j)) (hp:asVal x.agg x.size cs off=some p) :
  ∃v,(loadVar t ⟨b,o+off,none⟩).run P w = .ok v w∧Rep Φ μ p v∧p.ownB=false:=by
 obtain ⟨i,d,z,h1,h2,h3,h4,-,rfl⟩:=tyI_parts ht
 simp only [asVal] at hp
 unfold loadVar
 simp only [Sem.run_bind,run_isAgg h2,Result.andThen_ok]
 split at hp
 ·rename_i hagg
  split at hp
  ·rename_i hle
   cases hp
   simp only [hagg,if_true,Sem.run_bind,run_size h1,Result.andThen_ok]
   have hlen:((List.range i.size).map (fun j=>us (off+j))).length=i.size:=by simp
   have:=(run_loadCells_list (P:=P) (w:=w) ⟨b,o+off,none⟩ ((List.range i.size).map (fun j=>us (off+j))) (by
    intro j v hj
    simp only [List.getElem?_map] at hj
    obtain ⟨j',hj',rfl⟩:=Option.map_eq_some_iff.1 hj
    have hlt:j < i.size:=by
     have:=(List.getElem?_eq_some_iff.1 hj').1
     simpa using this
    simp [hlt] at hj'
    subst hj'
    rw [Addr.add_lit,Nat.add_assoc]
    exact hc (off+j) (by omega)))
   rw [hlen] at this
   rw [this]
   refine ⟨_,rfl,?_,rfl⟩
   have:RepL Φ μ (((cs.drop off).take i.size).map PV.bare) ((List.range i.size).map (fun j=>us (off+j))):=by
    refine ⟨by simp;omega,fun j c u hj hu=>?_⟩
    simp only [List.getElem?_map] at hj hu
    obtain ⟨c',hc',rfl⟩:=Option.map_eq_some_iff.1 hj
    obtain ⟨j',hj',rfl⟩:=Option.map_eq_some_iff.1 hu
    have hlt:j < i.size:=by
     have:=(List.getElem?_eq_some_iff.1 hj').1
     simpa using this
    simp [hlt] at hj'
    subst hj'
    rw [List.getElem?_take,if_pos hlt,List.getElem?_drop] at hc'
    exact (hr _ _ hc').bare
   exact this.agg
  ·cases hp
 ·rename_i hagg
  obtain ⟨c,hc',rfl⟩:=Option.map_eq_some_iff.1 hp
  have hagg' : aggD d=false:=by simpa using hagg
  simp only [hagg',Bool.false_eq_true,if_false]
  have hlt:=(List.getElem?_eq_some_iff.1 hc').1
  refine ⟨us off,?_,(hr off c hc').bare,PV.bare_own _⟩
  simp [hc off hlt]
theorem RelG.load (h:RelG Φ0 W M Φ μ ω σ a w) {t:TypeId} {x:TyI} (ht:tyI P t=some x) {q p:PV} {v:Value} (hv:Rep Φ μ q v) (hp:ploadAt x σ.b q=some p):∃u,(Instr.loadAt t v).run P w = .ok u w∧Rep Φ μ p u∧p.ownB=false:=by
 cases q with
 |ptr id off=>
  obtain ⟨g,hg,rfl⟩:=hv.ptr_inv
  simp only [ploadAt] at hp
  split at hp
  ·rename_i bs hbs
   obtain ⟨g',cur,T,k1,k2,k3,k4,k5,k6,k7⟩:=h.box id bs hbs
   rw [hg] at k1;cases k1
   have:=load_cells (P:=P) (w:=w) (Φ:=Φ) (μ:=μ) (cs:=bs) (off:=off) (b:=g) (o:=0) (us:=fun j=>cur.getD j undef) ht (by
    intro j hj
    have:w.cell? ⟨g,0+j,none⟩=cur[j]?:=by simp [World.cell?,k2]
    rw [this,Array.getElem?_eq_getElem (by omega)]
    have hjc:j < cur.size:=by omega
    simp [Array.getD,hjc]) (by
    intro j c hc
    obtain ⟨u,r1,r2,r3,-⟩:=k7 j c hc
    have:cur.getD j undef=u:=by simp [Array.getD_eq_getD_getElem?,r1]
    rw [this];exact r3) hp
   obtain ⟨u,r1,r2,r3⟩:=this
   refine ⟨u,?_,r2,r3⟩
   simpa [Instr.loadAt,Instr.sureAddr] using r1
  ·cases hp
 |ep cs off=>
  obtain ⟨b,o,us,rfl,h1,h2⟩:=hv.ep_inv
  obtain ⟨u,r1,r2,r3⟩:=load_cells (P:=P) (w:=w) (off:=off) ht (fun j hj=>h.imm _ _ _ (h1 j hj)) h2 hp
  refine ⟨u,?_,r2,r3⟩
  simpa [Instr.loadAt,Instr.sureAddr] using r1
 |_=>simp [ploadAt] at hp
end
section
open Go.RowKit
def pbin (op:BinOp):Value→Value→Option Value
 | .int k x, .int k' y=>
  match op with
  | .shl=>if 0≤y then some (.int k (k.wrap (x * 2 ^ (min y.toNat k.bits)))) else none
  | .shr=>if 0≤y then some (.int k (x.fdiv (2 ^ (min y.toNat k.bits)))) else none
  | .add=>if k=k' then some (.int k (k.wrap (x+y))) else none
  | .sub=>if k=k' then some (.int k (k.wrap (x - y))) else none
  | .mul=>if k=k' then some (.int k (k.wrap (x * y))) else none
  | .quo=>if k=k'∧y≠0 then some (.int k (k.wrap (x.tdiv y))) else none
  | .rem=>if k=k'∧y≠0 then some (.int k (x.tmod y)) else none
  | .and=>if k=k' then some (.int k (k.wrap (BitVec.ofInt k.bits x &&& BitVec.ofInt k.bits y).toNat)) else none
  | .or=>if k=k' then some (.int k (k.wrap (BitVec.ofInt k.bits x ||| BitVec.ofInt k.bits y).toNat)) else none
  | .xor=>if k=k' then some (.int k (k.wrap (BitVec.ofInt k.bits x ^^^ BitVec.ofInt k.bits y).toNat)) else none
  | .eql=>if k=k' then some (.bool (x == y)) else none
  | .neq=>if k=k' then some (.bool (x != y)) else none
  | .lss=>if k=k' then some (.bool (decide (x < y))) else none
  | .leq=>if k=k' then some (.bool (decide (x≤y))) else none
  | .gtr=>if k=k' then some (.bool (decide (x > y))) else none
  | .geq=>if k=k' then some (.bool (decide (x≥y))) else none
  |_=>none
 | .string x, .string y=>
  match op with
  | .eql=>some (.bool (x.toList == y.toList))
  | .neq=>some (.bool !(x.toList == y.toList))
  | .lss=>some (.bool (Op.bytesLess x.toList y.toList))
  | .leq=>some (.bool (Op.bytesLess x.toList y.toList || x.toList == y.toList))
  | .gtr=>some (.bool !(Op.bytesLess x.toList y.toList || x.toList == y.toList))
  | .geq=>some (.bool !(Op.bytesLess x.toList y.toList))
  |_=>none
 |_,_=>none
theorem pbin_sound {P : Program} {w : World} {op : BinOp} {t : TypeId} {x y : Operand} {u v r : Value} (h : pbin op u v = some r) : (do eqGuard op t x y u v; binOp op t u v : Sem Value).run P w = .ok r w ∧ plainV r = true := by
  unfold pbin at h
  split at h
  · rename_i k a k' b
    have hg : (eqGuard op t x y (.int k a) (.int k' b)).run P w = .ok () w := by
      unfold eqGuard; split <;> simp
    rw [Sem.run_bind, hg, Result.andThen_ok]
    cases op <;> simp only [] at h <;> first
      | (cases h; done)
      | (split at h
         · rename_i hk
           cases h
           refine ⟨?_, rfl⟩
           first
             | (obtain ⟨rfl, hy⟩ := hk; simp [binOp, Op.intDiv, hy]; done)
             | (subst hk; simp [binOp, Op.intArith, Op.intBits, Op.intCmp]; done)
             | (simp [binOp, Op.shift, Int.not_lt.2 hk]; done)
         · cases h)
  · rename_i a b
    have hg : (eqGuard op t x y (.string a) (.string b)).run P w = .ok () w := by
      unfold eqGuard; split <;> simp
    rw [Sem.run_bind, hg, Result.andThen_ok]
    cases op <;> simp only [] at h <;> first
      | (cases h; done)
      | (cases h; exact ⟨by simp [binOp, Op.stringOp], rfl⟩)
  · cases h
def pbinB (op:BinOp):TD→Value→Value→Option Value
 | .bool, .bool a, .bool b=>match op with
  | .eql=>some (.bool (a == b))
  | .neq=>some (.bool (a != b))
  |_=>none
 |_,_,_=>none
theorem pbinB_sound {P:Program} {w:World} {op:BinOp} {t:TypeId} {x y:Operand} {u v r:Value} {ti:TyI} (ht:tyI P t=some ti) (h:pbinB op ti.kind u v=some r):(do eqGuard op t x y u v;binOp op t u v:Sem Value).run P w = .ok r w∧plainV r=true:=by
 obtain ⟨i,d,z,h1,h2,h3,h4,-,rfl⟩:=tyI_parts ht
 simp only at h
 unfold pbinB at h
 split at h
 ·rename_i a b hd
  have hd' : d = .bool:=by
   cases d with
   |bool=>rfl
   |slice e=>simp only [tdOf] at hd;split at hd<;>(try split at hd)<;>(try split at hd)<;>cases hd
   |struct fs=>simp only [tdOf] at hd;split at hd<;>cases hd
   |array n e=>simp only [tdOf] at hd;split at hd<;>cases hd
   |pointer e=>simp only [tdOf] at hd;split at hd<;>(try split at hd)<;>cases hd
   |_=>cases hd
  subst hd'
  have hg:(eqGuard op t x y (.bool a) (.bool b)).run P w = .ok () w:=by
   unfold eqGuard;split<;>simp
  rw [Sem.run_bind,hg,Result.andThen_ok]
  have he:(Op.equal t (.bool a) (.bool b)).run P w = .ok (a == b) w:=by
   unfold Op.equal
   rw [show Op.maxDepth=9999+1 from rfl,Op.equalIn]
   simp only [Sem.run_bind,run_underlying h2,Result.andThen_ok]
   simp
  cases op<;>simp only [] at h<;>first
   |(cases h;done)
   |(cases h;exact ⟨by simp only [binOp,Sem.run_bind,he,Result.andThen_ok];simp [bne],rfl⟩)
 ·cases h
def pun (op:UnOp):Value→Option Value
 | .bool b=>match op with
  | .not=>some (.bool !b)
  |_=>none
 | .int k n=>match op with
  | .neg=>some (.int k (k.wrap (0 - n)))
  | .xor=>some (.int k (k.wrap (BitVec.ofInt k.bits (if k.signed then -1 else k.max) ^^^ BitVec.ofInt k.bits n).toNat))
  |_=>none
 |_=>none
theorem pun_sound {P:Program} {w:World} {op:UnOp} {u r:Value} (h:pun op u=some r):(Op.unary op u).run P w = .ok r w∧plainV r=true:=by
 unfold pun at h
 split at h
 ·cases op<;>simp only [] at h<;>first|(cases h;done)|(cases h;exact ⟨by simp [Op.unary],rfl⟩)
 ·cases op<;>simp only [] at h<;>first|(cases h;done)|(cases h;refine ⟨?_,rfl⟩;simp [Op.unary,Op.intArith];done)|(cases h;refine ⟨?_,rfl⟩;simp [Op.unary,Op.intBits];done)
 ·cases h
def pfield (l:List (Nat×Nat×Bool)) (f:Nat):PV→Option PV
 | .ptr id o=>match l[f]? with
  |some (off,size,_)=>if size≠0 then some (.ptr id (o+off)) else none
  |none=>none
 | .ep cs o=>match l[f]? with
  |some (off,size,_)=>if size≠0 then some (.ep cs (o+off)) else none
  |none=>none
 |_=>none
theorem mapM_get {α β:Type} (g:α→Option β):∀(l:List α) (r:List β),l.mapM g=some r→∀(j:Nat) b,r[j]? = some b→∃x,l[j]? = some x∧g x=some b
 | [],r,h,j,b,hj=>by simp at h;subst h;simp at hj
 |x :: l,r,h,j,b,hj=>by
  rw [List.mapM_cons] at h
  cases hx:g x with
  |none=>rw [hx] at h;simp at h
  |some y=>
   rw [hx] at h
   cases hl:l.mapM g with
   |none=>rw [hl] at h;simp at h
   |some r' =>
    rw [hl] at h
    simp at h
    subst h
    cases j with
    |zero=>simp at hj;subst hj;exact ⟨x,rfl,hx⟩
    |succ j=>simp at hj;simpa using mapM_get g l r' hl j b hj
theorem mapM_len {α β:Type} (g:α→Option β):∀(l:List α) (r:List β),l.mapM g=some r→r.length=l.length
 | [],r,h=>by simp at h;subst h;rfl
 |x :: l,r,h=>by
  rw [List.mapM_cons] at h
  cases hx:g x with
  |none=>rw [hx] at h;simp at h
  |some y=>
   rw [hx] at h
   cases hl:l.mapM g with
   |none=>rw [hl] at h;simp at h
   |some r' =>
    rw [hl] at h
    simp at h
    subst h
    simp [mapM_len g l r' hl]
theorem struct_get {P:Program} {t:TypeId} {ti:TyI} (ht:tyI P t=some ti) {l:List (Nat×Nat×Bool)} (hk:ti.kind = .struct l):∃fs,P.underlying t=some (.struct fs)∧l.length=fs.size ∧
  ∀(f off size:Nat) (agg:Bool),l[f]? = some (off,size,agg)→∃(fd:Field) (i:TypeInfo) (d:TypeDesc),fs[f]? = some fd∧fd.offset=off∧P.info? fd.type=some i∧i.size=size∧P.underlying fd.type=some d∧aggD d=agg:=by
 obtain ⟨i,d,z,h1,h2,h3,h4,-,rfl⟩:=tyI_parts ht
 simp only at hk
 have:∃fs,d = .struct fs:=by
  cases d with
  |struct fs=>exact ⟨fs,rfl⟩
  |slice e=>simp only [tdOf] at hk;split at hk<;>(try split at hk)<;>(try split at hk)<;>cases hk
  |array n e=>simp only [tdOf] at hk;split at hk<;>cases hk
  |pointer e=>simp only [tdOf] at hk;split at hk<;>(try split at hk)<;>cases hk
  |_=>cases hk
 obtain ⟨fs,rfl⟩:=this
 simp only [tdOf] at hk
 split at hk
 ·rename_i l' hm
  cases hk
  refine ⟨fs,h2,by simpa using mapM_len _ _ _ hm,fun f off size agg hl=>?_⟩
  obtain ⟨fd,hf,hg⟩:=mapM_get _ _ _ hm f _ hl
  split at hg
  ·rename_i i' d' e1 e2
   simp only [Option.some.injEq,Prod.mk.injEq] at hg
   exact ⟨fd,i',d',by simpa using hf,hg.1,e1,hg.2.1,e2,hg.2.2⟩
  ·cases hg
 ·cases hk
theorem slice_get {P:Program} {t:TypeId} {ti:TyI} (ht:tyI P t=some ti) {e k by_:Nat} {zr:List PV} (hk:ti.kind = .slice e k by_ zr):P.underlying t=some (.slice e) ∧
  ∃(i:TypeInfo) (z:Value),P.info? e=some i∧i.zero=some z∧i.size=k∧i.bytes=by_∧z.cells.size=k∧0 < k∧(∀c∈z.cells.toList,c.oneCell' = true)∧zr=z.cells.toList.map pv0:=by
 obtain ⟨i,d,z,h1,h2,h3,h4,-,rfl⟩:=tyI_parts ht
 simp only at hk
 have:∃e,d = .slice e:=by
  cases d with
  |slice e=>exact ⟨e,rfl⟩
  |struct fs=>simp only [tdOf] at hk;split at hk<;>cases hk
  |array n e=>simp only [tdOf] at hk;split at hk<;>cases hk
  |pointer e=>simp only [tdOf] at hk;split at hk<;>(try split at hk)<;>cases hk
  |_=>cases hk
 obtain ⟨e',rfl⟩:=this
 simp only [tdOf] at hk
 split at hk
 ·rename_i i' hi
  split at hk
  ·rename_i z' hz
   split at hk
   ·rename_i hc
    cases hk
    exact ⟨h2,i',z',hi,hz,rfl,rfl,by simpa using hc.1,hc.2.1,fun c hcm=>List.all_eq_true.1 hc.2.2 c hcm,rfl⟩
   ·cases hk
  ·cases hk
 ·cases hk
theorem arr_get {P:Program} {t:TypeId} {ti:TyI} (ht:tyI P t=some ti) {n e k:Nat} {ag:Bool} (hk:ti.kind = .arr n e k ag):P.underlying t=some (.array n e)∧∃(i:TypeInfo) (d:TypeDesc),P.info? e=some i∧i.size=k∧P.underlying e=some d∧aggD d=ag:=by
 obtain ⟨i,d,z,h1,h2,h3,h4,-,rfl⟩:=tyI_parts ht
 simp only at hk
 have:∃n e,d = .array n e:=by
  cases d with
  |array n e=>exact ⟨n,e,rfl⟩
  |struct fs=>simp only [tdOf] at hk;split at hk<;>cases hk
  |slice e=>simp only [tdOf] at hk;split at hk<;>(try split at hk)<;>(try split at hk)<;>cases hk
  |pointer e=>simp only [tdOf] at hk;split at hk<;>(try split at hk)<;>cases hk
  |_=>cases hk
 obtain ⟨n',e',rfl⟩:=this
 simp only [tdOf] at hk
 split at hk
 ·rename_i i' d' hi hd
  cases hk
  exact ⟨h2,i',d',hi,rfl,hd,rfl⟩
 ·cases hk
theorem parr_get {P:Program} {t:TypeId} {ti:TyI} (ht:tyI P t=some ti) {n e k:Nat} (hk:ti.kind = .parr n e k):∃t',P.underlying t=some (.pointer t')∧P.underlying t' = some (.array n e)∧∃(i:TypeInfo),P.info? e=some i∧i.size=k:=by
 obtain ⟨i,d,z,h1,h2,h3,h4,-,rfl⟩:=tyI_parts ht
 simp only at hk
 have:∃t',d = .pointer t':=by
  cases d with
  |pointer e=>exact ⟨e,rfl⟩
  |struct fs=>simp only [tdOf] at hk;split at hk<;>cases hk
  |slice e=>simp only [tdOf] at hk;split at hk<;>(try split at hk)<;>(try split at hk)<;>cases hk
  |array n e=>simp only [tdOf] at hk;split at hk<;>cases hk
  |_=>cases hk
 obtain ⟨t',rfl⟩:=this
 simp only [tdOf] at hk
 split at hk
 ·rename_i n' e' hu
  split at hk
  ·rename_i i' hi
   cases hk
   exact ⟨t',h2,hu,i',hi,rfl⟩
  ·cases hk
 ·cases hk
 ·cases hk
theorem kind_ptr {P:Program} {t:TypeId} {ti:TyI} (ht:tyI P t=some ti) (hk:ti.kind = .ptr):∃e,P.underlying t=some (.pointer e):=by
 obtain ⟨i,d,z,h1,h2,h3,h4,-,rfl⟩:=tyI_parts ht
 simp only at hk
 cases d with
 |pointer e=>exact ⟨e,h2⟩
 |struct fs=>simp only [tdOf] at hk;split at hk<;>cases hk
 |slice e=>simp only [tdOf] at hk;split at hk<;>(try split at hk)<;>(try split at hk)<;>cases hk
 |array n e=>simp only [tdOf] at hk;split at hk<;>cases hk
 |_=>cases hk
theorem kind_func {P:Program} {t:TypeId} {ti:TyI} (ht:tyI P t=some ti) (hk:ti.kind = .func):∃p r v,P.underlying t=some (.func p r v):=by
 obtain ⟨i,d,z,h1,h2,h3,h4,-,rfl⟩:=tyI_parts ht
 simp only at hk
 cases d with
 |func p r v=>exact ⟨p,r,v,h2⟩
 |struct fs=>simp only [tdOf] at hk;split at hk<;>cases hk
 |slice e=>simp only [tdOf] at hk;split at hk<;>(try split at hk)<;>(try split at hk)<;>cases hk
 |array n e=>simp only [tdOf] at hk;split at hk<;>cases hk
 |pointer e=>simp only [tdOf] at hk;split at hk<;>(try split at hk)<;>cases hk
 |_=>cases hk
theorem kind_map {P:Program} {t:TypeId} {ti:TyI} (ht:tyI P t=some ti) {k e:TypeId} (hk:ti.kind = .map k e):P.underlying t=some (.map k e):=by
 obtain ⟨i,d,z,h1,h2,h3,h4,-,rfl⟩:=tyI_parts ht
 simp only at hk
 cases d with
 |map k' e' => cases hk;exact h2
 |struct fs=>simp only [tdOf] at hk;split at hk<;>cases hk
 |slice e=>simp only [tdOf] at hk;split at hk<;>(try split at hk)<;>(try split at hk)<;>cases hk
 |array n e=>simp only [tdOf] at hk;split at hk<;>cases hk
 |pointer e=>simp only [tdOf] at hk;split at hk<;>(try split at hk)<;>cases hk
 |_=>cases hk
theorem kind_int {P:Program} {t:TypeId} {ti:TyI} (ht:tyI P t=some ti) {k:IntKind} (hk:ti.kind = .int k):P.underlying t=some (.int k):=by
 obtain ⟨i,d,z,h1,h2,h3,h4,-,rfl⟩:=tyI_parts ht
 simp only at hk
 cases d with
 |int k' => cases hk;exact h2
 |struct fs=>simp only [tdOf] at hk;split at hk<;>cases hk
 |slice e=>simp only [tdOf] at hk;split at hk<;>(try split at hk)<;>(try split at hk)<;>cases hk
 |array n e=>simp only [tdOf] at hk;split at hk<;>cases hk
 |pointer e=>simp only [tdOf] at hk;split at hk<;>(try split at hk)<;>cases hk
 |_=>cases hk
theorem kind_str {P:Program} {t:TypeId} {ti:TyI} (ht:tyI P t=some ti) (hk:ti.kind = .str):P.underlying t=some .string:=by
 obtain ⟨i,d,z,h1,h2,h3,h4,-,rfl⟩:=tyI_parts ht
 simp only at hk
 cases d with
 |string=>exact h2
 |struct fs=>simp only [tdOf] at hk;split at hk<;>cases hk
 |slice e=>simp only [tdOf] at hk;split at hk<;>(try split at hk)<;>(try split at hk)<;>cases hk
 |array n e=>simp only [tdOf] at hk;split at hk<;>cases hk
 |pointer e=>simp only [tdOf] at hk;split at hk<;>(try split at hk)<;>cases hk
 |_=>cases hk
end
section
open Go.RowKit
variable {Φ:Imm} {μ:Nat→Option Nat} {w:World} {P:Program}
theorem field_sound {s:TypeId} {ti:TyI} (ht:tyI P s=some ti) {l:List (Nat×Nat×Bool)} (hk:ti.kind = .struct l) {q p:PV} {v:Value} {f:Nat} (hv:Rep Φ μ q v) (hp:pfield l f q=some p) :
  ∃u,(Instr.fieldAt s v f).run P w = .ok u w∧Rep Φ μ p u∧p.ownB=false:=by
 obtain ⟨fs,hu,-,hget⟩:=struct_get ht hk
 cases q with
 |ptr id o=>
  simp only [pfield] at hp
  split at hp
  ·rename_i off size agg hl
   split at hp
   ·rename_i hs
    cases hp
    obtain ⟨fd,i,d,e1,e2,e3,e4,-,-⟩:=hget f _ _ _ hl
    obtain ⟨g,hg,rfl⟩:=hv.ptr_inv
    refine ⟨.pointer (some ⟨g,o+off,none⟩),?_, .ptr _ _ g hg,rfl⟩
    have hsz:i.size≠0:=by rw [e4];exact hs
    simp [Instr.fieldAt,run_underlying hu,e1,Instr.sureAddr,fieldPlace,run_size e3,hsz,Addr.add_lit,e2]
   ·cases hp
  ·cases hp
 |ep cs o=>
  simp only [pfield] at hp
  split at hp
  ·rename_i off size agg hl
   split at hp
   ·rename_i hs
    cases hp
    obtain ⟨fd,i,d,e1,e2,e3,e4,-,-⟩:=hget f _ _ _ hl
    obtain ⟨b,o',us,rfl,k1,k2⟩:=hv.ep_inv
    refine ⟨.pointer (some ⟨b,o' + (o+off),none⟩),?_, .ep _ _ b o' us k1 k2,rfl⟩
    have hsz:i.size≠0:=by rw [e4];exact hs
    simp [Instr.fieldAt,run_underlying hu,e1,Instr.sureAddr,fieldPlace,run_size e3,hsz,Addr.add_lit,e2,Nat.add_assoc]
   ·cases hp
  ·cases hp
 |_=>simp [pfield] at hp
def pindexAt (td:TD):PV→PV→Option PV
 | .sl n k cs _, .val (.int _ i)=>match td with
  | .slice _ k' _ _=>if k' = k∧0≤i∧i < n then some (.ep cs (i.toNat * k)) else none
  |_=>none
 | .msl id o n k, .val (.int _ i)=>match td with
  | .slice _ k' _ _=>if k' = k∧0≤i∧i < n then some (.ptr id (o+i.toNat * k)) else none
  |_=>none
 | .ptr id o, .val (.int _ i)=>match td with
  | .arr n _ k _=>if 0≤i∧i < n then some (.ptr id (o+i.toNat * k)) else none
  |_=>none
 | .ep cs o, .val (.int _ i)=>match td with
  | .arr n _ k _=>if 0≤i∧i < n then some (.ep cs (o+i.toNat * k)) else none
  |_=>none
 |_,_=>none
theorem index_sound {t:TypeId} {ti:TyI} (ht:tyI P t=some ti) {q x p:PV} {v u:Value} (hv:Rep Φ μ q v) (hx:Rep Φ μ x u) (hp:pindexAt ti.kind q x=some p) :
  ∃r,(Instr.indexAt t v u).run P w = .ok r w∧Rep Φ μ p r∧p.ownB=false:=by
 unfold pindexAt at hp
 split at hp
 ·rename_i n k cs own ik i
  obtain ⟨rfl,-⟩:=hx.val_inv
  split at hp
  ·rename_i e k' by_ zr hk
   split at hp
   ·rename_i hc
    obtain ⟨rfl,h0,hn⟩:=hc
    cases hp
    obtain ⟨hu,i',z',e1,e2,e3,e4,e5,e6,-,-⟩:=slice_get ht hk
    obtain ⟨a,b,off,cap,us,rfl,c1,c2,c3,c4,c5,c6⟩:=hv.sl_inv
    obtain rfl:=c4 (by omega)
    refine ⟨.pointer (some ⟨b,off+i.toNat * k',none⟩),?_, .ep _ _ b off us c5 c6,rfl⟩
    simp [Instr.indexAt,asIntOf,run_underlying hu,h0,hn,run_size e1,e3,Addr.add_lit]
   ·cases hp
  ·cases hp
 ·rename_i id o n k ik i
  obtain ⟨rfl,-⟩:=hx.val_inv
  split at hp
  ·rename_i e k' by_ zr hk
   split at hp
   ·rename_i hc
    obtain ⟨rfl,h0,hn⟩:=hc
    cases hp
    obtain ⟨hu,i',z',e1,e2,e3,e4,e5,e6,-,-⟩:=slice_get ht hk
    obtain ⟨a,cap,rfl,c1,c2,c4⟩:=hv.msl_inv
    obtain ⟨g,hg,rfl⟩:=c4 (by omega)
    refine ⟨.pointer (some ⟨g,o+i.toNat * k',none⟩),?_, .ptr _ _ g hg,rfl⟩
    simp [Instr.indexAt,asIntOf,run_underlying hu,h0,hn,run_size e1,e3,Addr.add_lit]
   ·cases hp
  ·cases hp
 ·rename_i id o ik i
  obtain ⟨rfl,-⟩:=hx.val_inv
  split at hp
  ·rename_i n e k ag hk
   split at hp
   ·rename_i hc
    cases hp
    obtain ⟨hu,i',d',e1,e2,e3,e4⟩:=arr_get ht hk
    obtain ⟨g,hg,rfl⟩:=hv.ptr_inv
    refine ⟨.pointer (some ⟨g,o+i.toNat * k,none⟩),?_, .ptr _ _ g hg,rfl⟩
    simp [Instr.indexAt,asIntOf,run_underlying hu,hc.1,hc.2,run_size e1,e2,Addr.add_lit,Instr.sureAddr]
   ·cases hp
  ·cases hp
 ·rename_i cs o ik i
  obtain ⟨rfl,-⟩:=hx.val_inv
  split at hp
  ·rename_i n e k ag hk
   split at hp
   ·rename_i hc
    cases hp
    obtain ⟨hu,i',d',e1,e2,e3,e4⟩:=arr_get ht hk
    obtain ⟨b,o',us,rfl,k1,k2⟩:=hv.ep_inv
    refine ⟨.pointer (some ⟨b,o' + (o+i.toNat * k),none⟩),?_, .ep _ _ b o' us k1 k2,rfl⟩
    simp [Instr.indexAt,asIntOf,run_underlying hu,hc.1,hc.2,run_size e1,e2,Addr.add_lit,Instr.sureAddr,Nat.add_assoc]
   ·cases hp
  ·cases hp
 ·cases hp
end
end Go.Proofs.YtoamkpgaaanafaaGreat
