/- Out of: Base, BitOps, PlainW, Wire, Row, Base3, Base4, Glob, PwA, PwB, PwC, PwD, PwE, Region, PlainA, PlainX, PlainY, PlainZ, PlainS, PlainT, PlainU, Elem, Hu, PwS, RegionB, PlainRt. -/
import Derived.Test.YtoamkpgaaanafaaGreatRows
import Derived.WalkKit
import Derived.WalkSpells
import Derived.WalkLawsBesides
import Derived.Deep.QuietTactic
import Derived.BigQuiet
import Derived.RegionTactic
import Derived.ProofKit
import Derived.OpenShut
import Derived.SizedLaws
import Derived.Lib.AppendZeros
import Derived.Lib.AppendStr
import Derived.Lib.Hide
import Derived.OrdersIn
import Derived.Orders
import GoSem.Step
import Derived.Laws.BytesString
import Derived.Lib.BitFns
namespace Go.Proofs.YtoamkpgaaanafaaGreat
set_option linter.unusedSimpArgs false
set_option linter.unusedVariables false
set_option linter.unnecessarySimpa false
section
open Go.RowKit
def Rd (w:World) (v:Value) (cs:List Value):Prop:=
 ∃a cap b off,v = .slice a cs.length cap∧cs.length≤cap∧cap≤maxLen∧(0 < cs.length→a=some ⟨b,off,none⟩) ∧
  ∀j u,cs[j]? = some u→w.cell? ⟨b,off+j,none⟩=some u
def Ints (w:World) (v:Value) (zs:List Int):Prop:=Rd w v (zs.map (Value.int .i64))
theorem Rd.below {w w' : World} {v:Value} {cs:List Value} (h:Rd w v cs) (hb:Below w.heap.size w w'):Rd w' v cs:=by
 obtain ⟨a,cap,b,off,h1,h2,h3,h4,h5⟩:=h
 refine ⟨a,cap,b,off,h1,h2,h3,h4,fun j u hu=>?_⟩
 have:=h5 j u hu
 rw [←this]
 exact hb.cell (World.block_lt_of_cell? _ _ this)
theorem Ints.open {w:World} {v:Value} {zs:List Int} (h:Ints w v zs):∃a cap b off,v = .slice a zs.length cap∧zs.length≤cap∧cap≤maxLen ∧
  (0 < zs.length→a=some ⟨b,off,none⟩)∧Hid (∀j x,zs[j]? = some x→w.cell? ⟨b,off+j,none⟩=some (.int .i64 x)):=by
 obtain ⟨a,cap,b,off,h1,h2,h3,h4,h5⟩:=h
 simp only [List.length_map] at h1 h2 h4
 exact ⟨a,cap,b,off,h1,h2,h3,h4,fun j x hx=>h5 j _ (by simp [hx])⟩
theorem ints_get {α:Type} (zs:List α) (k:Nat) (h:k < zs.length):∃x,zs[k]? = some x:=⟨zs[k],by simp [h]⟩
def Own (B:Nat) (E:TypeId) (w:World) (v:Value) (cs:List Value):Prop:=w.ownsRow B E 1 v cs.length cs
theorem Own.nil (B E w):Own B E w (.slice none 0 0) []:=World.ownsRow_nil w B E 1
theorem Own.rd {B E:Nat} {w:World} {v:Value} {cs:List Value} (h:Own B E w v cs):Rd w v cs:=by
 rcases h.2 with ⟨rfl,hn⟩|⟨g,cap,cur,rfl,hb,hgg,hc,hm,hs,ht⟩
 ·exact ⟨none,0,0,0,by rw [hn],by omega,by unfold maxLen;omega,fun hh=>by omega,fun j u hu=>by
   have:cs = []:=List.eq_nil_of_length_eq_zero hn
   subst this;simp at hu⟩
 ·refine ⟨_,cap,g,0,rfl,hc,hm,fun _=>rfl,fun j u hu=>?_⟩
  have:=World.ownsRow.cells h (g:=g) rfl j u hu
  rw [←this];unfold Addr.add;split<;>simp_all
theorem Own.kept {B E:Nat} {w w' : World} {v:Value} {cs:List Value} (h:Own B E w v cs) (hb:Below w.heap.size w w'):Own B E w' v cs:=by
 refine ⟨h.1,?_⟩
 rcases h.2 with hn|⟨g,cap,cur,rfl,hb1,hgg,rest⟩
 ·exact .inl hn
 ·exact .inr ⟨g,cap,cur,rfl,hb1,by rw [hb.block g (Array.getElem?_eq_some_iff.1 hgg).1];exact hgg,rest⟩
theorem Own.alloc {B E:Nat} {w:World} {v:Value} {cs:List Value} (h:Own B E w v cs) (o:Obj):Own B E (w.alloc o) v cs:=World.ownsRow.alloc h o
theorem Own.drewN {B E:Nat} {w:World} {v:Value} {cs:List Value} (h:Own B E w v cs) {n:Nat} : Own B E (w.drewN n) v cs:=h
theorem Own.drew {B E:Nat} {w:World} {v:Value} {cs:List Value} (h:Own B E w v cs):Own B E w.drew v cs:=h
structure Elem1 (P:Program) (E:TypeId) (z:Value) (bytes:Nat):Prop where
 info:(P.info? E).map (fun i=>(i.zero,i.size,i.bytes))=some (some z,1,bytes)
 one:z.cells = #[z]
theorem wp_push {P:Program} {ops:Array Oper} {rest:List Oper} {o:Oper} {a:Act} {Q:Exit→Act→World→Prop} {w0:World} (s x:Operand) (t T E bytes:TypeId) (z:Value) (he:Elem1 P E z bytes)
  (hgd:o.guard=none) (ho:o.op = .call { callee:=.builtin .append,args := #[s,x],argTypes := #[t,t] })
  (ht:P.underlying t=some (.slice E)) (B:Nat) (v u:Value) (cs:List Value) (hs:a.eval s=v) (hown:Own B E w0 v cs)
  (hx:a.eval x = .slice (some ⟨w0.heap.size,0,none⟩) 1 1) (h1:u.oneCell' = true)
  (h63:cs.length+1≤maxLen) (hbytes:(cs.length+1) * bytes≤140737488355328) (hB:B≤w0.heap.size)
  (h:∀v' w',Own B E w' v' (cs ++ [u])→Below B w0 w'→wpList P ops Q rest (a.put o.dst v') w'):wpList P ops Q (o :: rest) a (w0.alloc (.cells #[u] T)):=by
 obtain ⟨i0,hi,hz0,hz1,hz2⟩:=info_parts he.info
 refine wpList_append_own _ hgd s x t ho B E i0 z 1 bytes ht hi hz0 hz1 hz2 (by rw [he.one];rfl) (by decide) v cs.length cs hs (World.ownsRow.alloc hown _) ⟨w0.heap.size,0,none⟩ 1 1 [u] hx rfl ?_ ?_ h63 hbytes (by simp;omega) ?_
 ·intro j y hj
  match j,hj with
  |0,hj=>simp at hj;subst hj;simp [Addr.add]
 ·intro y hy;simp at hy;subst hy;exact h1
 ·intro v' w' hown' hg _
  refine h v' w' (by simpa [Own] using hown') ?_
  exact ((Below.refl _ _).alloc hB _).grown hg (by simp;omega) (fun k hk=>(World.ownsRow.lt hown k hk).1)
theorem Own.lit (w:World) (cs:List Value) (E B:Nat) (hB:B≤w.heap.size) (hm:cs.length≤maxLen) :
  Own B E (w.alloc (.cells cs.toArray E)) (.slice (some ⟨w.heap.size,0,none⟩) cs.length cs.length) cs:=
 ⟨by simp, .inr ⟨w.heap.size,cs.length,cs.toArray,rfl,hB,heap_alloc_new w _,Nat.le_refl _,hm,by simp,by simp⟩⟩
def MadeInts (E:TypeId) (w:World) (zs:List Int) (e:Ending) (w' : World):Prop:=
 ∃v,e = .returned v∧Own w.heap.size E w' v (zs.map (Value.int .i64))∧Below w.heap.size w w'
def MadeRow (E:TypeId) (w:World) (cs:List Value) (e:Ending) (w' : World):Prop:=
 ∃v,e = .returned v∧Own w.heap.size E w' v cs∧Below w.heap.size w w'
theorem below_cell {w w' : World} {p:Addr} {v:Value} (h:Below w.heap.size w w') (hc:w.cell? p=some v):w'.cell? p=some v:=
 (h.cell (World.block_lt_of_cell? _ _ hc)).trans hc
theorem Own.block {B E:Nat} {w:World} {v:Value} {cs:List Value} (h:Own B E w v cs) (hne:0 < cs.length):∃g cap,v = .slice (some ⟨g,0,none⟩) cs.length cap∧B≤g∧g < w.heap.size ∧
  Hid (∀(j:Nat) (u:Value),cs[j]? = some u→w.cell? ⟨g,j,none⟩=some u)∧Hid (∀j:Nat,w.frozen? ⟨g,j,none⟩=false) ∧
  Hid (∀(j:Nat) (u:Value),Own B E (w.setCell ⟨g,j,none⟩ u) (.slice (some ⟨g,0,none⟩) cs.length cap) (cs.set j u)):=by
 rcases h.2 with ⟨rfl,hn⟩|⟨g,cap,cur,rfl,hb,hgg,hc,hm,hs,ht⟩
 ·omega
 ·refine ⟨g,cap,rfl,hb,(Array.getElem?_eq_some_iff.1 hgg).1,?_,?_,?_⟩
  ·intro j u hu
   have:=World.ownsRow.cells h (g:=g) rfl j u hu
   rw [←this];unfold Addr.add;split<;>simp_all
  ·intro j;simp [World.frozen?,hgg]
  ·intro j u
   refine ⟨by simp, .inr ⟨g,cap,cur.setIfInBounds j u,by simp,hb,?_,by simpa using hc,hm,by simpa using hs,?_⟩⟩
   ·simp [World.setCell,Array.getElem?_modify,hgg]
   ·simp only [List.length_set,Nat.mul_one] at ht ⊢
    rw [Array.toList_setIfInBounds,List.take_set,ht]
theorem Hid.mk {p:Prop} (h:p):Hid p:=h
theorem ret_bool {a b:Bool} (h:a=b):Ending.returned (.bool a) = .returned (.bool b):=by rw [h]
theorem ret_int {k:IntKind} {a b:Int} (h:a=b):Ending.returned (.int k a) = .returned (.int k b):=by rw [h]
def Still (w w' : World):Prop:=∃n,w' = w.drewN n
theorem Still.refl (w:World):Still w w:=⟨0,rfl⟩
theorem Still.one (w:World) (n:Nat):Still w (w.drewN n):=⟨n,rfl⟩
theorem Still.two (w:World) (n m:Nat):Still w ((w.drewN n).drewN m):=⟨_,World.drewN_drewN _ _ _⟩
theorem Still.below {w w' : World} (h:Still w w') (B:Nat):Below B w w':=by
 obtain ⟨n,rfl⟩:=h
 exact ⟨rfl,rfl,rfl,Nat.le_refl _,fun _ _=>rfl⟩
end
section
theorem wraps_u64 (n:Int) (h₀:0≤n) (h₁:n < 2 ^ 64):IntKind.u64.wrap n=n:=by rw [IntKind.wrap_u64];omega
theorem xor_u64_0 (x:Int) (h0:0≤x) (h1:x < 18446744073709551616):bits .xor .u64 x 0=x:=by
 obtain ⟨a,rfl⟩:∃a:Nat,x=a:=⟨x.toNat,by omega⟩
 have:=bits_xor_u64_nat a 0 (by omega) (by omega)
 simpa using this
theorem xor_u64_ones (x:Int) (h0:0≤x) (h1:x < 18446744073709551616):bits .xor .u64 x 18446744073709551615=18446744073709551615 - x:=by
 obtain ⟨a,rfl⟩:∃a:Nat,x=a:=⟨x.toNat,by omega⟩
 have e:(BitVec.ofInt IntKind.u64.bits 18446744073709551615:BitVec IntKind.u64.bits)=BitVec.allOnes 64:=rfl
 have e2:((BitVec.ofInt IntKind.u64.bits (a:Int):BitVec IntKind.u64.bits) ^^^ BitVec.ofInt IntKind.u64.bits 18446744073709551615).toNat=18446744073709551615 - a:=by
  rw [e]
  show ((BitVec.ofInt 64 (a:Int)) ^^^ BitVec.allOnes 64).toNat=_
  rw [BitVec.xor_allOnes,BitVec.toNat_not,BitVec.toNat_ofInt]
  omega
 show IntKind.u64.wrap _=_
 simp only []
 rw [e2,IntKind.wrap_u64]
 omega
theorem xor_i64_0 (x:Int) (h0 : -9223372036854775808≤x) (h1:x < 9223372036854775808):bits .xor .i64 x 0=x:=by
 have e2:((BitVec.ofInt IntKind.i64.bits x:BitVec IntKind.i64.bits) ^^^ BitVec.ofInt IntKind.i64.bits 0).toNat=(x % 18446744073709551616).toNat:=by
  show ((BitVec.ofInt 64 x) ^^^ BitVec.ofInt 64 0).toNat=_
  rw [show BitVec.ofInt 64 0=0#64 from rfl,BitVec.xor_zero,BitVec.toNat_ofInt]
  rfl
 show IntKind.i64.wrap _=_
 simp only []
 rw [e2,IntKind.wrap_i64]
 omega
theorem xor_i64_ones (x:Int) (h0 : -9223372036854775808≤x) (h1:x < 9223372036854775808):bits .xor .i64 x (-1) = -1 - x:=by
 have e2:((BitVec.ofInt IntKind.i64.bits x:BitVec IntKind.i64.bits) ^^^ BitVec.ofInt IntKind.i64.bits (-1)).toNat=18446744073709551615 - (x % 18446744073709551616).toNat:=by
  show ((BitVec.ofInt 64 x) ^^^ BitVec.ofInt 64 (-1)).toNat=_
  rw [show BitVec.ofInt 64 (-1)=BitVec.allOnes 64 from rfl,BitVec.xor_allOnes,BitVec.toNat_not,BitVec.toNat_ofInt]
  rfl
 show IntKind.i64.wrap _=_
 simp only []
 rw [e2,IntKind.wrap_i64]
 omega
theorem u8_and127 (x:Int) (h₀:0≤x) (h₁:x < 256):bits .and .u8 x 127=x % 128:=bits_mask .u8 8 (by decide) wraps_u8 7 (by decide) x h₀ h₁
theorem u64_and1 (x:Int) (h₀:0≤x) (h₁:x < 18446744073709551616):bits .and .u64 x 1=x % 2:=bits_mask .u64 64 (by decide) wraps_u64 1 (by decide) x h₀ h₁
theorem bits_or_comm (k:IntKind) (x y:Int):bits .or k x y=bits .or k y x:=by
 simp only [bits,BitVec.or_comm]
theorem u8_or128' (q:Int) (h0:0≤q):bits .or .u8 (q % 256) 128=q % 128+128:=by
 obtain ⟨a,rfl⟩:∃a:Nat,q=a:=⟨q.toNat,by omega⟩
 have h:=(bits_nat .u8 8 (by decide) wraps_u8 (a % 256) 128 (by omega) (by omega)).2
 have e:(a % 256 ||| 128:Nat)=a % 128+128:=by
  have key:∀x:Fin 256,(x.val ||| 128:Nat)=x.val % 128+128:=by decide +kernel
  have:=key ⟨a % 256,by omega⟩
  simp only at this
  rw [this];omega
 rw [e] at h
 have c1:((a % 256:Nat):Int)=(a:Int) % 256:=by omega
 have c2:((128:Nat):Int)=128:=rfl
 rw [c1,c2] at h
 rw [h];omega
theorem u64_or_shift (z d:Int) (k:Nat) (hk:k≤9) (hz0:0≤z) (hz:z < 2 ^ (7 * k)) (hd0:0≤d) (hd9:d * 2 ^ (7 * k) < 18446744073709551616) :
  bits .or .u64 z (d * 2 ^ (7 * k))=z+d * 2 ^ (7 * k):=by
 have hp:(0:Int) < 2 ^ (7 * k):=Int.pow_pos (by decide)
 have hle:(2:Int) ^ (7 * k)≤9223372036854775808:=by
  have:(2:Int) ^ (7 * k)≤2 ^ 63:=by
   have h:=Nat.pow_le_pow_right (n:=2) (by decide) (show 7 * k≤63 by omega)
   exact_mod_cast h
  simpa using this
 rw [bits_or_comm,bits_join .u64 64 (by decide) wraps_u64 (7 * k) _ _ (Int.mul_nonneg hd0 (by omega)) (by simp) (by simpa using hd9) hz0 hz (by
  have:(2:Int) ^ 64=18446744073709551616:=by decide
  omega)]
 omega
def zig (n:Int):Nat:=if 0≤n then (2 * n).toNat else (-2 * n - 1).toNat
def unzig (z:Int):Int:=if z % 2=0 then z / 2 else -1 - z / 2
theorem zig_lt (n:Int) (h1 : -9223372036854775808≤n) (h2:n≤9223372036854775807):zig n < 18446744073709551616:=by unfold zig;split<;>omega
theorem unzig_zig (n:Int):unzig (zig n)=n:=by unfold unzig zig;split<;>split<;>omega
def leb (z:Nat):List Int:=if z < 128 then [(z:Int)] else ((z % 128+128:Nat):Int) :: leb (z / 128)
decreasing_by omega
theorem leb_small (z:Nat) (h:z < 128):leb z = [(z:Int)]:=by rw [leb,if_pos h]
theorem leb_big (z:Nat) (h:128≤z):leb z=((z % 128+128:Nat):Int) :: leb (z / 128):=by rw [leb,if_neg (by omega)]
theorem leb_pos (z:Nat):1≤(leb z).length:=by rw [leb];split<;>simp
theorem leb_len (k:Nat):∀z,z < 128 ^ (k+1)→(leb z).length≤k+1:=by
 induction k with
 |zero=>intro z h;rw [leb_small z (by simpa using h)];simp
 |succ k ih=>
  intro z h
  by_cases g:z < 128
  ·rw [leb_small z g];simp
  ·rw [leb_big z (by omega)]
   have:=ih (z / 128) (by rw [Nat.pow_succ] at h;exact Nat.div_lt_of_lt_mul (by omega))
   simp;omega
def intB (n:Int):List Int:=leb (zig n)
theorem leb64 (z:Nat) (h:z < 18446744073709551616):(leb z).length≤10:=leb_len 9 z (by have:128 ^ (9+1)=1180591620717411303424:=rfl;omega)
def getGo:List Int→Nat→Int→Int×Int×Int
 | [],_,_=>(0,0,10)
 |c :: r,k,z=>
  if (k=9∧1 < c)∨(0 < k∧c=0) then (0,0,11)
  else if c < 128 then (unzig (z+c % 128 * 2 ^ (7 * k)),(k:Int)+1,0)
  else getGo r (k+1) (z+c % 128 * 2 ^ (7 * k))
def getI (bs:List Int):Int×Int×Int:=getGo bs 0 0
theorem getGo_drop (bs:List Int) (k:Nat) (c z:Int) (h:bs[k]? = some c):getGo (bs.drop k) k z =
  if (k=9∧1 < c)∨(0 < k∧c=0) then (0,0,11) else if c < 128 then (unzig (z+c % 128 * 2 ^ (7 * k)),(k:Int)+1,0) else getGo (bs.drop (k+1)) (k+1) (z+c % 128 * 2 ^ (7 * k)):=by
 obtain ⟨hk,rfl⟩:=List.getElem?_eq_some_iff.1 h
 rw [List.drop_eq_getElem_cons (by omega),getGo]
theorem getGo_end (bs:List Int) (k:Nat) (z:Int) (h:bs.length≤k):getGo (bs.drop k) k z=(0,0,10):=by
 rw [List.drop_eq_nil_of_le h,getGo]
end
section
open Go.RowKit
theorem elemByte:Elem1 Tryz.prog 5 (.int .u8 0) 1:=⟨by kernel_rfl,rfl⟩
def MadeBytes (w:World) (bs:List Int) (e:Ending) (w' : World):Prop:=
 ∃v,e = .returned v∧Own w.heap.size 5 w' v (bs.map (Value.int .u8))∧Below w.heap.size w w'
def Bytes (w:World) (v:Value) (bs:List Int):Prop:=Rd w v (bs.map (Value.int .u8))
theorem Bytes.open {w:World} {v:Value} {zs:List Int} (h:Bytes w v zs):∃a cap b off,v = .slice a zs.length cap∧zs.length≤cap∧cap≤maxLen ∧
  (0 < zs.length→a=some ⟨b,off,none⟩)∧Hid (∀(j:Nat) (x:Int),zs[j]? = some x→w.cell? ⟨b,off+j,none⟩=some (.int .u8 x)):=by
 obtain ⟨a,cap,b,off,h1,h2,h3,h4,h5⟩:=h
 simp only [List.length_map] at h1 h2 h4
 exact ⟨a,cap,b,off,h1,h2,h3,h4,fun j x hx=>h5 j _ (by simp [hx])⟩
def Byte (bs:List Int):Prop:=∀(k:Nat) (c:Int),bs[k]? = some c→0≤c∧c < 256
theorem zig_walk (n:Int) (h1 : -9223372036854775808≤n) (h2:n≤9223372036854775807) :
  bits BinOp.xor IntKind.u64 (IntKind.u64.wrap (IntKind.u64.wrap n * 2)) (IntKind.u64.wrap (n / 9223372036854775808))=zig n:=by
 simp only [IntKind.wrap_u64]
 by_cases h:0≤n
 ·have e:n / 9223372036854775808 % 18446744073709551616=0:=by omega
  rw [e,xor_u64_0 _ (by omega) (by omega)];unfold zig;rw [if_pos h];omega
 ·have e:n / 9223372036854775808 % 18446744073709551616=18446744073709551615:=by omega
  rw [e,xor_u64_ones _ (by omega) (by omega)];unfold zig;rw [if_neg h];omega
set_option maxRecDepth 100000 in
set_option maxHeartbeats 400000 in
theorem wireInt (n:Int) (w:World) (h1 : -9223372036854775808≤n) (h2:n≤9223372036854775807):Calls Tryz.prog 200 #[.int .i64 n] w (MadeBytes w (intB n)):=by
 have hz:=zig_lt n h1 h2
 have hlen:=leb64 _ hz
 go_enter Tryz.func200,Tryz.ntmps200
 go_wp2
 go_loopw [3,4] (fun z o wr=>∃(q:Nat) (out:List Int),q < 18446744073709551616∧z = .int .u64 q∧out.length≤9∧Own w.heap.size 5 wr o (out.map (Value.int .u8))∧Below w.heap.size w wr∧Hid (intB n=out ++ leb q)) (fun z _ _=>(intOf z).toNat)
 case atStart=>exact ⟨zig n,[],hz,by rw [zig_walk n h1 h2],by simp,Own.nil _ _ _,Below.refl _ _,rfl⟩
 case round=>
  obtain ⟨q,out,hq,rfl,ho,hown,hb,hh⟩:=hrel
  have HB:=Hid.mk hb
  clear hb
  have hb2:=HB.out.size
  by_cases g:127 < q
  ·have H:=Hid.mk (leb_big q (by omega))
   have hl:out.length+1≤9:=by
    have e:=congrArg List.length hh.out
    rw [H.out] at e
    have:=leb_pos (q / 128)
    simp at e
    unfold intB at e
    omega
   have eor:=u8_or128' q (by omega)
   go_wp2_with (at_builtin;refine wp_push (.tmp 16) (.tmp 20) 92 _ 5 1 _ elemByte rfl rfl Tryz.underlying92 w.heap.size _ _ _ rfl hown rfl rfl (by simp [maxLen];omega) (by simp;omega) hb2 ?_;intro v' w' hown' hb')
   go_roundw
   case rel=>exact ⟨q / 128,out ++ [((q % 128+128:Nat):Int)],by omega,by go_num,by simpa using hl,by simpa using hown',HB.out.trans hb',by rw [Hid,hh.out,H.out];simp⟩
   case measure=>simp [intOf];omega
  ·have H:=Hid.mk (leb_small q (by omega))
   go_wp2_with (at_builtin;refine wp_push (.tmp 22) (.tmp 25) 92 _ 5 1 _ elemByte rfl rfl Tryz.underlying92 w.heap.size _ _ _ rfl hown rfl rfl (by simp [maxLen];omega) (by simp;omega) hb2 ?_;intro v' w' hown' hb')
   go_ret
   exact ⟨_,rfl,by rw [hh.out,H.out];simpa using hown',HB.out.trans hb'⟩
set_option maxRecDepth 100000 in
set_option maxHeartbeats 400000 in
theorem refInt (n:Int) (w:World) (h1 : -9223372036854775808≤n) (h2:n≤9223372036854775807):Calls Tryz.prog 211 #[.int .i64 n] w (MadeBytes w (intB n)):=by
 have hz:=zig_lt n h1 h2
 have hlen:=leb64 _ hz
 by_cases hn:n < 0
 all_goals
  go_enter Tryz.func211,Tryz.ntmps211
  go_wp2
  go_loopw [3,4] (fun z o wr=>∃(q:Nat) (out:List Int),q < 18446744073709551616∧z = .int .u64 q∧out.length≤9∧Own w.heap.size 5 wr o (out.map (Value.int .u8))∧Below w.heap.size w wr∧Hid (intB n=out ++ leb q)) (fun z _ _=>(intOf z).toNat)
  case atStart=>exact ⟨zig n,[],hz,by congr 1;simp only [IntKind.wrap_u64,IntKind.wrap_i64,zig];split<;>omega,by simp,Own.nil _ _ _,Below.refl _ _,rfl⟩
  case round=>
   obtain ⟨q,out,hq,rfl,ho,hown,hb,hh⟩:=hrel
   have HB:=Hid.mk hb
   clear hb
   have hb2:=HB.out.size
   by_cases g:127 < q
   ·have H:=Hid.mk (leb_big q (by omega))
    have hl:out.length+1≤9:=by
     have e:=congrArg List.length hh.out
     rw [H.out] at e
     have:=leb_pos (q / 128)
     simp at e
     unfold intB at e
     omega
    go_wp2_with (at_builtin;refine wp_push (.tmp 17) (.tmp 22) 92 _ 5 1 _ elemByte rfl rfl Tryz.underlying92 w.heap.size _ _ _ rfl hown rfl rfl (by simp [maxLen];omega) (by simp;omega) hb2 ?_;intro v' w' hown' hb')
    go_roundw
    case rel=>exact ⟨q / 128,out ++ [((q % 128+128:Nat):Int)],by omega,by go_num,by simpa using hl,by simpa using hown',HB.out.trans hb',by rw [Hid,hh.out,H.out];simp⟩
    case measure=>simp [intOf];omega
   ·have H:=Hid.mk (leb_small q (by omega))
    go_wp2_with (at_builtin;refine wp_push (.tmp 26) (.tmp 29) 92 _ 5 1 _ elemByte rfl rfl Tryz.underlying92 w.heap.size _ _ _ rfl hown rfl rfl (by simp [maxLen];omega) (by simp;omega) hb2 ?_;intro v' w' hown' hb')
    go_ret
    exact ⟨_,rfl,by rw [hh.out,H.out];simpa using hown',HB.out.trans hb'⟩
end
section
open Go.ChangeShapes Go.WideShapes Go.ChangeAt Go.RowKit
theorem own:ownKnob Tryz.prog.godebug=none:=by kernel_rfl
theorem laidOut:laidOutB Tryz.prog=true:=by kernel_rfl
theorem trodAll_below {H:Type} {enc:TypeId×Value→H} {P:Program} (hl:laidOutB P=true) {W W' : World} (hb:Below W.heap.size W W') :
  ∀(ts:List TypeId) (vs:List Value) (ds:List (DataW H)) (ps:List MemPlace),ts.all (fun t=>P.readableRec t && decide (t < P.types.size))=true→DataW.TrodAll enc P W 0 (fun _=>true) true ts vs ds ps →
   (∀x∈ps,x.block < W.heap.size)→DataW.TrodAll enc P W' 0 (fun b=>decide (b < W.heap.size)) true ts vs ds ps
 | [],[],[],ps,_,h,_=>h
 |t :: ts,v :: vs,d :: ds,ps,hr,h,hlt=>by
  obtain ⟨p,q,h1,h2,rfl⟩:=h
  simp only [List.all_cons,Bool.and_eq_true,decide_eq_true_eq] at hr
  exact ⟨p,q,Below.trod hl hr.1.1 hr.1.2 h1 hb (fun x hx=>hlt x (List.mem_append_left _ hx)),trodAll_below hl hb ts vs ds q hr.2 h2 (fun x hx=>hlt x (List.mem_append_right _ hx)),rfl⟩
 | [],[],_ :: _,_,_,h,_=>by simp [DataW.TrodAll] at h
 | [],_ :: _,_,_,_,h,_=>by simp [DataW.TrodAll] at h
 |_ :: _,[],_,_,_,h,_=>by simp [DataW.TrodAll] at h
 |_ :: _,_ :: _,[],_,_,h,_=>by simp [DataW.TrodAll] at h
theorem post_law {H:Type} {enc:TypeId×Value→H} {P:Program} (hl:laidOutB P=true) {f:Func} {s:ChangeSpec} {W W' : World} {args:Array Value} {ds:List (DataW H)} {before:List MemPlace} {tb:TypeId}
  (htb:P.underlying tb=some .bool) (hres:f.resultTypes = #[tb]) (hvars:s.vars = []) (hread:f.params.toList.all (fun t=>P.readableRec t && decide (t < P.types.size))=true)
  (hW:DataW.Whole enc P f.params.toList s.vars false W args.toList ds [] before)
  (hr:(s.fn H (ds ++ [])).results = [.lit (.bool true)]) (ha:(s.fn H (ds ++ [])).args=ds) (hv:(s.fn H (ds ++ [])).vars = [])
  (hb:Below W.heap.size W W'):s.post enc P f false true false false W args (.bool true) W':=by
 have hW':=hW
 obtain ⟨p,q,hA,hV,rfl,_,_⟩:=hW
 rw [hvars] at hV
 obtain ⟨_,rfl⟩:=trodVars_none hV
 refine ⟨ds,[],p ++ [],[],p,[],hW',?_,?_,?_,hb.frame _,fun h=>by cases h⟩
 ·rw [hr,hres]
  exact trodAll_cons_mk (shut_bool htb true) trodAll_mk0
 ·rw [ha]
  exact trodAll_below hl hb _ _ _ _ hread hA (fun x hx=>by simpa using hW'.lt x (by simp [hx]))
 ·rw [hv,hvars];rfl
end
section
open Go.RowKit
theorem wp_append {P:Program} {ops:Array Oper} {rest:List Oper} {o:Oper} {a:Act} {Q:Exit→Act→World→Prop} {w:World} (s x:Operand) (t E:TypeId) (bytes:Nat) (z:Value) (he:Elem1 P E z bytes)
  (hgd:o.guard=none) (ho:o.op = .call { callee:=.builtin .append,args := #[s,x],argTypes := #[t,t] })
  (ht:P.underlying t=some (.slice E)) (B:Nat) (v u:Value) (cs cs2:List Value) (hs:a.eval s=v) (hown:Own B E w v cs)
  (hx:a.eval x=u) (hr:Rd w u cs2) (hne:0 < cs2.length) (h1:∀c∈cs2,c.oneCell' = true)
  (h63:cs.length+cs2.length≤maxLen) (hbytes:(cs.length+cs2.length) * bytes≤140737488355328) (hB:B≤w.heap.size)
  (h:∀v' w',Own B E w' v' (cs ++ cs2)→Below B w w'→wpList P ops Q rest (a.put o.dst v') w'):wpList P ops Q (o :: rest) a w:=by
 obtain ⟨i0,hi,hz0,hz1,hz2⟩:=info_parts he.info
 obtain ⟨aa,cap,b,off,rfl,r2,r3,r4,r5⟩:=hr
 have r4':=r4 hne
 subst r4'
 refine wpList_append_own _ hgd s x t ho B E i0 z 1 bytes ht hi hz0 hz1 hz2 (by rw [he.one];rfl) (by decide) v cs.length cs hs hown ⟨b,off,none⟩ cs2.length cap cs2 hx (by simp) ?_ h1 h63 hbytes hB ?_
 ·intro j y hj
  rw [Addr.add_lit];exact r5 j y hj
 ·intro v' w' hown' hg _
  refine h v' w' (by simpa [Own] using hown') ?_
  exact (Below.refl _ _).grown hg hB (fun k hk=>(World.ownsRow.lt hown k hk).1)
theorem run_append0 {P:Program} (w:World) (t ty e:TypeId) (i:TypeInfo) (ht:P.underlying t=some (.slice e)) (hi:P.info? e=some i) (a a2:Option Addr) (n c c2:Nat) (hnc:n≤c) :
  (Builtin.append_ #[t,t] ty #[.slice a n c, .slice a2 0 c2]).run P w = .ok (.slice a n c) w:=by
 cases a<;>cases a2<;>simp [Builtin.append_,run_underlying ht,sizeOf,typeInfo,hi,Builtin.lenOf,hnc,Builtin.firstCells,loadCells,loadCellsFrom,storeCells]
theorem wp_append0 {P:Program} {ops:Array Oper} {rest:List Oper} {o:Oper} {a:Act} {Q:Exit→Act→World→Prop} {w:World} (s x:Operand) (t E:TypeId) (i:TypeInfo) (hi:P.info? E=some i)
  (hgd:o.guard=none) (ho:o.op = .call { callee:=.builtin .append,args := #[s,x],argTypes := #[t,t] })
  (ht:P.underlying t=some (.slice E)) (b b2:Option Addr) (n c c2:Nat) (hs:a.eval s = .slice b n c) (hx:a.eval x = .slice b2 0 c2) (hnc:n≤c)
  (h:wpList P ops Q rest (a.put o.dst (.slice b n c)) w):wpList P ops Q (o :: rest) a w:=
 Lib.wpList_append_run w hgd s x t t ho _ _ hs hx _ _ (run_append0 w t _ E i ht hi b b2 n c c2 hnc) h
theorem Own.cap {B E:Nat} {w:World} {v:Value} {cs:List Value} (h:Own B E w v cs):∃a c,v = .slice a cs.length c∧cs.length≤c:=by
 rcases h.2 with ⟨rfl,hn⟩|⟨g,cap,cur,rfl,hb,hgg,hc,_⟩
 ·exact ⟨none,0,by rw [hn],by omega⟩
 ·exact ⟨_,cap,rfl,hc⟩
theorem wp_appendR {P:Program} {ops:Array Oper} {rest:List Oper} {o:Oper} {a:Act} {Q:Exit→Act→World→Prop} {w:World} (s x:Operand) (t E:TypeId) (bytes:Nat) (z:Value) (he:Elem1 P E z bytes)
  (hgd:o.guard=none) (ho:o.op = .call { callee:=.builtin .append,args := #[s,x],argTypes := #[t,t] })
  (ht:P.underlying t=some (.slice E)) (B:Nat) (v u:Value) (cs cs2:List Value) (hs:a.eval s=v) (hown:Own B E w v cs)
  (hx:a.eval x=u) (hr:Rd w u cs2) (h1:∀c∈cs2,c.oneCell' = true)
  (h63:cs.length+cs2.length≤maxLen) (hbytes:(cs.length+cs2.length) * bytes≤140737488355328) (hB:B≤w.heap.size)
  (h:∀v' w',Own B E w' v' (cs ++ cs2)→Below B w w'→wpList P ops Q rest (a.put o.dst v') w'):wpList P ops Q (o :: rest) a w:=by
 by_cases hne:0 < cs2.length
 ·exact wp_append s x t E bytes z he hgd ho ht B v u cs cs2 hs hown hx hr hne h1 h63 hbytes hB h
 ·obtain rfl:cs2 = []:=List.eq_nil_of_length_eq_zero (by omega)
  obtain ⟨i0,hi,-⟩:=info_parts he.info
  obtain ⟨b2,c2,-,-,rfl,-⟩:=hr
  obtain ⟨b1,c1,rfl,hc⟩:=hown.cap
  refine wp_append0 s x t E i0 hi hgd ho ht b1 b2 _ c1 c2 hs hx hc (h _ w (by simpa using hown) (Below.refl _ _))
theorem wp_appendStr {P:Program} {ops:Array Oper} {rest:List Oper} {o:Oper} {a:Act} {Q:Exit→Act→World→Prop} {w:World} (s x:Operand) (t ts E:TypeId) (he:Elem1 P E (.int .u8 0) 1)
  (hgd:o.guard=none) (ho:o.op = .call { callee:=.builtin .append,args := #[s,x],argTypes := #[t,ts] })
  (ht:P.underlying t=some (.slice E)) (hts:P.underlying ts=some .string) (B:Nat) (v:Value) (cs:List Value) (st:ByteArray) (hs:a.eval s=v) (hown:Own B E w v cs)
  (hx:a.eval x = .string st) (h63:cs.length+st.size≤1000000000000) (hB:B≤w.heap.size)
  (h:∀v' w',Own B E w' v' (cs ++ Lib.strCells st)→Below B w w'→wpList P ops Q rest (a.put o.dst v') w'):wpList P ops Q (o :: rest) a w:=by
 obtain ⟨i0,hi,hz0,hz1,hz2⟩:=info_parts he.info
 refine Lib.wpList_append_own_string w hgd s x t ts ho B E i0 ht hts hi hz0 hz1 hz2 v cs.length cs hs hown st hx (by unfold maxLen;omega) (by omega) hB ?_
 intro v' w' hown' hg _
 refine h v' w' (by simpa [Own,Lib.strCells_length] using hown') ?_
 exact (Below.refl _ _).grown hg hB (fun k hk=>(World.ownsRow.lt hown k hk).1)
def OwnS (B E k:Nat) (w:World) (v:Value) (rows:List (List Value)):Prop:=w.ownsRow B E k v rows.length rows.flatten∧∀r∈rows,r.length=k
theorem OwnS.nil (B E k:Nat) (w:World):OwnS B E k w (.slice none 0 0) []:=⟨World.ownsRow_nil w B E k,fun r hr=>by simp at hr⟩
theorem OwnS.kept {B E k:Nat} {w w' : World} {v:Value} {rows:List (List Value)} (h:OwnS B E k w v rows) (hb:Below w.heap.size w w'):OwnS B E k w' v rows:=by
 refine ⟨⟨h.1.1,?_⟩,h.2⟩
 rcases h.1.2 with hn|⟨g,cap,cur,rfl,hb1,hgg,rest⟩
 ·exact .inl hn
 ·exact .inr ⟨g,cap,cur,rfl,hb1,by rw [hb.block g (Array.getElem?_eq_some_iff.1 hgg).1];exact hgg,rest⟩
theorem OwnS.cap {B E k:Nat} {w:World} {v:Value} {rows:List (List Value)} (h:OwnS B E k w v rows):∃a cap,v = .slice a rows.length cap∧rows.length≤cap:=by
 rcases h.1.2 with ⟨rfl,hn⟩|⟨g,cap,cur,rfl,hb,hgg,hc,_⟩
 ·exact ⟨none,0,by rw [hn],by omega⟩
 ·exact ⟨_,cap,rfl,hc⟩
theorem flat_getS {α:Type} (k:Nat):∀(rows:List (List α)),(∀r∈rows,r.length=k)→∀(i j:Nat) (r:List α) (u:α),rows[i]? = some r→r[j]? = some u→rows.flatten[i * k+j]? = some u
 | [],_,i,j,r,u,h,_=>by simp at h
 |x :: xs,hk,0,j,r,u,h,hu=>by
  simp at h;subst h
  have hj:j < x.length:=(List.getElem?_eq_some_iff.1 hu).1
  rw [List.flatten_cons,Nat.zero_mul,Nat.zero_add,List.getElem?_append_left hj]
  exact hu
 |x :: xs,hk,i+1,j,r,u,h,hu=>by
  have hx:x.length=k:=hk x (by simp)
  rw [List.flatten_cons,List.getElem?_append_right (by rw [hx,Nat.succ_mul];omega),hx,show (i+1) * k+j - k=i * k+j by rw [Nat.succ_mul];omega]
  exact flat_getS k xs (fun r hr=>hk r (by simp [hr])) i j r u (by simpa using h) hu
theorem OwnS.cells {B E k:Nat} {w:World} {v:Value} {rows:List (List Value)} (h:OwnS B E k w v rows):∃a cap b off,v = .slice a rows.length cap∧rows.length≤cap∧cap≤maxLen∧(0 < rows.length→a=some ⟨b,off,none⟩) ∧
  ∀i j r u,rows[i]? = some r→r[j]? = some u→w.cell? ⟨b,off+i * k+j,none⟩=some u:=by
 rcases h.1.2 with ⟨rfl,hn⟩|⟨g,cap,cur,rfl,hb,hgg,hc,hm,hs,ht⟩
 ·exact ⟨none,0,0,0,by rw [hn],by omega,by unfold maxLen;omega,fun hh=>by omega,fun i j r u hr hu=>by
   have:rows = []:=List.eq_nil_of_length_eq_zero hn
   subst this;simp at hr⟩
 ·refine ⟨_,cap,g,0,rfl,hc,hm,fun _=>rfl,fun i j r u hr hu=>?_⟩
  have:=World.ownsRow.cells h.1 (g:=g) rfl (i * k+j) u (flat_getS k rows h.2 i j r u hr hu)
  rw [←this];unfold Addr.add;split<;>simp_all
def globTab:List (Nat×IntKind×List Int) := []
inductive PV where
 |undef
 |val (v:Value)
 |nilsl
 |sl (n k:Nat) (cs:List PV) (own:Option TypeId)
 |ptr (id off:Nat)
 |msl (id off n k:Nat)
 |ep (cs:List PV) (off:Nat)
 |fn (f:FuncId) (caps:List PV)
 |agg (cs:List PV)
 |tup (vs:List PV)
 |mref (id:Nat)
 deriving Inhabited
def yieldB:Fn→Array Value→Array Value→Bool
 | .yield _,a,b=>a.isEmpty && b.isEmpty
 |_,_,_=>false
def plainV:Value→Bool
 | .bool _ | .int _ _ | .string _ | .nilFunc | .nilIface | .pointer none | .map none=>true
 | .func f a b=>yieldB f a b
 |_=>false
theorem plainV_one {v:Value} (h:plainV v=true):v.oneCell' = true∧v.cells = #[v]:=by
 cases v<;>simp_all [plainV,Value.oneCell',Value.cells]
abbrev Imm:=Nat→Nat→Option Value
def unB (f:Nat):Nat:=f - 1000000
def fnV (f:Nat) (us:Array Value):Value:=if f < 1000000 then .func (.func f) #[] us else .func (.func (unB f)) us #[]
theorem fnV_func (f:Nat) (us:Array Value):∃n p q,fnV f us = .func (.func n) p q:=by unfold fnV;split<;>exact ⟨_,_,_,rfl⟩
inductive Rep (Φ:Imm) (μ:Nat→Option Nat):PV→Value→Prop
 |undef (v:Value):Rep Φ μ .undef v
 |val (v:Value) (h:plainV v=true):Rep Φ μ (.val v) v
 |nilsl:Rep Φ μ .nilsl (.slice none 0 0)
 |sl0 (k:Nat) (own:Option TypeId) (a:Option Addr) (cap:Nat) (h:cap≤maxLen):Rep Φ μ (.sl 0 k [] own) (.slice a 0 cap)
 |sl (n k:Nat) (cs:List PV) (own:Option TypeId) (b off cap:Nat) (us:Nat→Value) (h1:cs.length=n * k) (h2:n≤cap) (h3:cap≤maxLen)
   (hp:∀j,j < cs.length→Φ b (off+j)=some (us j)) (hr:∀j c,cs[j]? = some c→Rep Φ μ c (us j)):Rep Φ μ (.sl n k cs own) (.slice (some ⟨b,off,none⟩) n cap)
 |ptr (id off g:Nat) (h:μ id=some g):Rep Φ μ (.ptr id off) (.pointer (some ⟨g,off,none⟩))
 |msl (id off n k:Nat) (a:Option Addr) (cap:Nat) (h:0 < n→∃g,μ id=some g∧a=some ⟨g,off,none⟩) (h2:n≤cap) (h3:cap≤maxLen):Rep Φ μ (.msl id off n k) (.slice a n cap)
 |ep (cs:List PV) (off b o:Nat) (us:Nat→Value) (hp:∀j,j < cs.length→Φ b (o+j)=some (us j)) (hr:∀j c,cs[j]? = some c→Rep Φ μ c (us j)) :
   Rep Φ μ (.ep cs off) (.pointer (some ⟨b,o+off,none⟩))
 |fn (f:FuncId) (cs:List PV) (us:Nat→Value) (hr:∀j c,cs[j]? = some c→Rep Φ μ c (us j)):Rep Φ μ (.fn f cs) (fnV f ((List.range cs.length).map us).toArray)
 |agg (cs:List PV) (us:Nat→Value) (hr:∀j c,cs[j]? = some c→Rep Φ μ c (us j)):Rep Φ μ (.agg cs) (.agg ((List.range cs.length).map us).toArray)
 |tup (cs:List PV) (us:Nat→Value) (hr:∀j c,cs[j]? = some c→Rep Φ μ c (us j)):Rep Φ μ (.tup cs) (.tuple ((List.range cs.length).map us).toArray)
 |mref (id g:Nat) (h:μ id=some g):Rep Φ μ (.mref id) (.map (some g))
theorem Rep.mono {Φ Φ' : Imm} {μ μ' : Nat→Option Nat} (hΦ:∀b o u,Φ b o=some u→Φ' b o=some u) (hμ:∀i g,μ i=some g→μ' i=some g) {p:PV} {v:Value} (h:Rep Φ μ p v):Rep Φ' μ' p v:=by
 induction h with
 |undef v=>exact .undef v
 |val v h=>exact .val v h
 |nilsl=>exact .nilsl
 |sl0 k own a cap h=>exact .sl0 k own a cap h
 |sl n k cs own b off cap us h1 h2 h3 hp hr ih=>exact .sl n k cs own b off cap us h1 h2 h3 (fun j hj=>hΦ _ _ _ (hp j hj)) ih
 |ptr id off g h=>exact .ptr id off g (hμ _ _ h)
 |msl id off n k a cap h h2 h3=>exact .msl id off n k a cap (fun hn=>by obtain ⟨g,h1,h4⟩:=h hn;exact ⟨g,hμ _ _ h1,h4⟩) h2 h3
 |ep cs off b o us hp hr ih=>exact .ep cs off b o us (fun j hj=>hΦ _ _ _ (hp j hj)) ih
 |fn f cs us hr ih=>exact .fn f cs us ih
 |agg cs us hr ih=>exact .agg cs us ih
 |tup cs us hr ih=>exact .tup cs us ih
 |mref id g h=>exact .mref id g (hμ _ _ h)
theorem Rep.nilsl_inv {Φ:Imm} {μ:Nat→Option Nat} {v:Value} (h:Rep Φ μ .nilsl v):v = .slice none 0 0:=by cases h;rfl
def PV.bare:PV→PV
 | .sl n k cs _=>.sl n k cs none
 |p=>p
def PV.ownB:PV→Bool
 | .sl _ _ _ (some _)=>true
 |_=>false
theorem PV.bare_own (p:PV):p.bare.ownB=false:=by cases p<;>simp [PV.bare,PV.ownB]
theorem PV.bare_bare (p:PV):p.bare.bare=p.bare:=by cases p<;>rfl
theorem PV.bare_of (p:PV) (h:p.ownB=false):p.bare=p:=by
 cases p with
 |sl n k cs own=>cases own<;>simp_all [PV.bare,PV.ownB]
 |_=>rfl
theorem Rep.bare {Φ:Imm} {μ:Nat→Option Nat} {p:PV} {v:Value} (h:Rep Φ μ p v):Rep Φ μ p.bare v:=by
 cases h with
 |sl0 k own a cap h=>exact .sl0 k none a cap h
 |sl n k cs own b off cap us h1 h2 h3 hp hr=>exact .sl n k cs none b off cap us h1 h2 h3 hp hr
 |undef v=>exact .undef v
 |val v h=>exact .val v h
 |nilsl=>exact .nilsl
 |ptr id off g h=>exact .ptr id off g h
 |msl id off n k a cap h h2 h3=>exact .msl id off n k a cap h h2 h3
 |ep cs off b o us hp hr=>exact .ep cs off b o us hp hr
 |fn f cs us hr=>exact .fn f cs us hr
 |agg cs us hr=>exact .agg cs us hr
 |tup cs us hr=>exact .tup cs us hr
 |mref id g h=>exact .mref id g h
inductive Low:PV→Prop
 |undef:Low .undef
 |val (v:Value):Low (.val v)
 |nilsl:Low .nilsl
 |sl (n k:Nat) (cs:List PV) (own:Option TypeId) (h:∀c∈cs,Low c):Low (.sl n k cs own)
 |ep (cs:List PV) (off:Nat) (h:∀c∈cs,Low c):Low (.ep cs off)
 |fn (f:FuncId) (cs:List PV) (h:∀c∈cs,Low c):Low (.fn f cs)
 |agg (cs:List PV) (h:∀c∈cs,Low c):Low (.agg cs)
 |tup (cs:List PV) (h:∀c∈cs,Low c):Low (.tup cs)
theorem mem_of_get {α:Type} {l:List α} {j:Nat} {c:α} (h:l[j]? = some c):c∈l:=List.mem_of_getElem? h
theorem Rep.low {Φ:Imm} {μ μ' : Nat→Option Nat} {p:PV} {v:Value} (h:Rep Φ μ p v) (hl:Low p):Rep Φ μ' p v:=by
 induction h with
 |undef v=>exact .undef v
 |val v h=>exact .val v h
 |nilsl=>exact .nilsl
 |sl0 k own a cap h=>exact .sl0 k own a cap h
 |sl n k cs own b off cap us h1 h2 h3 hp hr ih=>cases hl with|sl _ _ _ _ hl=>exact .sl n k cs own b off cap us h1 h2 h3 hp (fun j c hj=>ih j c hj (hl c (mem_of_get hj)))
 |ptr id off g h=>cases hl
 |msl id off n k a cap h h2 h3=>cases hl
 |ep cs off b o us hp hr ih=>cases hl with|ep _ _ hl=>exact .ep cs off b o us hp (fun j c hj=>ih j c hj (hl c (mem_of_get hj)))
 |fn f cs us hr ih=>cases hl with|fn _ _ hl=>exact .fn f cs us (fun j c hj=>ih j c hj (hl c (mem_of_get hj)))
 |agg cs us hr ih=>cases hl with|agg _ hl=>exact .agg cs us (fun j c hj=>ih j c hj (hl c (mem_of_get hj)))
 |tup cs us hr ih=>cases hl with|tup _ hl=>exact .tup cs us (fun j c hj=>ih j c hj (hl c (mem_of_get hj)))
 |mref id g h=>cases hl
inductive Flat:PV→Prop
 |undef:Flat .undef
 |val (v:Value):Flat (.val v)
 |nilsl:Flat .nilsl
 |agg (cs:List PV) (h:∀c∈cs,Flat c):Flat (.agg cs)
 |tup (cs:List PV) (h:∀c∈cs,Flat c):Flat (.tup cs)
inductive PMap where
 |map (es:List (Nat×PV×PV)) (clock:Nat)
 |iter (mid since:Nat) (seen:List Nat) (last:Nat)
 deriving Inhabited
structure PS where
 t:Nat→PV
 b:Nat→Option (List PV)
 m:Nat→Option PMap
def upd {α:Type} (f:Nat→α) (i:Nat) (x:α) (j:Nat):α:=cond (Nat.beq j i) x (f j)
theorem upd_if {α:Type} (f:Nat→α) (i:Nat) (x:α) (j:Nat):upd f i x j=if j=i then x else f j:=by
 unfold upd
 by_cases h:j=i
 ·subst h;simp
 ·have:Nat.beq j i=false:=by
   cases hb:Nat.beq j i with
   |false=>rfl
   |true=>exact absurd (Nat.eq_of_beq_eq_true hb) h
  rw [this,if_neg h];rfl
theorem upd_same {α:Type} (f:Nat→α) (i:Nat) (x:α):upd f i x i=x:=by simp [upd_if]
theorem upd_ne {α:Type} (f:Nat→α) {i j:Nat} (x:α) (h:j≠i):upd f i x j=f j:=by simp [upd_if,h]
theorem upd_comm {α:Type} (f:Nat→α) {i j:Nat} (x y:α) (h:i≠j):upd (upd f i x) j y=upd (upd f j y) i x:=by
 funext k;simp only [upd_if];by_cases h1:k=i<;>by_cases h2:k=j<;>simp_all
def PS.put (σ:PS) (d:Nat) (p:PV):PS:={ σ with t:=upd σ.t d p }
inductive Who where
 |box (id:Nat)
 |tmp (t:Nat)
 |cell (id off:Nat)
 deriving DecidableEq
def GlobOK (Φ:Imm):Prop:=∀x∈globTab,∀j z,x.2.2[j]? = some z→Φ x.1 j=some (.int x.2.1 z)
def globPV (g:Nat):List (Nat×IntKind×List Int)→PV
 | []=>.undef
 |(g',k,zs) :: l=>cond (Nat.beq g g') (.ep (zs.map fun z=>.val (.int k z)) 0) (globPV g l)
theorem globPV_rep {Φ:Imm} {μ:Nat→Option Nat} {g:Nat} : ∀(l:List (Nat×IntKind×List Int)),(∀x∈l,∀j z,x.2.2[j]? = some z→Φ x.1 j=some (.int x.2.1 z))→Rep Φ μ (globPV g l) (.pointer (some ⟨g,0,none⟩))
 | [],_=>.undef _
 |x :: l,h=>by
  unfold globPV
  cases hb:Nat.beq g x.1 with
  |false=>exact globPV_rep l fun y hy=>h y (List.mem_cons_of_mem _ hy)
  |true=>
   have e:=Nat.eq_of_beq_eq_true hb
   subst e
   refine Rep.ep (Φ:=Φ) (μ:=μ) _ 0 x.1 0 (fun j=>.int x.2.1 (x.2.2.getD j 0)) (fun j hj=>?_) (fun j c hc=>?_)
   ·have hj' : j < x.2.2.length:=by simpa using hj
    rw [Nat.zero_add]
    refine h x (List.mem_cons_self ..) j _ ?_
    rw [List.getD_eq_getElem?_getD,List.getElem?_eq_getElem hj'];rfl
   ·rw [List.getElem?_map] at hc
    cases hz:x.2.2[j]? with
    |none=>rw [hz] at hc;cases hc
    |some z=>
     rw [hz] at hc
     simp only [Option.map_some,Option.some.injEq] at hc
     subst hc
     rw [List.getD_eq_getElem?_getD,hz]
     exact .val _ rfl
theorem globPV_own (g:Nat):∀l,(globPV g l).ownB=false
 | []=>rfl
 |x :: l=>by unfold globPV;cases Nat.beq g x.1 with
  |false=>exact globPV_own g l
  |true=>rfl
def isI64:Value→Bool
 | .int .i64 _=>true
 |_=>false
def Mix (Φ:Imm) (g:Nat):Prop:=∀o u,Φ g o=some u→∃o' u',Φ g o' = some u'∧isI64 u' = false
theorem mix_all {Φ:Imm} {g:Nat} (h:∀o u,Φ g o=some u→isI64 u=false):Mix Φ g:=fun o u e=>⟨o,u,e,h o u e⟩
structure Ent where
 imm:Imm
 giv:Nat→Prop
 mu:Nat→Option Nat
 glob:GlobOK imm
 fl:∀g,giv g→Mix imm g
 marks:List Nat
 round:Option Nat
def collD (m:Nat):Deferred:={ target:=.collected m,args := #[] }
def Mine (Φ0:Ent) (W:World) (g:Nat):Prop:=W.heap.size≤g∨Φ0.giv g
def Old (Φ0:Ent) (W:World) (g:Nat):Prop:=g < W.heap.size∧¬Φ0.giv g
def RndOK (Φ0:Ent) (W:World):Prop:=∀l,Φ0.round=some l→Old Φ0 W l∧∃r,W.heap[l]? = some (.loop r)
theorem Mine.ne {Φ0:Ent} {W:World} {g b:Nat} (h:Mine Φ0 W g) (k:Old Φ0 W b):b≠g:=by
 rintro rfl
 rcases h with h|h
 ·have:=k.1;omega
 ·exact k.2 h
structure Kept (S:Nat→Prop) (w w' : World):Prop where
 os:w'.os=w.os
 tape:w'.tape=w.tape
 output:w'.output=w.output
 size:w.heap.size≤w'.heap.size
 block:∀k,S k→w'.heap[k]? = w.heap[k]?
theorem Kept.refl (S:Nat→Prop) (w:World):Kept S w w:=⟨rfl,rfl,rfl,Nat.le_refl _,fun _ _=>rfl⟩
theorem Kept.trans {S:Nat→Prop} {a b c:World} (h:Kept S a b) (k:Kept S b c):Kept S a c:=
 ⟨k.os.trans h.os,k.tape.trans h.tape,k.output.trans h.output,Nat.le_trans h.size k.size,fun i hi=>(k.block i hi).trans (h.block i hi)⟩
theorem Kept.drew {S:Nat→Prop} {a w:World} (h:Kept S a w):Kept S a w.drew:=⟨h.os,h.tape,h.output,h.size,h.block⟩
theorem Kept.mono {S S' : Nat→Prop} {w w' : World} (h:Kept S w w') (hS:∀k,S' k→S k):Kept S' w w':=⟨h.os,h.tape,h.output,h.size,fun k hk=>h.block k (hS k hk)⟩
theorem Kept.of {B:Nat} {S:Nat→Prop} {w w' : World} (h:Below B w w') (hS:∀k,S k→k < B):Kept S w w':=⟨h.os,h.tape,h.output,h.size,fun k hk=>h.block k (hS k hk)⟩
theorem Kept.to {B:Nat} {S:Nat→Prop} {w w' : World} (h:Kept S w w') (hS:∀k,k < B→S k):Below B w w':=⟨h.os,h.tape,h.output,h.size,fun k hk=>h.block k (hS k hk)⟩
theorem Kept.alloc {Φ0:Ent} {W w:World} (h:Kept (Old Φ0 W) W w) (o:Obj):Kept (Old Φ0 W) W (w.alloc o):=
 h.trans ⟨rfl,rfl,rfl,by simp,fun k hk=>Below.heap_alloc _ _ _ (by have:=hk.1;have:=h.size;omega)⟩
def OwnAt (B:Nat→Prop) (Φ:Imm) (ω:Nat→Option Who) (w:World) (p:Who) (n k:Nat) (E:TypeId) (v:Value):Prop:=
 (v = .slice none 0 0∧n=0)∨(∃g cap cur,v = .slice (some ⟨g,0,none⟩) n cap∧B g∧w.heap[g]? = some (.cells cur E (0,0))∧n≤cap∧cap≤maxLen∧cur.size=cap * k∧ω g=some p∧E < 1000000∧∀j,n * k≤j→Φ g j=none)∨(1000000≤E∧∃ad,v = .slice ad n n)
def BoxAt (B:Nat→Prop) (Φ:Imm) (μ:Nat→Option Nat) (ω:Nat→Option Who) (w:World) (id:Nat) (bs:List PV):Prop:=
 ∃g cur T,μ id=some g∧w.heap[g]? = some (.cells cur T (0,0))∧B g∧ω g=some (.box id)∧(∀j,Φ g j=none)∧bs.length≤cur.size∧∀j c,bs[j]? = some c→∃u,cur[j]? = some u∧u.oneCell' = true∧Rep Φ μ c u ∧
  ∀n k cs E,c = .sl n k cs (some E)→OwnAt B Φ ω w (.cell id j) n k E u
def KeptBy (S:Who→Prop) (Φ Φ' : Imm) (ω ω' : Nat→Option Who) (w w' : World):Prop:=∀q,S q→∀g,ω g=some q→w'.heap[g]? = w.heap[g]?∧(∀j,Φ' g j=Φ g j)∧ω' g=some q
def OfId (id:Nat) (q:Who):Prop:=q = .box id∨∃j,q = .cell id j
theorem OwnAt.step {Φ:Imm} {ω:Nat→Option Who} {w:World} {B:Nat→Prop} {p:Who} {n k:Nat} {E:TypeId} {v:Value} (ho:OwnAt B Φ ω w p n k E v) {Φ' : Imm} {ω' : Nat→Option Who} {w' : World} (hk:∀g,ω g=some p→w'.heap[g]? = w.heap[g]?∧(∀j,Φ' g j=Φ g j)∧ω' g=some p):OwnAt B Φ' ω' w' p n k E v:=by
 rcases ho with ho|⟨g,cap,cur,h1,h2,h3,h4,h5,h6,h7,h8⟩|ho
 rotate_left 2
 ·exact .inr (.inr ho)
 ·exact .inl ho
 ·obtain ⟨k1,k2,k3⟩:=hk g h7
  exact .inr (.inl ⟨g,cap,cur,h1,h2,by rw [k1];exact h3,h4,h5,h6,k3,h8.1,fun j hj=>by rw [k2];exact h8.2 j hj⟩)
theorem OwnAt.inB {Φ:Imm} {ω:Nat→Option Who} {w:World} {B B' : Nat→Prop} {p:Who} {n k:Nat} {E:TypeId} {v:Value} (ho:OwnAt B Φ ω w p n k E v) (h:∀g,ω g=some p→B' g):OwnAt B' Φ ω w p n k E v:=by
 rcases ho with ho|⟨g,cap,cur,h1,h2,h3,h4,h5,h6,h7,h8⟩|ho
 rotate_left 2
 ·exact .inr (.inr ho)
 ·exact .inl ho
 ·exact .inr (.inl ⟨g,cap,cur,h1,h g h7,h3,h4,h5,h6,h7,h8⟩)
theorem BoxAt.step {B:Nat→Prop} {Φ Φ' : Imm} {μ μ' : Nat→Option Nat} {ω ω' : Nat→Option Who} {w w' : World} {id:Nat} {bs:List PV} (h:BoxAt B Φ μ ω w id bs) (hΦ:∀b o u,Φ b o=some u→Φ' b o=some u) (hμ:∀i g,μ i=some g→μ' i=some g) (hk:KeptBy (OfId id) Φ Φ' ω ω' w w'):BoxAt B Φ' μ' ω' w' id bs:=by
 obtain ⟨g,cur,T,h1,h2,h3,h4,h5,h6,h7⟩:=h
 obtain ⟨k1,k2,k3⟩:=hk _ (.inl rfl) g h4
 refine ⟨g,cur,T,hμ _ _ h1,by rw [k1];exact h2,h3,k3,fun j=>by rw [k2];exact h5 j,h6,fun j c hc=>?_⟩
 obtain ⟨u,r1,r2,r3,r4⟩:=h7 j c hc
 exact ⟨u,r1,r2,r3.mono hΦ hμ,fun n k cs E e=>(r4 n k cs E e).step (hk _ (.inr ⟨j,rfl⟩))⟩
def StampsOK (es:List (Nat×PV×PV)) (clock:Nat):Prop:=(es.map (·.1)).Nodup∧∀e∈es,e.1 < clock
def MapAt (B:Nat→Prop) (Φ:Imm) (μ:Nat→Option Nat) (ω:Nat→Option Who) (w:World) (id:Nat) (M:PMap):Prop:=
 ∃g,μ id=some g∧B g∧ω g=some (.box id)∧(∀j,Φ g j=none)∧match M with
  | .map es clock=>StampsOK es clock∧∃ents,w.heap[g]? = some (.map ents clock)∧ents.size=es.length∧∀(j:Nat) s k c,es[j]? = some (s,k,c)→∃e,ents[j]? = some e∧e.born=s∧Rep Φ μ k e.key∧Rep Φ μ c e.val ∧
    ∀n kk cs E,c = .sl n kk cs (some E)→OwnAt B Φ ω w (.cell id s) n kk E e.val
  | .iter mid since seen last=>∃gm,μ mid=some gm∧w.heap[g]? = some (.mapIter (some gm) since seen.toArray last)
theorem MapAt.step {B:Nat→Prop} {Φ Φ' : Imm} {μ μ' : Nat→Option Nat} {ω ω' : Nat→Option Who} {w w' : World} {id:Nat} {M:PMap} (h:MapAt B Φ μ ω w id M) (hΦ:∀b o u,Φ b o=some u→Φ' b o=some u) (hμ:∀i g,μ i=some g→μ' i=some g) (hk:KeptBy (OfId id) Φ Φ' ω ω' w w'):MapAt B Φ' μ' ω' w' id M:=by
 obtain ⟨g,h1,h2,h3,h4,h5⟩:=h
 obtain ⟨k1,k2,k3⟩:=hk _ (.inl rfl) g h3
 refine ⟨g,hμ _ _ h1,h2,k3,fun j=>by rw [k2];exact h4 j,?_⟩
 cases M with
 |map es clock=>
  obtain ⟨e0,ents,e1,e2,e3⟩:=h5
  refine ⟨e0,ents,by rw [k1];exact e1,e2,fun j s k c hj=>?_⟩
  obtain ⟨e,f1,f2,f3,f4,f5⟩:=e3 j s k c hj
  exact ⟨e,f1,f2,f3.mono hΦ hμ,f4.mono hΦ hμ,fun n kk cs E ec=>(f5 n kk cs E ec).step (hk _ (.inr ⟨s,rfl⟩))⟩
 |iter mid since seen last=>
  obtain ⟨gm,e1,e2⟩:=h5
  exact ⟨gm,hμ _ _ e1,by rw [k1];exact e2⟩
structure RelG (Φ0:Ent) (W:World) (M:Nat) (Φ:Imm) (μ:Nat→Option Nat) (ω:Nat→Option Who) (σ:PS) (a:Act) (w:World):Prop where
 below:Kept (Old Φ0 W) W w
 defers:a.defers=Φ0.marks.map collD∧RndOK Φ0 W
 size:a.tmps.size=M
 imm:∀b o u,Φ b o=some u→w.cell? ⟨b,o,none⟩=some u
 old:∀b o,Old Φ0 W b→Φ b o=Φ0.imm b o
 tmps:∀t,Rep Φ μ (σ.t t) (a.tmps.getD t undef)
 own:∀t n k cs E,σ.t t = .sl n k cs (some E)→OwnAt (Mine Φ0 W) Φ ω w (.tmp t) n k E (a.tmps.getD t undef)
 box:∀id bs,σ.b id=some bs→BoxAt (Mine Φ0 W) Φ μ ω w id bs
 gone:∀id,σ.b id=none→σ.m id=none→μ id=none
 lt:∀g p,ω g=some p→g < w.heap.size
 gmu:∀id g,Φ0.mu id=some g→1000000≤id
 kmu:∀id g,Φ0.mu id=some g→(σ.b id≠none∨σ.m id≠none)→μ id=some g
 ext:∀b o u,Φ0.imm b o=some u→Φ b o=some u∧b < W.heap.size
 map:∀id X,σ.m id=some X→MapAt (Mine Φ0 W) Φ μ ω w id X
 mine:∀g p,ω g=some p→Mine Φ0 W g
def Rel (Φ0:Ent) (W:World) (M:Nat) (σ:PS) (a:Act) (w:World):Prop:=∃Φ μ ω,RelG Φ0 W M Φ μ ω σ a w
theorem getD_put (a:Act) (d t:Nat) (v:Value) (hd:d < a.tmps.size):(a.put (some d) v).tmps.getD t undef=if t=d then v else a.tmps.getD t undef:=by
 simp only [Act.put,Array.getD_eq_getD_getElem?,Array.getElem?_setIfInBounds]
 by_cases h:d=t
 ·subst h;simp [hd]
 ·rw [if_neg h,if_neg (fun e=>h e.symm)]
end
section
open Go.RowKit
variable {Φ0:Ent} {W:World} {M:Nat} {Φ:Imm} {μ:Nat→Option Nat} {ω:Nat→Option Who} {σ:PS} {a:Act} {w:World}
theorem RelG.put (h:RelG Φ0 W M Φ μ ω σ a w) {d:Nat} (hd:d < M) {p:PV} {v:Value} (hp:Rep Φ μ p v) (ho:p.ownB=false):RelG Φ0 W M Φ μ ω (σ.put d p) (a.put (some d) v) w:=by
 have hd' : d < a.tmps.size:=by rw [h.size];exact hd
 refine { h with defers:=h.defers,size:=by simp [Act.put,h.size],tmps:=fun t=>?_,own:=fun t n k cs E e=>?_ }
 ·rw [getD_put _ _ _ _ hd']
  by_cases ht:t=d
  ·simp only [PS.put,upd_if,if_pos ht];exact hp
  ·simp only [PS.put,upd_if,if_neg ht];exact h.tmps t
 ·rw [getD_put _ _ _ _ hd']
  by_cases ht:t=d
  ·simp only [PS.put,upd_if,if_pos ht] at e;rw [e] at ho;simp [PV.ownB] at ho
  ·simp only [PS.put,upd_if,if_neg ht] at e ⊢; exact h.own t n k cs E e
theorem RelG.strip (h:RelG Φ0 W M Φ μ ω σ a w) (t:Nat):RelG Φ0 W M Φ μ ω { σ with t:=upd σ.t t (σ.t t).bare } a w:=by
 refine { h with tmps:=fun u=>?_,own:=fun u n k cs E e=>?_ }
 ·simp only [upd_if]
  split
  ·rename_i e;subst e;exact (h.tmps u).bare
  ·exact h.tmps u
 ·simp only [upd_if] at e
  split at e
  ·have:=PV.bare_own (σ.t t);rw [e] at this;simp [PV.ownB] at this
  ·exact h.own u n k cs E e
theorem RelG.forget (h:RelG Φ0 W M Φ μ ω σ a w) (f:Nat→PV) (hf:∀t,f t = .undef∨f t=σ.t t∨f t=(σ.t t).bare∨(∃k E,f t = .sl 0 k [] (some E)∧σ.t t = .nilsl)):RelG Φ0 W M Φ μ ω { σ with t:=f } a w:=by
 refine { h with tmps:=fun u=>?_,own:=fun u n k cs E e=>?_ }
 ·rcases hf u with e|e|e|⟨k,E,e,e'⟩<;>simp only [e]
  ·exact .undef _
  ·exact h.tmps u
  ·exact (h.tmps u).bare
  ·have:=h.tmps u
   rw [e'] at this
   rw [this.nilsl_inv]
   exact .sl0 _ _ _ _ (by unfold maxLen;omega)
 ·simp only at e
  rcases hf u with e' | e' | e' | ⟨k',E',e',e''⟩
  ·rw [e'] at e;cases e
  ·rw [e'] at e;exact h.own u n k cs E e
  ·rw [e'] at e;have:=PV.bare_own (σ.t u);rw [e] at this;simp [PV.ownB] at this
  ·rw [e'] at e
   cases e
   have:=h.tmps u
   rw [e''] at this
   exact .inl ⟨this.nilsl_inv,rfl⟩
theorem RelG.glob (h:RelG Φ0 W M Φ μ ω σ a w):GlobOK Φ:=fun x hx j z e=>(h.ext _ _ _ (Φ0.glob x hx j z e)).1
end
section
open Go.RowKit
def RepL (Φ:Imm) (μ:Nat→Option Nat) (cs:List PV) (vs:List Value):Prop:=vs.length=cs.length∧∀(j:Nat) c u,cs[j]? = some c→vs[j]? = some u→Rep Φ μ c u
theorem RepL.nil {Φ:Imm} {μ:Nat→Option Nat} : RepL Φ μ [] []:=⟨rfl,fun j c u h=>by simp at h⟩
theorem RepL.cons {Φ:Imm} {μ:Nat→Option Nat} {c:PV} {u:Value} {cs:List PV} {us:List Value} (h:Rep Φ μ c u) (hs:RepL Φ μ cs us):RepL Φ μ (c :: cs) (u :: us):=by
 refine ⟨by simp [hs.1],fun j c' u' h1 h2=>?_⟩
 cases j with
 |zero=>simp at h1 h2;subst h1 h2;exact h
 |succ j=>simp at h1 h2;exact hs.2 j c' u' h1 h2
theorem RepL.mono {Φ Φ' : Imm} {μ μ' : Nat→Option Nat} (hΦ:∀b o u,Φ b o=some u→Φ' b o=some u) (hμ:∀i g,μ i=some g→μ' i=some g) {cs:List PV} {us:List Value} (h:RepL Φ μ cs us):RepL Φ' μ' cs us:=
 ⟨h.1,fun j c u h1 h2=>(h.2 j c u h1 h2).mono hΦ hμ⟩
theorem RepL.get {Φ:Imm} {μ:Nat→Option Nat} {cs:List PV} {us:List Value} (h:RepL Φ μ cs us) {j:Nat} {c:PV} (hc:cs[j]? = some c):∃u,us[j]? = some u∧Rep Φ μ c u:=by
 have hj:j < us.length:=by rw [h.1];exact (List.getElem?_eq_some_iff.1 hc).1
 exact ⟨us[j],by simp [hj],h.2 j c _ hc (by simp [hj])⟩
theorem range_map_get {n:Nat} (us:List Value) (hu:us.length=n):((List.range n).map (fun j=>us.getD j undef))=us:=by
 apply List.ext_getElem
 ·simp [hu]
 ·intro i h1 h2
  simp [List.getD_eq_getElem?_getD,h2]
theorem RepL.us {Φ:Imm} {μ:Nat→Option Nat} {cs:List PV} {us:List Value} (h:RepL Φ μ cs us):∀j c,cs[j]? = some c→Rep Φ μ c (us.getD j undef):=by
 intro j c hc
 obtain ⟨u,hu,hr⟩:=h.get hc
 rw [List.getD_eq_getElem?_getD,hu];exact hr
theorem RepL.agg {Φ:Imm} {μ:Nat→Option Nat} {cs:List PV} {us:List Value} (h:RepL Φ μ cs us):Rep Φ μ (.agg cs) (.agg us.toArray):=by
 have:=Rep.agg (Φ:=Φ) (μ:=μ) cs (fun j=>us.getD j undef) h.us
 rwa [range_map_get us h.1] at this
theorem RepL.tup {Φ:Imm} {μ:Nat→Option Nat} {cs:List PV} {us:List Value} (h:RepL Φ μ cs us):Rep Φ μ (.tup cs) (.tuple us.toArray):=by
 have:=Rep.tup (Φ:=Φ) (μ:=μ) cs (fun j=>us.getD j undef) h.us
 rwa [range_map_get us h.1] at this
theorem RepL.fn {Φ:Imm} {μ:Nat→Option Nat} {cs:List PV} {us:List Value} (f:FuncId) (h:RepL Φ μ cs us):Rep Φ μ (.fn f cs) (fnV f us.toArray):=by
 have:=Rep.fn (Φ:=Φ) (μ:=μ) f cs (fun j=>us.getD j undef) h.us
 rwa [range_map_get us h.1] at this
theorem repL_of_us {Φ:Imm} {μ:Nat→Option Nat} (cs:List PV) (us:Nat→Value) (hr:∀j c,cs[j]? = some c→Rep Φ μ c (us j)):RepL Φ μ cs ((List.range cs.length).map us):=by
 refine ⟨by simp,fun j c u h1 h2=>?_⟩
 have hj:j < cs.length:=(List.getElem?_eq_some_iff.1 h1).1
 simp [hj] at h2
 subst h2;exact hr j c h1
theorem Rep.agg_inv {Φ:Imm} {μ:Nat→Option Nat} {cs:List PV} {v:Value} (h:Rep Φ μ (.agg cs) v):∃us,v = .agg us.toArray∧RepL Φ μ cs us:=by
 cases h with|agg _ us hr=>exact ⟨_,rfl,repL_of_us cs us hr⟩
theorem Rep.tup_inv {Φ:Imm} {μ:Nat→Option Nat} {cs:List PV} {v:Value} (h:Rep Φ μ (.tup cs) v):∃us,v = .tuple us.toArray∧RepL Φ μ cs us:=by
 cases h with|tup _ us hr=>exact ⟨_,rfl,repL_of_us cs us hr⟩
theorem Rep.fn_inv {Φ:Imm} {μ:Nat→Option Nat} {f:FuncId} {cs:List PV} {v:Value} (h:Rep Φ μ (.fn f cs) v):∃us,v=fnV f us.toArray∧RepL Φ μ cs us:=by
 cases h with|fn _ _ us hr=>exact ⟨_,rfl,repL_of_us cs us hr⟩
theorem Rep.val_inv {Φ:Imm} {μ:Nat→Option Nat} {u v:Value} (h:Rep Φ μ (.val u) v):v=u∧plainV u=true:=by
 cases h with|val _ h=>exact ⟨rfl,h⟩
theorem Rep.ptr_inv {Φ:Imm} {μ:Nat→Option Nat} {id off:Nat} {v:Value} (h:Rep Φ μ (.ptr id off) v):∃g,μ id=some g∧v = .pointer (some ⟨g,off,none⟩):=by
 cases h with|ptr _ _ g h=>exact ⟨g,h,rfl⟩
theorem Rep.mref_inv {Φ:Imm} {μ:Nat→Option Nat} {id:Nat} {v:Value} (h:Rep Φ μ (.mref id) v):∃g,μ id=some g∧v = .map (some g):=by
 cases h with|mref _ g h=>exact ⟨g,h,rfl⟩
theorem Rep.msl_inv {Φ:Imm} {μ:Nat→Option Nat} {id off n k:Nat} {v:Value} (h:Rep Φ μ (.msl id off n k) v):∃a cap,v = .slice a n cap∧n≤cap∧cap≤maxLen∧(0 < n→∃g,μ id=some g∧a=some ⟨g,off,none⟩):=by
 cases h with|msl _ _ _ _ a cap h h2 h3=>exact ⟨a,cap,rfl,h2,h3,h⟩
theorem Rep.ep_inv {Φ:Imm} {μ:Nat→Option Nat} {cs:List PV} {off:Nat} {v:Value} (h:Rep Φ μ (.ep cs off) v):∃b o,∃us:Nat→Value,v = .pointer (some ⟨b,o+off,none⟩)∧(∀j,j < cs.length→Φ b (o+j)=some (us j))∧∀j c,cs[j]? = some c→Rep Φ μ c (us j):=by
 cases h with|ep _ _ b o us hp hr=>exact ⟨b,o,us,rfl,hp,hr⟩
theorem Rep.sl_inv {Φ:Imm} {μ:Nat→Option Nat} {n k:Nat} {cs:List PV} {own:Option TypeId} {v:Value} (h:Rep Φ μ (.sl n k cs own) v):∃a b off cap,∃us:Nat→Value,v = .slice a n cap∧n≤cap∧cap≤maxLen∧cs.length=n * k∧(0 < n→a=some ⟨b,off,none⟩) ∧
  (∀j,j < cs.length→Φ b (off+j)=some (us j))∧∀j c,cs[j]? = some c→Rep Φ μ c (us j):=by
 cases h with
 |sl0 _ _ a cap h=>exact ⟨a,0,0,cap,fun _=>Go.undef,rfl,Nat.zero_le _,h,by simp,fun h=>by omega,fun j hj=>by simp at hj,fun j c hj=>by simp at hj⟩
 |sl _ _ _ _ b off cap us h1 h2 h3 hp hr=>exact ⟨_,b,off,cap,us,rfl,h2,h3,h1,fun _=>rfl,hp,hr⟩
def PV.one:PV→Bool
 | .val _ | .nilsl | .sl .. | .ptr .. | .msl .. | .ep .. | .fn .. | .mref .. => true
 |_=>false
theorem Rep.one {Φ:Imm} {μ:Nat→Option Nat} {p:PV} {v:Value} (h:Rep Φ μ p v) (ho:p.one=true):v.oneCell' = true∧v.cells = #[v]:=by
 cases h with
 |val v h=>exact plainV_one h
 |undef=>simp [PV.one] at ho
 |agg=>simp [PV.one] at ho
 |tup=>simp [PV.one] at ho
 |fn f cs us hr=>
  obtain ⟨t1,p1,q1,e1⟩:=fnV_func f ((List.range cs.length).map us).toArray
  rw [e1];exact ⟨rfl,rfl⟩
 |_=>exact ⟨rfl,rfl⟩
def pv0:Value→PV
 | .slice none 0 0=>.nilsl
 |v=>if plainV v then .val v else .undef
def pvC:Value→PV
 | .agg cs=>.agg (cs.toList.map pv0)
 |v=>pv0 v
theorem rep_pv0 {Φ:Imm} {μ:Nat→Option Nat} (v:Value):Rep Φ μ (pv0 v) v:=by
 unfold pv0
 split
 ·exact .nilsl
 ·split
  ·exact .val _ ‹_›
  ·exact .undef _
theorem repL_pv0 {Φ:Imm} {μ:Nat→Option Nat} (vs:List Value):RepL Φ μ (vs.map pv0) vs:=by
 refine ⟨by simp,fun j c u h1 h2=>?_⟩
 rw [List.getElem?_map,h2] at h1
 simp at h1
 subst h1;exact rep_pv0 u
theorem rep_pvC {Φ:Imm} {μ:Nat→Option Nat} (v:Value):Rep Φ μ (pvC v) v:=by
 unfold pvC
 split
 ·rename_i cs
  exact (repL_pv0 cs.toList).agg
 ·exact rep_pv0 _
theorem pv0_own (v:Value):(pv0 v).ownB=false:=by
 unfold pv0
 split
 ·rfl
 ·split<;>rfl
theorem pvC_own (v:Value):(pvC v).ownB=false:=by
 unfold pvC
 split
 ·rfl
 ·exact pv0_own _
end
section
open Go.RowKit
variable {Φ0:Ent} {W:World} {M:Nat} {Φ:Imm} {μ:Nat→Option Nat} {ω:Nat→Option Who} {σ:PS} {a:Act} {w:World}
theorem RelG.grow (h:RelG Φ0 W M Φ μ ω σ a w) {Φ' : Imm} {w' : World} (hb:Kept (Old Φ0 W) W w') (himm:∀b o u,Φ' b o=some u→w'.cell? ⟨b,o,none⟩=some u) (hold:∀b o,Old Φ0 W b→Φ' b o=Φ b o) (hsub:∀b o u,Φ b o=some u→Φ' b o=some u)
  (hkeep:∀g p,ω g=some p→w'.heap[g]? = w.heap[g]?∧∀j,Φ' g j=Φ g j) (hsz:w.heap.size≤w'.heap.size):RelG Φ0 W M Φ' μ ω σ a w':=by
 have hown:∀p n k E v,OwnAt (Mine Φ0 W) Φ ω w p n k E v→OwnAt (Mine Φ0 W) Φ' ω w' p n k E v:=by
  intro p n k E v ho
  rcases ho with ho|⟨g,cap,cur,h1,h2,h3,h4,h5,h6,h7,h8⟩|ho
  rotate_left 2
  ·exact .inr (.inr ho)
  ·exact .inl ho
  ·obtain ⟨k1,k2⟩:=hkeep g _ h7
   exact .inr (.inl ⟨g,cap,cur,h1,h2,by rw [k1];exact h3,h4,h5,h6,h7,h8.1,fun j hj=>by rw [k2];exact h8.2 j hj⟩)
 refine ⟨hb,h.defers,h.size,himm,fun b o hbo=>(hold b o hbo).trans (h.old b o hbo),fun t=>(h.tmps t).mono hsub (fun _ _ e=>e),fun t n k cs E e=>hown _ _ _ _ _ (h.own t n k cs E e),fun id bs e=>?_,h.gone,fun g p e=>Nat.lt_of_lt_of_le (h.lt g p e) hsz,h.gmu,h.kmu,fun b o u e=>⟨hsub _ _ _ (h.ext b o u e).1,(h.ext b o u e).2⟩,fun id X e=>(h.map id X e).step hsub (fun _ _ e=>e) (fun q _ g e=>⟨(hkeep g q e).1,(hkeep g q e).2,e⟩),h.mine⟩
 obtain ⟨g,cur,T,h1,h2,h3,h4,h5,h6,h7⟩:=h.box id bs e
 obtain ⟨k1,k2⟩:=hkeep g _ h4
 refine ⟨g,cur,T,h1,by rw [k1];exact h2,h3,h4,fun j=>by rw [k2];exact h5 j,h6,fun j c hc=>?_⟩
 obtain ⟨u,r1,r2,r3,r4⟩:=h7 j c hc
 exact ⟨u,r1,r2,r3.mono hsub (fun _ _ e=>e),fun n k cs E e=>hown _ _ _ _ _ (r4 n k cs E e)⟩
theorem RelG.drew (h:RelG Φ0 W M Φ μ ω σ a w):RelG Φ0 W M Φ μ ω σ a w.drew:=
 h.grow h.below.drew h.imm (fun _ _ _=>rfl) (fun _ _ _ e=>e) (fun _ _ _=>⟨rfl,fun _=>rfl⟩) (Nat.le_refl _)
def immRow (Φ:Imm) (g:Nat) (cur:Array Value):Imm:=fun b o=>if b=g then cur[o]? else Φ b o
theorem RelG.fresh (h:RelG Φ0 W M Φ μ ω σ a w) {b o:Nat} {u:Value} (e:Φ b o=some u):b < w.heap.size:=World.block_lt_of_cell? _ _ (h.imm b o u e)
theorem cell_alloc_new (w:World) (cur:Array Value) (T:TypeId) (o:Nat):(w.alloc (.cells cur T)).cell? ⟨w.heap.size,o,none⟩=cur[o]?:=by
 have:=heap_alloc_new w (.cells cur T)
 simp only [World.cell?,this];simp
theorem cell_alloc_old (w:World) (ob:Obj) (b o:Nat) (h:b < w.heap.size):(w.alloc ob).cell? ⟨b,o,none⟩=w.cell? ⟨b,o,none⟩:=by
 simp only [World.cell?];rw [Below.heap_alloc w ob b h]
theorem RelG.row (h:RelG Φ0 W M Φ μ ω σ a w) (cur:Array Value) (T:TypeId):RelG Φ0 W M (immRow Φ w.heap.size cur) μ ω σ a (w.alloc (.cells cur T)):=by
 have hW:=h.below.size
 refine h.grow (h.below.alloc _) ?_ ?_ ?_ ?_ (by simp)
 ·intro b o u e
  unfold immRow at e
  split at e
  ·subst b;rw [cell_alloc_new];exact e
  ·have:=h.imm b o u e
   rw [cell_alloc_old _ _ _ _ (h.fresh e)];exact this
 ·intro b o hb;unfold immRow;rw [if_neg (by have:=hb.1;omega)]
 ·intro b o u e;unfold immRow;rw [if_neg (by have:=h.fresh e;omega)];exact e
 ·intro g p e
  have:=h.lt g p e
  exact ⟨Below.heap_alloc _ _ _ this,fun j=>by unfold immRow;rw [if_neg (by omega)]⟩
theorem RelG.newBox (h:RelG Φ0 W M Φ μ ω σ a w) {id:Nat} (hlow:id < 1000000) (hid:σ.b id=none) (hmid:σ.m id=none) {bs:List PV} {us:List Value} (hr:RepL Φ μ bs us) (hone:∀u∈us,u.oneCell' = true) (hno:∀c∈bs,c.ownB=false) (T:TypeId) :
  RelG Φ0 W M Φ (upd μ id (some w.heap.size)) (upd ω w.heap.size (some (.box id))) { σ with b:=upd σ.b id (some bs) } a (w.alloc (.cells us.toArray T)):=by
 have hW:=h.below.size
 have hμ:∀i g,μ i=some g→upd μ id (some w.heap.size) i=some g:=by
  intro i g e
  simp only [upd_if]
  rw [if_neg (by rintro rfl;rw [h.gone _ hid hmid] at e;cases e)];exact e
 have hω:∀g p,ω g=some p→upd ω w.heap.size (some (.box id)) g=some p:=by
  intro g p e
  simp only [upd_if];rw [if_neg (by have:=h.lt g p e;omega)];exact e
 have hown:∀p n k E v,OwnAt (Mine Φ0 W) Φ ω w p n k E v→OwnAt (Mine Φ0 W) Φ (upd ω w.heap.size (some (.box id))) (w.alloc (.cells us.toArray T)) p n k E v:=by
  intro p n k E v ho
  rcases ho with ho|⟨g,cap,cur,h1,h2,h3,h4,h5,h6,h7,h8⟩|ho
  rotate_left 2
  ·exact .inr (.inr ho)
  ·exact .inl ho
  ·exact .inr (.inl ⟨g,cap,cur,h1,h2,by rw [Below.heap_alloc _ _ _ (h.lt g _ h7)];exact h3,h4,h5,h6,hω _ _ h7,h8⟩)
 refine ⟨h.below.alloc _,h.defers,h.size,?_,h.old,fun t=>(h.tmps t).mono (fun _ _ _ e=>e) hμ,fun t n k cs E e=>hown _ _ _ _ _ (h.own t n k cs E e),?_,?_,?_,h.gmu,fun i g e hi=>?_,h.ext,fun i X e=>(h.map i X e).step (fun _ _ _ e=>e) hμ (fun q _ g e=>⟨Below.heap_alloc _ _ _ (h.lt g _ e),fun _=>rfl,hω _ _ e⟩),fun g p e=>?_⟩
 ·intro b o u e
  rw [cell_alloc_old _ _ _ _ (h.fresh e)];exact h.imm b o u e
 ·intro i bs' e
  by_cases hi:i=id
  ·subst hi
   simp only [upd_if,if_true] at e
   cases e
   refine ⟨w.heap.size,us.toArray,T,by simp [upd_if],heap_alloc_new w _, .inl hW,by simp [upd_if],?_,(by have:=hr.1;simp;omega),?_⟩
   ·intro j
    cases hj:Φ w.heap.size j with
    |none=>rfl
    |some u=>have:=h.fresh hj;omega
   ·intro j c hc
    obtain ⟨u,hu,hru⟩:=hr.get hc
    refine ⟨u,by simpa using hu,hone u (mem_of_get hu),hru.mono (fun _ _ _ e=>e) hμ,fun n k cs E e=>?_⟩
    have:=hno c (mem_of_get hc)
    rw [e] at this;simp [PV.ownB] at this
  ·simp only [upd_if,if_neg hi] at e
   obtain ⟨g,cur,T',h1,h2,h3,h4,h5,h6,h7⟩:=h.box i bs' e
   refine ⟨g,cur,T',hμ _ _ h1,by rw [Below.heap_alloc _ _ _ (h.lt g _ h4)];exact h2,h3,hω _ _ h4,h5,h6,fun j c hc=>?_⟩
   obtain ⟨u,r1,r2,r3,r4⟩:=h7 j c hc
   exact ⟨u,r1,r2,r3.mono (fun _ _ _ e=>e) hμ,fun n k cs E e=>hown _ _ _ _ _ (r4 n k cs E e)⟩
 ·intro i e em
  by_cases hi:i=id
  ·subst hi;simp [upd_if] at e
  ·simp only [upd_if,if_neg hi] at e ⊢; exact h.gone i e em
 ·intro g p e
  simp only [upd_if] at e
  split at e
  ·subst g;simp
  ·have:=h.lt g p e;simp;omega
 ·have hne:i≠id:=by have:=h.gmu i g e;omega
  simp only [upd_if,if_neg hne] at hi ⊢
  exact h.kmu i g e hi
 ·simp only [upd_if] at e
  split at e
  ·subst g;exact .inl hW
  ·exact h.mine g p e
theorem RelG.newMap (h:RelG Φ0 W M Φ μ ω σ a w) {id:Nat} (hlow:id < 1000000) (hid:σ.b id=none) (hmid:σ.m id=none) (X:PMap) (ob:Obj) (hX:match X with
   | .map es clock=>es = []∧ob = .map #[] clock
   | .iter mid since seen last=>∃gm,μ mid=some gm∧ob = .mapIter (some gm) since seen.toArray last) :
  RelG Φ0 W M Φ (upd μ id (some w.heap.size)) (upd ω w.heap.size (some (.box id))) { σ with m:=upd σ.m id (some X) } a (w.alloc ob):=by
 have hW:=h.below.size
 have hμ:∀i g,μ i=some g→upd μ id (some w.heap.size) i=some g:=by
  intro i g e
  simp only [upd_if]
  rw [if_neg (by rintro rfl;rw [h.gone _ hid hmid] at e;cases e)];exact e
 have hω:∀g p,ω g=some p→upd ω w.heap.size (some (.box id)) g=some p:=by
  intro g p e
  simp only [upd_if];rw [if_neg (by have:=h.lt g p e;omega)];exact e
 have hk:∀S,KeptBy S Φ Φ ω (upd ω w.heap.size (some (.box id))) w (w.alloc ob):=fun S q _ g e=>⟨Below.heap_alloc _ _ _ (h.lt g _ e),fun _=>rfl,hω _ _ e⟩
 refine ⟨h.below.alloc _,h.defers,h.size,?_,h.old,fun t=>(h.tmps t).mono (fun _ _ _ e=>e) hμ,fun t n k cs E e=>(h.own t n k cs E e).step (fun g e=>hk (fun _=>True) _ trivial g e),fun i bs e=>(h.box i bs e).step (fun _ _ _ e=>e) hμ (hk _),?_,?_,h.gmu,fun i g e hi=>?_,h.ext,fun i X' e=>?_,fun g p e=>?_⟩
 ·intro b o u e
  rw [cell_alloc_old _ _ _ _ (h.fresh e)];exact h.imm b o u e
 ·intro i e em
  by_cases hi:i=id
  ·subst hi;simp [upd_if] at em
  ·simp only [upd_if,if_neg hi] at em ⊢; exact h.gone i e em
 ·intro g p e
  simp only [upd_if] at e
  split at e
  ·subst g;simp
  ·have:=h.lt g p e;simp;omega
 ·have hne:i≠id:=by have:=h.gmu i g e;omega
  simp only [upd_if,if_neg hne] at hi ⊢
  exact h.kmu i g e hi
 ·by_cases hi:i=id
  ·subst hi
   simp only [upd_if,if_true] at e
   cases e
   refine ⟨w.heap.size,by simp [upd_if], .inl hW,by simp [upd_if],fun j=>?_,?_⟩
   ·cases hj:Φ w.heap.size j with
    |none=>rfl
    |some u=>have:=h.fresh hj;omega
   ·cases X with
    |map es clock=>
     obtain ⟨rfl,rfl⟩:=hX
     exact ⟨⟨by simp,by simp⟩,#[],heap_alloc_new w _,rfl,fun j s k c hj=>by simp at hj⟩
    |iter mid since seen last=>
     obtain ⟨gm,e1,rfl⟩:=hX
     exact ⟨gm,hμ _ _ e1,heap_alloc_new w _⟩
  ·simp only [upd_if,if_neg hi] at e
   exact (h.map i X' e).step (fun _ _ _ e=>e) hμ (hk _)
 ·simp only [upd_if] at e
  split at e
  ·subst g;exact .inl hW
  ·exact h.mine g p e
end
section
open Go.RowKit
inductive TD where
 |int (k:IntKind)|bool|str
 |slice (e:TypeId) (k by_:Nat) (zero:List PV)
 |struct (fs:List (Nat×Nat×Bool))
 |arr (n:Nat) (e:TypeId) (k:Nat) (agg:Bool)
 |parr (n:Nat) (e:TypeId) (k:Nat)
 |ptr|func|map (k e:TypeId)
 |other
inductive SK where
 |int|bool|str
 deriving DecidableEq
structure TyI where
 size:Nat
 agg:Bool
 kind:TD
 zero:List PV
 eqs:List SK
def aggD:TypeDesc→Bool
 | .struct _ | .array _ _=>true
 |_=>false
def tdOf (P:Program):TypeDesc→TD
 | .int k=>.int k
 | .bool=>.bool
 | .string=>.str
 | .slice e=>match P.info? e with
  |some i=>match i.zero with
   |some z=>if z.cells.toList.length=i.size∧0 < i.size∧z.cells.toList.all (·.oneCell') then .slice e i.size i.bytes (z.cells.toList.map pv0) else .other
   |none=>.other
  |none=>.other
 | .struct fs=>match fs.toList.mapM (m:=Option) (fun f=>match P.info? f.type,P.underlying f.type with|some i,some d=>some (f.offset,i.size,aggD d)|_,_=>none) with
  |some l=>.struct l
  |none=>.other
 | .array n e=>match P.info? e,P.underlying e with
  |some i,some d=>.arr n e i.size (aggD d)
  |_,_=>.other
 | .pointer t=>match P.underlying t with
  |some (.array n e)=>match P.info? e with
   |some i=>.parr n e i.size
   |none=>.other
  |some _=>.ptr
  |none=>.other
 | .func _ _ _=>.func
 | .map k e=>.map k e
 |_=>.other
def skOf (P:Program) (t:TypeId):Option SK:=match P.underlying t,P.info? t with
 |some (.int _),some i=>if i.size=1 then some .int else none
 |some .bool,some i=>if i.size=1 then some .bool else none
 |some .string,some i=>if i.size=1 then some .str else none
 |_,_=>none
def eqsD (P:Program):Nat→TypeId→Option (List SK)
 |0,_=>none
 |d+1,t=>match skOf P t with
  |some k=>some [k]
  |none=>match P.underlying t,P.info? t with
   |some (.struct fs),some i=>if P.stoodInHeld t=false then
     match fs.toList.foldr (fun f acc=>match acc with
      |some (off,l)=>if f.name ≠ "_" then match eqsD P d f.type with
       |some m=>if f.offset+m.length=off then some (f.offset,m ++ l) else none
       |none=>none else none
      |none=>none) (some (i.size,[])) with
     |some (0,l)=>if l.length=i.size then some l else none
     |_=>none
    else none
   |some (.array n e),some i=>match eqsD P d e,P.info? e with
    |some l,some ie=>if l.length=ie.size∧i.size=n * ie.size then some ((List.replicate n l).flatten) else none
    |_,_=>none
   |_,_=>none
def eqsOf (P:Program) (t:TypeId):List SK:=match P.underlying t with
 |some (.struct _)=>if P.eqGuardType P.depth t=false then (eqsD P 6 t).getD [] else []
 |some (.array _ _)=>if P.eqGuardType P.depth t=false then (eqsD P 6 t).getD [] else []
 |_ => []
def isAggV:Value→Bool
 | .agg _=>true
 |_=>false
def tyI (P:Program) (t:TypeId):Option TyI:=
 match P.info? t,P.underlying t with
 |some i,some d=>match i.zero with
  |some z=>if z.cells.toList.length=i.size∧z.cells.toList.all (·.oneCell')∧isAggV z=aggD d then some ⟨i.size,aggD d,tdOf P d,z.cells.toList.map pv0,eqsOf P t⟩ else none
  |none=>none
 |_,_=>none
def tabOf (P:Program):List (Option TyI):=(List.range P.types.size).map (tyI P)
theorem tyTab_get {P:Program} {T:List (Option TyI)} (hT:T=tabOf P) {t:TypeId} {x:TyI} (h:T[t]? = some (some x)):tyI P t=some x:=by
 subst hT
 rw [tabOf,List.getElem?_map] at h
 by_cases ht:t < P.types.size
 ·simpa [ht] using h
 ·simp [ht] at h
theorem tyI_parts {P:Program} {t:TypeId} {x:TyI} (h:tyI P t=some x):∃i d z,P.info? t=some i∧P.underlying t=some d∧i.zero=some z∧z.cells.size=i.size∧(∀c∈z.cells.toList,c.oneCell' = true)∧x=⟨i.size,aggD d,tdOf P d,z.cells.toList.map pv0,eqsOf P t⟩:=by
 unfold tyI at h
 split at h
 ·rename_i i d h1 h2
  split at h
  ·rename_i z h3
   split at h
   ·rename_i h4
    exact ⟨i,d,z,h1,h2,h3,by simpa using h4.1,fun c hc=>List.all_eq_true.1 h4.2.1 c hc,by simpa using h.symm⟩
   ·cases h
  ·cases h
 ·cases h
theorem tyI_agg {P:Program} {t:TypeId} {x:TyI} (h:tyI P t=some x):∃i z,P.info? t=some i∧i.zero=some z∧isAggV z=x.agg∧x.zero=z.cells.toList.map pv0:=by
 unfold tyI at h
 split at h
 ·rename_i i d h1 h2
  split at h
  ·rename_i z h3
   split at h
   ·rename_i h4
    cases h
    exact ⟨i,z,h1,h3,h4.2.2,rfl⟩
   ·cases h
  ·cases h
 ·cases h
theorem run_isAgg {P:Program} {t:TypeId} {d:TypeDesc} (h:P.underlying t=some d) (w:World):(isAgg t).run P w = .ok (aggD d) w:=by
 unfold isAgg
 simp only [Sem.run_bind,run_underlying h,Result.andThen_ok]
 cases d<;>simp [aggD]
theorem run_size {P:Program} {t:TypeId} {i:TypeInfo} (h:P.info? t=some i) (w:World):(sizeOf t).run P w = .ok i.size w:=by
 simp [sizeOf,typeInfo,h]
def pev (σ:PS):Operand→PV
 | .tmp t=>(σ.t t).bare
 | .const v=>pvC v
 | .func f=>cond (Nat.blt f 1000000) (.fn f []) .undef
 | .global g=>globPV g globTab
end
section
open Go.RowKit
variable {Φ0:Ent} {W:World} {M:Nat} {Φ:Imm} {μ:Nat→Option Nat} {ω:Nat→Option Who} {σ:PS} {a:Act} {w:World}
theorem RelG.ev (h:RelG Φ0 W M Φ μ ω σ a w) (x:Operand):Rep Φ μ (pev σ x) (a.eval x):=by
 cases x with
 |tmp t=>exact (h.tmps t).bare
 |const v=>exact rep_pvC v
 |func f=>
  simp only [pev]
  cases hb:Nat.blt f 1000000 with
  |false=>exact .undef _
  |true=>
   have h1:=(RepL.nil (Φ:=Φ) (μ:=μ)).fn f
   have hlt:f < 1000000:=by simpa [Nat.blt_eq] using hb
   unfold fnV at h1
   rw [if_pos hlt] at h1
   exact h1
 |global g=>exact globPV_rep globTab fun x hx j z e=>(h.ext _ _ _ (Φ0.glob x hx j z e)).1
theorem pev_own (σ:PS) (x:Operand):(pev σ x).ownB=false:=by
 cases x with
 |tmp t=>exact PV.bare_own _
 |const v=>exact pvC_own v
 |func f=>
  show (cond (Nat.blt f 1000000) (PV.fn f []) .undef).ownB=false
  cases Nat.blt f 1000000<;>rfl
 |global g=>exact globPV_own g _
end
section
open Go.RowKit
def asVal (agg:Bool) (k:Nat) (cs:List PV) (off:Nat):Option PV:=
 if agg then (if off+k≤cs.length then some (.agg (((cs.drop off).take k).map PV.bare)) else none) else (cs[off]?).map PV.bare
def ploadAt (x:TyI) (b:Nat→Option (List PV)):PV→Option PV
 | .ptr id off=>match b id with
  |some bs=>asVal x.agg x.size bs off
  |none=>none
 | .ep cs off=>asVal x.agg x.size cs off
 |_=>none
end
section
open Go.RowKit
variable {Φ0:Ent} {W:World} {M:Nat} {Φ:Imm} {μ:Nat→Option Nat} {ω:Nat→Option Who} {σ:PS} {a:Act} {w:World} {P:Program}
theorem load_cells {cs:List PV} {off b o:Nat} {us:Nat→Value} {t:TypeId} {x:TyI} {p:PV} (ht:tyI P t=some x) (hc:∀j,j < cs.length→w.cell? ⟨b,o+j,none⟩=some (us j)) (hr:∀j c,cs[j]? = some c→Rep Φ μ c (us j)) (hp:asVal x.agg x.size cs off=some p) :
  ∃v,(loadVar t ⟨b,o+off,none⟩).run P w = .ok v w∧Rep Φ μ p v∧p.ownB=false:=by
 obtain ⟨i,d,z,h1,h2,h3,h4,-,rfl⟩:=tyI_parts ht
 simp only [asVal] at hp
 unfold loadVar
 simp only [Sem.run_bind,run_isAgg h2,Result.andThen_ok]
 split at hp
 ·rename_i hagg
  split at hp
  ·rename_i hle
   cases hp
   simp only [hagg,if_true,Sem.run_bind,run_size h1,Result.andThen_ok]
   have hlen:((List.range i.size).map (fun j=>us (off+j))).length=i.size:=by simp
   have:=(run_loadCells_list (P:=P) (w:=w) ⟨b,o+off,none⟩ ((List.range i.size).map (fun j=>us (off+j))) (by
    intro j v hj
    simp only [List.getElem?_map] at hj
    obtain ⟨j',hj',rfl⟩:=Option.map_eq_some_iff.1 hj
    have hlt:j < i.size:=by
     have:=(List.getElem?_eq_some_iff.1 hj').1
     simpa using this
    simp [hlt] at hj'
    subst hj'
    rw [Addr.add_lit,Nat.add_assoc]
    exact hc (off+j) (by omega)))
   rw [hlen] at this
   rw [this]
   refine ⟨_,rfl,?_,rfl⟩
   have:RepL Φ μ (((cs.drop off).take i.size).map PV.bare) ((List.range i.size).map (fun j=>us (off+j))):=by
    refine ⟨by simp;omega,fun j c u hj hu=>?_⟩
    simp only [List.getElem?_map] at hj hu
    obtain ⟨c',hc',rfl⟩:=Option.map_eq_some_iff.1 hj
    obtain ⟨j',hj',rfl⟩:=Option.map_eq_some_iff.1 hu
    have hlt:j < i.size:=by
     have:=(List.getElem?_eq_some_iff.1 hj').1
     simpa using this
    simp [hlt] at hj'
    subst hj'
    rw [List.getElem?_take,if_pos hlt,List.getElem?_drop] at hc'
    exact (hr _ _ hc').bare
   exact this.agg
  ·cases hp
 ·rename_i hagg
  obtain ⟨c,hc',rfl⟩:=Option.map_eq_some_iff.1 hp
  have hagg' : aggD d=false:=by simpa using hagg
  simp only [hagg',Bool.false_eq_true,if_false]
  have hlt:=(List.getElem?_eq_some_iff.1 hc').1
  refine ⟨us off,?_,(hr off c hc').bare,PV.bare_own _⟩
  simp [hc off hlt]
theorem RelG.load (h:RelG Φ0 W M Φ μ ω σ a w) {t:TypeId} {x:TyI} (ht:tyI P t=some x) {q p:PV} {v:Value} (hv:Rep Φ μ q v) (hp:ploadAt x σ.b q=some p):∃u,(Instr.loadAt t v).run P w = .ok u w∧Rep Φ μ p u∧p.ownB=false:=by
 cases q with
 |ptr id off=>
  obtain ⟨g,hg,rfl⟩:=hv.ptr_inv
  simp only [ploadAt] at hp
  split at hp
  ·rename_i bs hbs
   obtain ⟨g',cur,T,k1,k2,k3,k4,k5,k6,k7⟩:=h.box id bs hbs
   rw [hg] at k1;cases k1
   have:=load_cells (P:=P) (w:=w) (Φ:=Φ) (μ:=μ) (cs:=bs) (off:=off) (b:=g) (o:=0) (us:=fun j=>cur.getD j undef) ht (by
    intro j hj
    have:w.cell? ⟨g,0+j,none⟩=cur[j]?:=by simp [World.cell?,k2]
    rw [this,Array.getElem?_eq_getElem (by omega)]
    have hjc:j < cur.size:=by omega
    simp [Array.getD,hjc]) (by
    intro j c hc
    obtain ⟨u,r1,r2,r3,-⟩:=k7 j c hc
    have:cur.getD j undef=u:=by simp [Array.getD_eq_getD_getElem?,r1]
    rw [this];exact r3) hp
   obtain ⟨u,r1,r2,r3⟩:=this
   refine ⟨u,?_,r2,r3⟩
   simpa [Instr.loadAt,Instr.sureAddr] using r1
  ·cases hp
 |ep cs off=>
  obtain ⟨b,o,us,rfl,h1,h2⟩:=hv.ep_inv
  obtain ⟨u,r1,r2,r3⟩:=load_cells (P:=P) (w:=w) (off:=off) ht (fun j hj=>h.imm _ _ _ (h1 j hj)) h2 hp
  refine ⟨u,?_,r2,r3⟩
  simpa [Instr.loadAt,Instr.sureAddr] using r1
 |_=>simp [ploadAt] at hp
end
section
open Go.RowKit
def pbin (op:BinOp):Value→Value→Option Value
 | .int k x, .int k' y=>
  match op with
  | .shl=>if 0≤y then some (.int k (k.wrap (x * 2 ^ (min y.toNat k.bits)))) else none
  | .shr=>if 0≤y then some (.int k (x.fdiv (2 ^ (min y.toNat k.bits)))) else none
  | .add=>if k=k' then some (.int k (k.wrap (x+y))) else none
  | .sub=>if k=k' then some (.int k (k.wrap (x - y))) else none
  | .mul=>if k=k' then some (.int k (k.wrap (x * y))) else none
  | .quo=>if k=k'∧y≠0 then some (.int k (k.wrap (x.tdiv y))) else none
  | .rem=>if k=k'∧y≠0 then some (.int k (x.tmod y)) else none
  | .and=>if k=k' then some (.int k (k.wrap (BitVec.ofInt k.bits x &&& BitVec.ofInt k.bits y).toNat)) else none
  | .or=>if k=k' then some (.int k (k.wrap (BitVec.ofInt k.bits x ||| BitVec.ofInt k.bits y).toNat)) else none
  | .xor=>if k=k' then some (.int k (k.wrap (BitVec.ofInt k.bits x ^^^ BitVec.ofInt k.bits y).toNat)) else none
  | .eql=>if k=k' then some (.bool (x == y)) else none
  | .neq=>if k=k' then some (.bool (x != y)) else none
  | .lss=>if k=k' then some (.bool (decide (x < y))) else none
  | .leq=>if k=k' then some (.bool (decide (x≤y))) else none
  | .gtr=>if k=k' then some (.bool (decide (x > y))) else none
  | .geq=>if k=k' then some (.bool (decide (x≥y))) else none
  |_=>none
 | .string x, .string y=>
  match op with
  | .eql=>some (.bool (x.toList == y.toList))
  | .neq=>some (.bool !(x.toList == y.toList))
  | .lss=>some (.bool (Op.bytesLess x.toList y.toList))
  | .leq=>some (.bool (Op.bytesLess x.toList y.toList || x.toList == y.toList))
  | .gtr=>some (.bool !(Op.bytesLess x.toList y.toList || x.toList == y.toList))
  | .geq=>some (.bool !(Op.bytesLess x.toList y.toList))
  |_=>none
 |_,_=>none
theorem pbin_sound {P : Program} {w : World} {op : BinOp} {t : TypeId} {x y : Operand} {u v r : Value} (h : pbin op u v = some r) : (do eqGuard op t x y u v; binOp op t u v : Sem Value).run P w = .ok r w ∧ plainV r = true := by
  unfold pbin at h
  split at h
  · rename_i k a k' b
    have hg : (eqGuard op t x y (.int k a) (.int k' b)).run P w = .ok () w := by
      unfold eqGuard; split <;> simp
    rw [Sem.run_bind, hg, Result.andThen_ok]
    cases op <;> simp only [] at h <;> first
      | (cases h; done)
      | (split at h
         · rename_i hk
           cases h
           refine ⟨?_, rfl⟩
           first
             | (obtain ⟨rfl, hy⟩ := hk; simp [binOp, Op.intDiv, hy]; done)
             | (subst hk; simp [binOp, Op.intArith, Op.intBits, Op.intCmp]; done)
             | (simp [binOp, Op.shift, Int.not_lt.2 hk]; done)
         · cases h)
  · rename_i a b
    have hg : (eqGuard op t x y (.string a) (.string b)).run P w = .ok () w := by
      unfold eqGuard; split <;> simp
    rw [Sem.run_bind, hg, Result.andThen_ok]
    cases op <;> simp only [] at h <;> first
      | (cases h; done)
      | (cases h; exact ⟨by simp [binOp, Op.stringOp], rfl⟩)
  · cases h
def pbinB (op:BinOp):TD→Value→Value→Option Value
 | .bool, .bool a, .bool b=>match op with
  | .eql=>some (.bool (a == b))
  | .neq=>some (.bool (a != b))
  |_=>none
 |_,_,_=>none
theorem pbinB_sound {P:Program} {w:World} {op:BinOp} {t:TypeId} {x y:Operand} {u v r:Value} {ti:TyI} (ht:tyI P t=some ti) (h:pbinB op ti.kind u v=some r):(do eqGuard op t x y u v;binOp op t u v:Sem Value).run P w = .ok r w∧plainV r=true:=by
 obtain ⟨i,d,z,h1,h2,h3,h4,-,rfl⟩:=tyI_parts ht
 simp only at h
 unfold pbinB at h
 split at h
 ·rename_i a b hd
  have hd' : d = .bool:=by
   cases d with
   |bool=>rfl
   |slice e=>simp only [tdOf] at hd;split at hd<;>(try split at hd)<;>(try split at hd)<;>cases hd
   |struct fs=>simp only [tdOf] at hd;split at hd<;>cases hd
   |array n e=>simp only [tdOf] at hd;split at hd<;>cases hd
   |pointer e=>simp only [tdOf] at hd;split at hd<;>(try split at hd)<;>cases hd
   |_=>cases hd
  subst hd'
  have hg:(eqGuard op t x y (.bool a) (.bool b)).run P w = .ok () w:=by
   unfold eqGuard;split<;>simp
  rw [Sem.run_bind,hg,Result.andThen_ok]
  have he:(Op.equal t (.bool a) (.bool b)).run P w = .ok (a == b) w:=by
   unfold Op.equal
   rw [show Op.maxDepth=9999+1 from rfl,Op.equalIn]
   simp only [Sem.run_bind,run_underlying h2,Result.andThen_ok]
   simp
  cases op<;>simp only [] at h<;>first
   |(cases h;done)
   |(cases h;exact ⟨by simp only [binOp,Sem.run_bind,he,Result.andThen_ok];simp [bne],rfl⟩)
 ·cases h
def pun (op:UnOp):Value→Option Value
 | .bool b=>match op with
  | .not=>some (.bool !b)
  |_=>none
 | .int k n=>match op with
  | .neg=>some (.int k (k.wrap (0 - n)))
  | .xor=>some (.int k (k.wrap (BitVec.ofInt k.bits (if k.signed then -1 else k.max) ^^^ BitVec.ofInt k.bits n).toNat))
  |_=>none
 |_=>none
theorem pun_sound {P:Program} {w:World} {op:UnOp} {u r:Value} (h:pun op u=some r):(Op.unary op u).run P w = .ok r w∧plainV r=true:=by
 unfold pun at h
 split at h
 ·cases op<;>simp only [] at h<;>first|(cases h;done)|(cases h;exact ⟨by simp [Op.unary],rfl⟩)
 ·cases op<;>simp only [] at h<;>first|(cases h;done)|(cases h;refine ⟨?_,rfl⟩;simp [Op.unary,Op.intArith];done)|(cases h;refine ⟨?_,rfl⟩;simp [Op.unary,Op.intBits];done)
 ·cases h
def pfield (l:List (Nat×Nat×Bool)) (f:Nat):PV→Option PV
 | .ptr id o=>match l[f]? with
  |some (off,size,_)=>if size≠0 then some (.ptr id (o+off)) else none
  |none=>none
 | .ep cs o=>match l[f]? with
  |some (off,size,_)=>if size≠0 then some (.ep cs (o+off)) else none
  |none=>none
 |_=>none
theorem mapM_get {α β:Type} (g:α→Option β):∀(l:List α) (r:List β),l.mapM g=some r→∀(j:Nat) b,r[j]? = some b→∃x,l[j]? = some x∧g x=some b
 | [],r,h,j,b,hj=>by simp at h;subst h;simp at hj
 |x :: l,r,h,j,b,hj=>by
  rw [List.mapM_cons] at h
  cases hx:g x with
  |none=>rw [hx] at h;simp at h
  |some y=>
   rw [hx] at h
   cases hl:l.mapM g with
   |none=>rw [hl] at h;simp at h
   |some r' =>
    rw [hl] at h
    simp at h
    subst h
    cases j with
    |zero=>simp at hj;subst hj;exact ⟨x,rfl,hx⟩
    |succ j=>simp at hj;simpa using mapM_get g l r' hl j b hj
theorem mapM_len {α β:Type} (g:α→Option β):∀(l:List α) (r:List β),l.mapM g=some r→r.length=l.length
 | [],r,h=>by simp at h;subst h;rfl
 |x :: l,r,h=>by
  rw [List.mapM_cons] at h
  cases hx:g x with
  |none=>rw [hx] at h;simp at h
  |some y=>
   rw [hx] at h
   cases hl:l.mapM g with
   |none=>rw [hl] at h;simp at h
   |some r' =>
    rw [hl] at h
    simp at h
    subst h
    simp [mapM_len g l r' hl]
theorem struct_get {P:Program} {t:TypeId} {ti:TyI} (ht:tyI P t=some ti) {l:List (Nat×Nat×Bool)} (hk:ti.kind = .struct l):∃fs,P.underlying t=some (.struct fs)∧l.length=fs.size ∧
  ∀(f off size:Nat) (agg:Bool),l[f]? = some (off,size,agg)→∃(fd:Field) (i:TypeInfo) (d:TypeDesc),fs[f]? = some fd∧fd.offset=off∧P.info? fd.type=some i∧i.size=size∧P.underlying fd.type=some d∧aggD d=agg:=by
 obtain ⟨i,d,z,h1,h2,h3,h4,-,rfl⟩:=tyI_parts ht
 simp only at hk
 have:∃fs,d = .struct fs:=by
  cases d with
  |struct fs=>exact ⟨fs,rfl⟩
  |slice e=>simp only [tdOf] at hk;split at hk<;>(try split at hk)<;>(try split at hk)<;>cases hk
  |array n e=>simp only [tdOf] at hk;split at hk<;>cases hk
  |pointer e=>simp only [tdOf] at hk;split at hk<;>(try split at hk)<;>cases hk
  |_=>cases hk
 obtain ⟨fs,rfl⟩:=this
 simp only [tdOf] at hk
 split at hk
 ·rename_i l' hm
  cases hk
  refine ⟨fs,h2,by simpa using mapM_len _ _ _ hm,fun f off size agg hl=>?_⟩
  obtain ⟨fd,hf,hg⟩:=mapM_get _ _ _ hm f _ hl
  split at hg
  ·rename_i i' d' e1 e2
   simp only [Option.some.injEq,Prod.mk.injEq] at hg
   exact ⟨fd,i',d',by simpa using hf,hg.1,e1,hg.2.1,e2,hg.2.2⟩
  ·cases hg
 ·cases hk
theorem slice_get {P:Program} {t:TypeId} {ti:TyI} (ht:tyI P t=some ti) {e k by_:Nat} {zr:List PV} (hk:ti.kind = .slice e k by_ zr):P.underlying t=some (.slice e) ∧
  ∃(i:TypeInfo) (z:Value),P.info? e=some i∧i.zero=some z∧i.size=k∧i.bytes=by_∧z.cells.size=k∧0 < k∧(∀c∈z.cells.toList,c.oneCell' = true)∧zr=z.cells.toList.map pv0:=by
 obtain ⟨i,d,z,h1,h2,h3,h4,-,rfl⟩:=tyI_parts ht
 simp only at hk
 have:∃e,d = .slice e:=by
  cases d with
  |slice e=>exact ⟨e,rfl⟩
  |struct fs=>simp only [tdOf] at hk;split at hk<;>cases hk
  |array n e=>simp only [tdOf] at hk;split at hk<;>cases hk
  |pointer e=>simp only [tdOf] at hk;split at hk<;>(try split at hk)<;>cases hk
  |_=>cases hk
 obtain ⟨e',rfl⟩:=this
 simp only [tdOf] at hk
 split at hk
 ·rename_i i' hi
  split at hk
  ·rename_i z' hz
   split at hk
   ·rename_i hc
    cases hk
    exact ⟨h2,i',z',hi,hz,rfl,rfl,by simpa using hc.1,hc.2.1,fun c hcm=>List.all_eq_true.1 hc.2.2 c hcm,rfl⟩
   ·cases hk
  ·cases hk
 ·cases hk
theorem arr_get {P:Program} {t:TypeId} {ti:TyI} (ht:tyI P t=some ti) {n e k:Nat} {ag:Bool} (hk:ti.kind = .arr n e k ag):P.underlying t=some (.array n e)∧∃(i:TypeInfo) (d:TypeDesc),P.info? e=some i∧i.size=k∧P.underlying e=some d∧aggD d=ag:=by
 obtain ⟨i,d,z,h1,h2,h3,h4,-,rfl⟩:=tyI_parts ht
 simp only at hk
 have:∃n e,d = .array n e:=by
  cases d with
  |array n e=>exact ⟨n,e,rfl⟩
  |struct fs=>simp only [tdOf] at hk;split at hk<;>cases hk
  |slice e=>simp only [tdOf] at hk;split at hk<;>(try split at hk)<;>(try split at hk)<;>cases hk
  |pointer e=>simp only [tdOf] at hk;split at hk<;>(try split at hk)<;>cases hk
  |_=>cases hk
 obtain ⟨n',e',rfl⟩:=this
 simp only [tdOf] at hk
 split at hk
 ·rename_i i' d' hi hd
  cases hk
  exact ⟨h2,i',d',hi,rfl,hd,rfl⟩
 ·cases hk
theorem parr_get {P:Program} {t:TypeId} {ti:TyI} (ht:tyI P t=some ti) {n e k:Nat} (hk:ti.kind = .parr n e k):∃t',P.underlying t=some (.pointer t')∧P.underlying t' = some (.array n e)∧∃(i:TypeInfo),P.info? e=some i∧i.size=k:=by
 obtain ⟨i,d,z,h1,h2,h3,h4,-,rfl⟩:=tyI_parts ht
 simp only at hk
 have:∃t',d = .pointer t':=by
  cases d with
  |pointer e=>exact ⟨e,rfl⟩
  |struct fs=>simp only [tdOf] at hk;split at hk<;>cases hk
  |slice e=>simp only [tdOf] at hk;split at hk<;>(try split at hk)<;>(try split at hk)<;>cases hk
  |array n e=>simp only [tdOf] at hk;split at hk<;>cases hk
  |_=>cases hk
 obtain ⟨t',rfl⟩:=this
 simp only [tdOf] at hk
 split at hk
 ·rename_i n' e' hu
  split at hk
  ·rename_i i' hi
   cases hk
   exact ⟨t',h2,hu,i',hi,rfl⟩
  ·cases hk
 ·cases hk
 ·cases hk
theorem kind_ptr {P:Program} {t:TypeId} {ti:TyI} (ht:tyI P t=some ti) (hk:ti.kind = .ptr):∃e,P.underlying t=some (.pointer e):=by
 obtain ⟨i,d,z,h1,h2,h3,h4,-,rfl⟩:=tyI_parts ht
 simp only at hk
 cases d with
 |pointer e=>exact ⟨e,h2⟩
 |struct fs=>simp only [tdOf] at hk;split at hk<;>cases hk
 |slice e=>simp only [tdOf] at hk;split at hk<;>(try split at hk)<;>(try split at hk)<;>cases hk
 |array n e=>simp only [tdOf] at hk;split at hk<;>cases hk
 |_=>cases hk
theorem kind_func {P:Program} {t:TypeId} {ti:TyI} (ht:tyI P t=some ti) (hk:ti.kind = .func):∃p r v,P.underlying t=some (.func p r v):=by
 obtain ⟨i,d,z,h1,h2,h3,h4,-,rfl⟩:=tyI_parts ht
 simp only at hk
 cases d with
 |func p r v=>exact ⟨p,r,v,h2⟩
 |struct fs=>simp only [tdOf] at hk;split at hk<;>cases hk
 |slice e=>simp only [tdOf] at hk;split at hk<;>(try split at hk)<;>(try split at hk)<;>cases hk
 |array n e=>simp only [tdOf] at hk;split at hk<;>cases hk
 |pointer e=>simp only [tdOf] at hk;split at hk<;>(try split at hk)<;>cases hk
 |_=>cases hk
theorem kind_map {P:Program} {t:TypeId} {ti:TyI} (ht:tyI P t=some ti) {k e:TypeId} (hk:ti.kind = .map k e):P.underlying t=some (.map k e):=by
 obtain ⟨i,d,z,h1,h2,h3,h4,-,rfl⟩:=tyI_parts ht
 simp only at hk
 cases d with
 |map k' e' => cases hk;exact h2
 |struct fs=>simp only [tdOf] at hk;split at hk<;>cases hk
 |slice e=>simp only [tdOf] at hk;split at hk<;>(try split at hk)<;>(try split at hk)<;>cases hk
 |array n e=>simp only [tdOf] at hk;split at hk<;>cases hk
 |pointer e=>simp only [tdOf] at hk;split at hk<;>(try split at hk)<;>cases hk
 |_=>cases hk
theorem kind_int {P:Program} {t:TypeId} {ti:TyI} (ht:tyI P t=some ti) {k:IntKind} (hk:ti.kind = .int k):P.underlying t=some (.int k):=by
 obtain ⟨i,d,z,h1,h2,h3,h4,-,rfl⟩:=tyI_parts ht
 simp only at hk
 cases d with
 |int k' => cases hk;exact h2
 |struct fs=>simp only [tdOf] at hk;split at hk<;>cases hk
 |slice e=>simp only [tdOf] at hk;split at hk<;>(try split at hk)<;>(try split at hk)<;>cases hk
 |array n e=>simp only [tdOf] at hk;split at hk<;>cases hk
 |pointer e=>simp only [tdOf] at hk;split at hk<;>(try split at hk)<;>cases hk
 |_=>cases hk
theorem kind_str {P:Program} {t:TypeId} {ti:TyI} (ht:tyI P t=some ti) (hk:ti.kind = .str):P.underlying t=some .string:=by
 obtain ⟨i,d,z,h1,h2,h3,h4,-,rfl⟩:=tyI_parts ht
 simp only at hk
 cases d with
 |string=>exact h2
 |struct fs=>simp only [tdOf] at hk;split at hk<;>cases hk
 |slice e=>simp only [tdOf] at hk;split at hk<;>(try split at hk)<;>(try split at hk)<;>cases hk
 |array n e=>simp only [tdOf] at hk;split at hk<;>cases hk
 |pointer e=>simp only [tdOf] at hk;split at hk<;>(try split at hk)<;>cases hk
 |_=>cases hk
end
section
open Go.RowKit
variable {Φ:Imm} {μ:Nat→Option Nat} {w:World} {P:Program}
theorem field_sound {s:TypeId} {ti:TyI} (ht:tyI P s=some ti) {l:List (Nat×Nat×Bool)} (hk:ti.kind = .struct l) {q p:PV} {v:Value} {f:Nat} (hv:Rep Φ μ q v) (hp:pfield l f q=some p) :
  ∃u,(Instr.fieldAt s v f).run P w = .ok u w∧Rep Φ μ p u∧p.ownB=false:=by
 obtain ⟨fs,hu,-,hget⟩:=struct_get ht hk
 cases q with
 |ptr id o=>
  simp only [pfield] at hp
  split at hp
  ·rename_i off size agg hl
   split at hp
   ·rename_i hs
    cases hp
    obtain ⟨fd,i,d,e1,e2,e3,e4,-,-⟩:=hget f _ _ _ hl
    obtain ⟨g,hg,rfl⟩:=hv.ptr_inv
    refine ⟨.pointer (some ⟨g,o+off,none⟩),?_, .ptr _ _ g hg,rfl⟩
    have hsz:i.size≠0:=by rw [e4];exact hs
    simp [Instr.fieldAt,run_underlying hu,e1,Instr.sureAddr,fieldPlace,run_size e3,hsz,Addr.add_lit,e2]
   ·cases hp
  ·cases hp
 |ep cs o=>
  simp only [pfield] at hp
  split at hp
  ·rename_i off size agg hl
   split at hp
   ·rename_i hs
    cases hp
    obtain ⟨fd,i,d,e1,e2,e3,e4,-,-⟩:=hget f _ _ _ hl
    obtain ⟨b,o',us,rfl,k1,k2⟩:=hv.ep_inv
    refine ⟨.pointer (some ⟨b,o' + (o+off),none⟩),?_, .ep _ _ b o' us k1 k2,rfl⟩
    have hsz:i.size≠0:=by rw [e4];exact hs
    simp [Instr.fieldAt,run_underlying hu,e1,Instr.sureAddr,fieldPlace,run_size e3,hsz,Addr.add_lit,e2,Nat.add_assoc]
   ·cases hp
  ·cases hp
 |_=>simp [pfield] at hp
def pindexAt (td:TD):PV→PV→Option PV
 | .sl n k cs _, .val (.int _ i)=>match td with
  | .slice _ k' _ _=>if k' = k∧0≤i∧i < n then some (.ep cs (i.toNat * k)) else none
  |_=>none
 | .msl id o n k, .val (.int _ i)=>match td with
  | .slice _ k' _ _=>if k' = k∧0≤i∧i < n then some (.ptr id (o+i.toNat * k)) else none
  |_=>none
 | .ptr id o, .val (.int _ i)=>match td with
  | .arr n _ k _=>if 0≤i∧i < n then some (.ptr id (o+i.toNat * k)) else none
  |_=>none
 | .ep cs o, .val (.int _ i)=>match td with
  | .arr n _ k _=>if 0≤i∧i < n then some (.ep cs (o+i.toNat * k)) else none
  |_=>none
 |_,_=>none
theorem index_sound {t:TypeId} {ti:TyI} (ht:tyI P t=some ti) {q x p:PV} {v u:Value} (hv:Rep Φ μ q v) (hx:Rep Φ μ x u) (hp:pindexAt ti.kind q x=some p) :
  ∃r,(Instr.indexAt t v u).run P w = .ok r w∧Rep Φ μ p r∧p.ownB=false:=by
 unfold pindexAt at hp
 split at hp
 ·rename_i n k cs own ik i
  obtain ⟨rfl,-⟩:=hx.val_inv
  split at hp
  ·rename_i e k' by_ zr hk
   split at hp
   ·rename_i hc
    obtain ⟨rfl,h0,hn⟩:=hc
    cases hp
    obtain ⟨hu,i',z',e1,e2,e3,e4,e5,e6,-,-⟩:=slice_get ht hk
    obtain ⟨a,b,off,cap,us,rfl,c1,c2,c3,c4,c5,c6⟩:=hv.sl_inv
    obtain rfl:=c4 (by omega)
    refine ⟨.pointer (some ⟨b,off+i.toNat * k',none⟩),?_, .ep _ _ b off us c5 c6,rfl⟩
    simp [Instr.indexAt,asIntOf,run_underlying hu,h0,hn,run_size e1,e3,Addr.add_lit]
   ·cases hp
  ·cases hp
 ·rename_i id o n k ik i
  obtain ⟨rfl,-⟩:=hx.val_inv
  split at hp
  ·rename_i e k' by_ zr hk
   split at hp
   ·rename_i hc
    obtain ⟨rfl,h0,hn⟩:=hc
    cases hp
    obtain ⟨hu,i',z',e1,e2,e3,e4,e5,e6,-,-⟩:=slice_get ht hk
    obtain ⟨a,cap,rfl,c1,c2,c4⟩:=hv.msl_inv
    obtain ⟨g,hg,rfl⟩:=c4 (by omega)
    refine ⟨.pointer (some ⟨g,o+i.toNat * k',none⟩),?_, .ptr _ _ g hg,rfl⟩
    simp [Instr.indexAt,asIntOf,run_underlying hu,h0,hn,run_size e1,e3,Addr.add_lit]
   ·cases hp
  ·cases hp
 ·rename_i id o ik i
  obtain ⟨rfl,-⟩:=hx.val_inv
  split at hp
  ·rename_i n e k ag hk
   split at hp
   ·rename_i hc
    cases hp
    obtain ⟨hu,i',d',e1,e2,e3,e4⟩:=arr_get ht hk
    obtain ⟨g,hg,rfl⟩:=hv.ptr_inv
    refine ⟨.pointer (some ⟨g,o+i.toNat * k,none⟩),?_, .ptr _ _ g hg,rfl⟩
    simp [Instr.indexAt,asIntOf,run_underlying hu,hc.1,hc.2,run_size e1,e2,Addr.add_lit,Instr.sureAddr]
   ·cases hp
  ·cases hp
 ·rename_i cs o ik i
  obtain ⟨rfl,-⟩:=hx.val_inv
  split at hp
  ·rename_i n e k ag hk
   split at hp
   ·rename_i hc
    cases hp
    obtain ⟨hu,i',d',e1,e2,e3,e4⟩:=arr_get ht hk
    obtain ⟨b,o',us,rfl,k1,k2⟩:=hv.ep_inv
    refine ⟨.pointer (some ⟨b,o' + (o+i.toNat * k),none⟩),?_, .ep _ _ b o' us k1 k2,rfl⟩
    simp [Instr.indexAt,asIntOf,run_underlying hu,hc.1,hc.2,run_size e1,e2,Addr.add_lit,Instr.sureAddr,Nat.add_assoc]
   ·cases hp
  ·cases hp
 ·cases hp
end
section
open Go.RowKit
def pbound (dflt:Nat) (m:Nat):Option PV→Option Nat
 |none=>some dflt
 |some (.val (.int _ i))=>if 0≤i∧i≤m then some i.toNat else none
 |_=>none
def pslice (td:TD) (x:PV) (lo hi:Option PV):Option PV:=
 match x with
 | .ptr id o=>match td with
  | .arr n _ k _=>match pbound n n hi with
   |some h=>match pbound 0 h lo with
    |some l=>if n≤1000000000 then some (.msl id (o+l * k) (h - l) k) else none
    |none=>none
   |none=>none
  | .parr n _ k=>match pbound n n hi with
   |some h=>match pbound 0 h lo with
    |some l=>if n≤1000000000 then some (.msl id (o+l * k) (h - l) k) else none
    |none=>none
   |none=>none
  |_=>none
 | .msl id o n k=>match td with
  | .slice _ k' _ _=>if k' = k then
    match pbound n n hi with
    |some h=>match pbound 0 h lo with
     |some l=>some (.msl id (o+l * k) (h - l) k)
     |none=>none
    |none=>none
   else none
  |_=>none
 | .sl n k cs _=>match td with
  | .slice _ k' _ _=>if k' = k then
    match pbound n n hi with
    |some h=>match pbound 0 h lo with
     |some l=>some (.sl (h - l) k ((cs.drop (l * k)).take ((h - l) * k)) none)
     |none=>none
    |none=>none
   else none
  |_=>none
 | .val (.string s)=>match td with
  | .str=>match pbound s.size s.size hi with
    |some h=>match pbound 0 h lo with
     |some l=>some (.val (.string (s.extract l h)))
     |none=>none
    |none=>none
  |_=>none
 |_=>none
end
section
open Go.RowKit
variable {Φ:Imm} {μ:Nat→Option Nat} {w:World} {P:Program}
theorem bound_sound {d m l:Nat} {p:PV} {u:Value} (hr:Rep Φ μ p u) (hp:pbound d m (some p)=some l) (m' : Nat) (hm:m≤m') (code:BoundsCode):(Instr.sliceBound u m' code).run P w = .ok l w∧l≤m:=by
 unfold pbound at hp
 split at hp
 ·rename_i e;cases e
 ·rename_i k i e
  cases e
  obtain ⟨rfl,-⟩:=hr.val_inv
  split at hp
  ·rename_i hc
   cases hp
   refine ⟨?_,by omega⟩
   have h1:0≤i∧i≤(m' : Int):=⟨hc.1,by omega⟩
   simp [Instr.sliceBound,asIntOf,h1]
  ·cases hp
 ·cases hp
def RepO (Φ:Imm) (μ:Nat→Option Nat) (x:Option PV) (v:Option Value):Prop:=match x,v with
 |none,none=>True
 |some p,some u=>Rep Φ μ p u
 |_,_=>False
theorem bounds_sound {x y:Option PV} {vx vy:Option Value} (hx:RepO Φ μ x vx) (hy:RepO Φ μ y vy) {n h l cap:Nat} {isS:Bool} (hn:n≤cap) (h1:pbound n n y=some h) (h2:pbound 0 h x=some l) :
  (Instr.sliceBounds isS n cap vx vy none).run P w = .ok (l,h,cap) w∧l≤h∧h≤n:=by
 have a1:∀code,(match vy with|some v=>Instr.sliceBound v cap code|none=>pure n:Sem Nat).run P w = .ok h w∧h≤n:=by
  intro code
  cases y with
  |none=>cases vy with
   |none=>simp [pbound] at h1;subst h1;simp
   |some v=>exact hy.elim
  |some p=>cases vy with
   |none=>exact hy.elim
   |some v=>exact bound_sound hy h1 cap hn code
 have a2:∀code,(match vx with|some v=>Instr.sliceBound v h code|none=>pure 0:Sem Nat).run P w = .ok l w∧l≤h:=by
  intro code
  cases x with
  |none=>cases vx with
   |none=>simp [pbound] at h2;subst h2;simp
   |some v=>exact hx.elim
  |some p=>cases vx with
   |none=>exact hx.elim
   |some v=>exact bound_sound hx h2 h (Nat.le_refl _) code
 refine ⟨?_,(a2 .sliceB).2,(a1 .sliceB).2⟩
 unfold Instr.sliceBounds
 simp only [Sem.run_bind,Sem.run_pure,Result.andThen_ok]
 have b1:=(a1 (if isS=true then .sliceAcap else .sliceAlen)).1
 have b2:=(a2 .sliceB).1
 cases vy with
 |none=>
  simp only [Sem.run_pure] at b1
  cases b1
  cases vx with
  |none=>simp only [Sem.run_pure] at b2;cases b2;simp
  |some v=>simp only [] at b2;simp [b2]
 |some v=>
  simp only [] at b1
  cases vx with
  |none=>simp only [Sem.run_pure] at b2;cases b2;simp [b1]
  |some v=>simp only [] at b2;simp [b1,b2]
theorem slice_sound {t:TypeId} {ti:TyI} (ht:tyI P t=some ti) {q p:PV} {v:Value} {x y:Option PV} {vx vy:Option Value} (hv:Rep Φ μ q v) (hx:RepO Φ μ x vx) (hy:RepO Φ μ y vy) (hp:pslice ti.kind q x y=some p) :
  ∃r,(Instr.sliceAt t v vx vy none).run P w = .ok r w∧Rep Φ μ p r∧p.ownB=false:=by
 unfold pslice at hp
 split at hp
 ·rename_i id o
  split at hp
  ·rename_i n e k ag hk
   split at hp
   ·rename_i h hh
    split at hp
    ·rename_i l hl
     split at hp
     case isFalse=>cases hp
     rename_i hm0
     have hm:n≤maxLen:=by unfold maxLen;omega
     cases hp
     obtain ⟨hu,i',d',e1,e2,e3,e4⟩:=arr_get ht hk
     obtain ⟨g,hg,rfl⟩:=hv.ptr_inv
     obtain ⟨r1,r2,r3⟩:=bounds_sound (P:=P) (w:=w) (isS:=false) hx hy (Nat.le_refl n) hh hl
     refine ⟨.slice (some (if n=l then ⟨g,o,none⟩ else (⟨g,o,none⟩:Addr).add (l * k))) (h - l) (n - l),?_, .msl _ _ _ _ _ _ (fun hpos=>⟨g,hg,?_⟩) (by omega) (by omega),rfl⟩
     ·simp only [Instr.sliceAt,Sem.run_bind,run_underlying hu,Result.andThen_ok,Instr.sureAddr,r1,run_size e1,e2,Sem.run_pure]
     ·rw [if_neg (by omega),Addr.add_lit]
    ·cases hp
   ·cases hp
  ·rename_i n e k hk
   split at hp
   ·rename_i h hh
    split at hp
    ·rename_i l hl
     split at hp
     case isFalse=>cases hp
     rename_i hm0
     have hm:n≤maxLen:=by unfold maxLen;omega
     cases hp
     obtain ⟨t',hu,hu',i',e1,e2⟩:=parr_get ht hk
     obtain ⟨g,hg,rfl⟩:=hv.ptr_inv
     obtain ⟨r1,r2,r3⟩:=bounds_sound (P:=P) (w:=w) (isS:=false) hx hy (Nat.le_refl n) hh hl
     refine ⟨.slice (some (if n=l then ⟨g,o,none⟩ else (⟨g,o,none⟩:Addr).add (l * k))) (h - l) (n - l),?_, .msl _ _ _ _ _ _ (fun hpos=>⟨g,hg,?_⟩) (by omega) (by omega),rfl⟩
     ·simp only [Instr.sliceAt,Sem.run_bind,run_underlying hu,Result.andThen_ok,Instr.slice,asAddr,run_underlying hu',r1,run_size e1,e2,Sem.run_pure]
     ·rw [if_neg (by omega),Addr.add_lit]
    ·cases hp
   ·cases hp
  ·cases hp
 ·rename_i id o n k
  split at hp
  ·rename_i e k' by_ zr hk
   split at hp
   ·rename_i hkk
    subst hkk
    split at hp
    ·rename_i h hh
     split at hp
     ·rename_i l hl
      cases hp
      obtain ⟨hu,i',z',e1,e2,e3,e4,e5,e6,-,-⟩:=slice_get ht hk
      obtain ⟨a,cap,rfl,c1,c2,c4⟩:=hv.msl_inv
      obtain ⟨r1,r2,r3⟩:=bounds_sound (P:=P) (w:=w) (isS:=true) hx hy c1 hh hl
      refine ⟨.slice (if cap=l then a else a.map (·.add (l * k'))) (h - l) (cap - l),?_,?_,rfl⟩
      ·simp only [Instr.sliceAt,Sem.run_bind,run_underlying hu,Result.andThen_ok,Instr.slice,r1,run_size e1,e3,Sem.run_pure]
      ·refine .msl _ _ _ _ _ _ (fun hpos=>?_) (by omega) (by omega)
       obtain ⟨g,hg,rfl⟩:=c4 (by omega)
       rw [if_neg (by omega)]
       exact ⟨g,hg,by simp only [Option.map_some,Addr.add_lit]⟩
     ·cases hp
    ·cases hp
   ·cases hp
  ·cases hp
 ·rename_i n k cs own
  split at hp
  ·rename_i e k' by_ zr hk
   split at hp
   ·rename_i hkk
    subst hkk
    split at hp
    ·rename_i h hh
     split at hp
     ·rename_i l hl
      cases hp
      obtain ⟨hu,i',z',e1,e2,e3,e4,e5,e6,-,-⟩:=slice_get ht hk
      obtain ⟨a,b,off,cap,us,rfl,c1,c2,c3,c4,c5,c6⟩:=hv.sl_inv
      obtain ⟨r1,r2,r3⟩:=bounds_sound (P:=P) (w:=w) (isS:=true) hx hy c1 hh hl
      refine ⟨.slice (if cap=l then a else a.map (·.add (l * k'))) (h - l) (cap - l),?_,?_,rfl⟩
      ·simp only [Instr.sliceAt,Sem.run_bind,run_underlying hu,Result.andThen_ok,Instr.slice,r1,run_size e1,e3,Sem.run_pure]
      ·by_cases hz:h - l=0
       ·have:(cs.drop (l * k')).take ((h - l) * k') = []:=by rw [hz];simp
        rw [this,hz]
        exact .sl0 _ _ _ _ (by omega)
       ·obtain rfl:=c4 (by omega)
        rw [if_neg (by omega)]
        simp only [Option.map_some,Addr.add_lit]
        have hbig:l * k' + (h - l) * k'≤n * k':=by rw [←Nat.add_mul];exact Nat.mul_le_mul_right _ (by omega)
        refine .sl _ _ _ _ b (off+l * k') _ (fun j=>us (l * k' + j)) ?_ (by omega) (by omega) ?_ ?_
        ·rw [List.length_take,List.length_drop,c3];omega
        ·intro j hj
         rw [List.length_take,List.length_drop,c3] at hj
         rw [Nat.add_assoc]
         exact c5 _ (by omega)
        ·intro j c hc
         rw [List.getElem?_take] at hc
         split at hc
         ·rw [List.getElem?_drop] at hc;exact c6 _ _ hc
         ·cases hc
     ·cases hp
    ·cases hp
   ·cases hp
  ·cases hp
 ·rename_i s
  split at hp
  ·rename_i hk
   split at hp
   ·rename_i h hh
    split at hp
    ·rename_i l hl
     cases hp
     obtain ⟨rfl,-⟩:=hv.val_inv
     have hu:=kind_str ht hk
     obtain ⟨r1,r2,r3⟩:=bounds_sound (P:=P) (w:=w) (isS:=false) hx hy (Nat.le_refl s.size) hh hl
     refine ⟨.string (s.extract l h),?_, .val _ rfl,rfl⟩
     simp [Instr.sliceAt,run_underlying hu,Instr.slice,r1]
    ·cases hp
   ·cases hp
  ·cases hp
 ·cases hp
end
section
open Go.RowKit
def pcells:PV→Option (List PV)
 | .agg cs=>if cs.all PV.one then some (cs.map PV.bare) else none
 |p=>if p.one then some [p.bare] else none
def splice (cs:List PV) (off:Nat) (new:List PV):List PV:=cs.take off ++ new ++ cs.drop (off+new.length)
def splF:List PV→Nat→List PV→List PV
 |cs,0,[]=>cs
 |_ :: cs,0,n :: new=>n :: splF cs 0 new
 | [],0,n :: new=>n :: new
 |c :: cs,off+1,new=>c :: splF cs off new
 | [],_+1,new=>new
theorem splF_eq:∀(cs:List PV) (off:Nat) (new:List PV),off+new.length≤cs.length→splF cs off new=splice cs off new
 |cs,0,[],_=>by cases cs<;>simp [splF,splice]
 |c :: cs,0,n :: new,h=>by
  have:=splF_eq cs 0 new (by simp at h ⊢; omega)
  simp only [splF,this,splice]
  simp [Nat.add_comm]
 | [],0,n :: new,h=>by simp at h
 |c :: cs,off+1,new,h=>by
  have:=splF_eq cs off new (by simp at h;omega)
  simp only [splF,this,splice]
  rw [show off+1+new.length=(off+new.length)+1 by omega]
  simp
 | [],off+1,new,h=>by simp at h
def pfill (place:Nat→Option (Nat×Nat)) (cs:List PV):List (Nat×PV)→Option (List PV)
 | []=>some cs
 |(i,p) :: rest=>match place i,pcells p with
  |some (off,size),some new=>if new.length=size∧off+size≤cs.length then pfill place (splF cs off new) rest else none
  |_,_=>none
def CellsR (Φ:Imm) (μ:Nat→Option Nat) (cs:List PV) (us:List Value):Prop:=RepL Φ μ cs us∧(∀u∈us,u.oneCell' = true)∧∀c∈cs,c.ownB=false
theorem repL_bare {Φ:Imm} {μ:Nat→Option Nat} {cs:List PV} {us:List Value} (h:RepL Φ μ cs us):RepL Φ μ (cs.map PV.bare) us:=by
 refine ⟨by simp [h.1],fun j c u h1 h2=>?_⟩
 rw [List.getElem?_map] at h1
 obtain ⟨c',hc',rfl⟩:=Option.map_eq_some_iff.1 h1
 exact (h.2 j c' u hc' h2).bare
theorem repL_one {Φ:Imm} {μ:Nat→Option Nat} {cs:List PV} {us:List Value} (h:RepL Φ μ cs us) (ho:cs.all PV.one=true):∀u∈us,u.oneCell' = true:=by
 intro u hu
 obtain ⟨j,hj⟩:=List.getElem?_of_mem hu
 have hjl:j < cs.length:=by rw [←h.1];exact (List.getElem?_eq_some_iff.1 hj).1
 exact ((h.2 j cs[j] u (by simp [hjl]) hj).one (List.all_eq_true.1 ho _ (by simp))).1
theorem pcells_sound {Φ:Imm} {μ:Nat→Option Nat} {p:PV} {v:Value} (h:Rep Φ μ p v) {cs:List PV} (hc:pcells p=some cs):CellsR Φ μ cs v.cells.toList:=by
 unfold pcells at hc
 split at hc
 ·rename_i ds
  split at hc
  ·rename_i ho
   cases hc
   obtain ⟨us,rfl,hr⟩:=h.agg_inv
   refine ⟨by simpa [Value.cells] using repL_bare hr,by simpa [Value.cells] using repL_one hr ho,fun c hcm=>?_⟩
   obtain ⟨c',-,rfl⟩:=List.mem_map.1 hcm
   exact PV.bare_own _
  ·cases hc
 ·split at hc
  ·rename_i ho
   cases hc
   obtain ⟨h1,h2⟩:=h.one ho
   rw [h2]
   refine ⟨RepL.cons h.bare RepL.nil,by simpa using h1,by simpa using PV.bare_own _⟩
  ·cases hc
theorem repL_splice {Φ:Imm} {μ:Nat→Option Nat} {cs new:List PV} {us vs:List Value} {off:Nat} (h:CellsR Φ μ cs us) (hn:CellsR Φ μ new vs) (hle:off+new.length≤cs.length):CellsR Φ μ (splice cs off new) (us.take off ++ vs ++ us.drop (off+vs.length)):=by
 have hl:=h.1.1
 have hl2:=hn.1.1
 refine ⟨⟨?_,fun j c u h1 h2=>?_⟩,fun u hu=>?_,fun c hc=>?_⟩
 ·simp only [splice,List.length_append,List.length_take,List.length_drop];omega
 ·unfold splice at h1
  by_cases h3:j < off
  ·rw [List.append_assoc,List.getElem?_append_left (by rw [List.length_take];omega),List.getElem?_take,if_pos h3] at h1 h2
   exact h.1.2 j c u h1 h2
  ·by_cases h4:j < off+new.length
   ·rw [List.append_assoc,List.getElem?_append_right (by rw [List.length_take];omega),List.length_take,List.getElem?_append_left (by omega)] at h1 h2
    rw [show min off cs.length=off by omega] at h1
    rw [show min off us.length=off by omega] at h2
    exact hn.1.2 _ c u h1 h2
   ·rw [List.getElem?_append_right (by rw [List.length_append,List.length_take];omega),List.length_append,List.length_take,List.getElem?_drop] at h1 h2
    rw [show off+new.length+(j - (min off cs.length+new.length))=j by omega] at h1
    rw [show off+vs.length+(j - (min off us.length+vs.length))=j by omega] at h2
    exact h.1.2 j c u h1 h2
 ·simp only [List.mem_append] at hu
  rcases hu with (hu|hu)|hu
  ·exact h.2.1 u (List.mem_of_mem_take hu)
  ·exact hn.2.1 u hu
  ·exact h.2.1 u (List.mem_of_mem_drop hu)
 ·simp only [splice,List.mem_append] at hc
  rcases hc with (hc|hc)|hc
  ·exact h.2.2 c (List.mem_of_mem_take hc)
  ·exact hn.2.2 c hc
  ·exact h.2.2 c (List.mem_of_mem_drop hc)
theorem fold_set (off:Nat):∀(vs:List Value) (k:Nat) (cs:Array Value),off+k+vs.length≤cs.size →
  ((vs.zipIdx k).foldl (fun cs (x:Value×Nat)=>cs.setIfInBounds (off+x.2) x.1) cs).toList=cs.toList.take (off+k) ++ vs ++ cs.toList.drop (off+k+vs.length)
 | [],k,cs,h=>by simp
 |v :: vs,k,cs,h=>by
  simp only [List.length_cons] at h
  rw [List.zipIdx_cons,List.foldl_cons,fold_set off vs (k+1) _ (by simp;omega)]
  simp only [Array.toList_setIfInBounds]
  have hk:off+k < cs.toList.length:=by simp;omega
  rw [show off+(k+1)=off+k+1 by omega]
  rw [List.take_add_one,List.take_set_of_le (by omega),List.getElem?_set_self (by simpa using hk)]
  rw [List.drop_set_of_lt (by omega)]
  simp only [Option.toList_some,List.append_assoc,List.cons_append,List.nil_append,List.length_cons]
  rw [show off+k+1+vs.length=off+k+(vs.length+1) by omega]
theorem fill_sound {Φ:Imm} {μ:Nat→Option Nat} (place:Nat→Option (Nat×Nat)):∀(ps:List (Nat×PV)) (vs:List (Nat×Value)) (cs:List PV) (cur:Array Value) (out:List PV),CellsR Φ μ cs cur.toList →
  vs.length=ps.length→(∀(j:Nat) i p i' v,ps[j]? = some (i,p)→vs[j]? = some (i',v)→i' = i∧Rep Φ μ p v)→pfill place cs ps=some out→∃cur',Instr.fill place cur vs=some cur'∧CellsR Φ μ out cur'.toList
 | [],vs,cs,cur,out,hc,hl,_,h=>by
  obtain rfl:vs = []:=List.eq_nil_of_length_eq_zero (by simpa using hl)
  simp [pfill] at h;subst h
  exact ⟨cur,rfl,hc⟩
 |(i,p) :: ps,[],cs,cur,out,hc,hl,_,h=>by simp at hl
 |(i,p) :: ps,(i',v) :: vs,cs,cur,out,hc,hl,hr,h=>by
  obtain ⟨rfl,hpv⟩:=hr 0 i p i' v rfl rfl
  simp only [pfill] at h
  split at h
  ·rename_i off size new hpl hnew
   split at h
   ·rename_i hcond
    have hn:=pcells_sound hpv hnew
    have hlen:=hn.1.1
    have hl0:=hc.1.1
    simp only [Array.length_toList] at hlen hl0
    have hsp:=repL_splice hc hn (off:=off) (by omega)
    rw [splF_eq cs off new (by omega)] at h
    obtain ⟨cur',r1,r2⟩:=fill_sound place ps vs (splice cs off new) (v.cells.zipIdx.foldl (fun cs (x:Value×Nat)=>cs.setIfInBounds (off+x.2) x.1) cur) out (by
     have:=fold_set off v.cells.toList 0 cur (by simp;omega)
     rw [Nat.add_zero] at this
     rw [←Array.foldl_toList,Array.toList_zipIdx,this];exact hsp) (by simpa using hl) (fun j a b c d e1 e2=>hr (j+1) a b c d (by simpa using e1) (by simpa using e2)) h
    refine ⟨cur',?_,r2⟩
    rw [Instr.fill,hpl]
    simp only
    rw [if_neg (by simp;omega)]
    exact r1
   ·cases h
  ·cases h
def depO (o:Oper) (j:Nat):Bool:=o.after.any fun e=>Region.binds .any e && e.on == j
theorem getD_set (l:Array Bool) (i j:Nat) (h:i < l.size):(l.setIfInBounds i true).getD j false=(decide (j=i) || l.getD j false):=by
 simp only [Array.getD_eq_getD_getElem?,Array.getElem?_setIfInBounds]
 by_cases e:i=j
 ·subst e;simp [h]
 ·have e' : ¬j=i:=fun x=>e x.symm
  simp [e,e']
theorem mem_ready {ops:Array Oper} {listed:Array Bool} {i:Nat} (hs:listed.size=ops.size):i∈Region.ready .any ops listed↔∃o,ops[i]? = some o∧listed.getD i false=false∧∀j,depO o j=true→listed.getD j false=true:=by
 unfold Region.ready
 rw [List.mem_filter,List.mem_range]
 constructor
 ·rintro ⟨h1,h2⟩
  obtain ⟨o,ho⟩:∃o,ops[i]? = some o:=⟨ops[i],by simp [h1]⟩
  rw [ho] at h2
  simp only [Option.map_some,Option.getD_some,Bool.and_eq_true] at h2
  refine ⟨o,ho,?_,fun j hj=>?_⟩
  ·have:i < listed.size:=by omega
   have h3:=h2.1
   simp only [Array.getD_eq_getD_getElem?,Array.getElem?_eq_getElem this,Option.getD_some] at h3 ⊢
   simpa using h3
  ·unfold depO at hj
   rw [Array.any_eq_true] at hj
   obtain ⟨k,hk,hk2⟩:=hj
   simp only [Bool.and_eq_true,beq_iff_eq] at hk2
   have:=(Array.all_eq_true.1 h2.2) k hk
   rw [hk2.1,hk2.2] at this
   simpa using this
 ·rintro ⟨o,ho,h1,h2⟩
  have hi:i < ops.size:=(Array.getElem?_eq_some_iff.1 ho).1
  refine ⟨hi,?_⟩
  rw [ho]
  simp only [Option.map_some,Option.getD_some,Bool.and_eq_true]
  refine ⟨?_,?_⟩
  ·have:i < listed.size:=by omega
   simp only [Array.getD_eq_getD_getElem?,Array.getElem?_eq_getElem this,Option.getD_some] at h1 ⊢
   simp [h1]
  ·rw [Array.all_eq_true]
   intro k hk
   cases hb:Region.binds .any o.after[k]
   ·simp
   ·have:depO o o.after[k].on=true:=by
     unfold depO
     rw [Array.any_eq_true]
     exact ⟨k,hk,by simp [hb]⟩
    simpa using h2 _ this
end
section
open Go.RowKit
variable {P:Program} {ops:Array Oper} {Q:Exit→Act→World→Prop} {a0:Act} {w1:World} {R:Nat→Value→World→Prop} {le:World→World→Prop}
def unlisted (l:Array Bool):Nat:=(List.range l.size).countP fun i => !l.getD i false
theorem unlisted_set (l:Array Bool) (i:Nat) (hi:i < l.size) (h:l.getD i false=false):unlisted (l.setIfInBounds i true) < unlisted l:=by
 unfold unlisted
 rw [Array.size_setIfInBounds]
 have key:∀(r:List Nat),(r.countP fun j => !(l.setIfInBounds i true).getD j false)≤(r.countP fun j => !l.getD j false)∧(i∈r→(r.countP fun j => !(l.setIfInBounds i true).getD j false) < (r.countP fun j => !l.getD j false)):=by
  intro r
  induction r with
  |nil=>simp
  |cons x xs ih=>
   rw [List.countP_cons,List.countP_cons,getD_set _ _ _ hi]
   by_cases e:x=i
   ·subst e
    simp only [h,decide_true,Bool.true_or,Bool.not_true,Bool.not_false,if_true,Bool.false_eq_true,if_false]
    exact ⟨by omega,fun _=>by omega⟩
   ·simp only [e,decide_false,Bool.false_or]
    refine ⟨by omega,fun hm=>?_⟩
    have:=ih.2 (by simpa [Ne.symm e] using hm)
    omega
 exact (key _).2 (List.mem_range.2 hi)
theorem unlisted_zero {l:Array Bool} (h:unlisted l=0):∀i,i < l.size→l.getD i false=true:=by
 intro i hi
 unfold unlisted at h
 rw [List.countP_eq_zero] at h
 simpa using h i (List.mem_range.2 hi)
end
section
theorem drop_one {α:Type} (zs:List α) (k:Nat) (a:α) (ha:zs[k]? = some a):zs.drop k=a :: zs.drop (k+1):=by
 obtain ⟨hk,rfl⟩:=List.getElem?_eq_some_iff.1 ha
 rw [List.drop_eq_getElem_cons (by omega)]
def mergeF (r:Bool→Bool→Bool):Nat→List Int→List Int→Bool→Bool→Bool→List Int
 |0,_,_,_,_,_ => []
 |_+1,[],[],_,_,_ => []
 |n+1,a :: az,[],pa,pb,po=>if r (!pa) pb != po then a :: mergeF r n az [] (!pa) pb (!po) else mergeF r n az [] (!pa) pb po
 |n+1,[],b :: bs,pa,pb,po=>if r pa (!pb) != po then b :: mergeF r n [] bs pa (!pb) (!po) else mergeF r n [] bs pa (!pb) po
 |n+1,a :: az,b :: bs,pa,pb,po=>
  if a < b then (if r (!pa) pb != po then a :: mergeF r n az (b :: bs) (!pa) pb (!po) else mergeF r n az (b :: bs) (!pa) pb po)
  else if b < a then (if r pa (!pb) != po then b :: mergeF r n (a :: az) bs pa (!pb) (!po) else mergeF r n (a :: az) bs pa (!pb) po)
  else (if r (!pa) (!pb) != po then a :: mergeF r n az bs (!pa) (!pb) (!po) else mergeF r n az bs (!pa) (!pb) po)
def mergeL (r:Bool→Bool→Bool) (az bs:List Int):List Int:=mergeF r (az.length+bs.length) az bs false false false
theorem mergeF_nil (r:Bool→Bool→Bool) (n:Nat) (pa pb po:Bool):mergeF r n [] [] pa pb po = []:=by cases n<;>rfl
theorem mergeF_left (r:Bool→Bool→Bool) (n:Nat) (a:Int) (az:List Int) (pa pb po:Bool) :
  mergeF r (n+1) (a :: az) [] pa pb po=if r (!pa) pb != po then a :: mergeF r n az [] (!pa) pb (!po) else mergeF r n az [] (!pa) pb po:=rfl
theorem mergeF_right (r:Bool→Bool→Bool) (n:Nat) (b:Int) (bs:List Int) (pa pb po:Bool) :
  mergeF r (n+1) [] (b :: bs) pa pb po=if r pa (!pb) != po then b :: mergeF r n [] bs pa (!pb) (!po) else mergeF r n [] bs pa (!pb) po:=rfl
def MergeAt (r:Bool→Bool→Bool) (az bs:List Int) (i k:Nat) (out:List Int):Prop:=
 mergeL r az bs=out ++ mergeF r (az.length - i+(bs.length - k)) (az.drop i) (bs.drop k) (decide (i % 2=1)) (decide (k % 2=1)) (decide (out.length % 2=1))
theorem MergeAt.done {r:Bool→Bool→Bool} {az bs:List Int} {i k:Nat} {out:List Int} (h:MergeAt r az bs i k out) (hi:az.length≤i) (hk:bs.length≤k):mergeL r az bs=out:=by
 rw [MergeAt,List.drop_eq_nil_of_le hi,List.drop_eq_nil_of_le hk,mergeF_nil] at h
 simpa using h
theorem odd_succ (i:Nat):decide ((i+1) % 2=1) = !decide (i % 2=1):=by
 by_cases h:i % 2=1
 ·have:(i+1) % 2=0:=by omega
  simp [h,this]
 ·have:(i+1) % 2=1:=by omega
  simp [h,this]
def addIf (c:Bool) (out:List Int) (x:Int):List Int:=if c then out ++ [x] else out
theorem MergeAt.left {r:Bool→Bool→Bool} {az bs:List Int} {i k:Nat} {out:List Int} (h:MergeAt r az bs i k out) (x:Int) (hx:az[i]? = some x) (hk:bs.length≤k∨∃y,bs[k]? = some y∧x < y) (c:Bool)
  (hc:c=(r (decide ((i+1) % 2=1)) (decide (k % 2=1)) != decide (out.length % 2=1))):MergeAt r az bs (i+1) k (addIf c out x):=by
 obtain ⟨hi,_⟩:=List.getElem?_eq_some_iff.1 hx
 unfold MergeAt at h ⊢
 rw [h]
 have e1:az.length - i+(bs.length - k)=(az.length - (i+1)+(bs.length - k))+1:=by omega
 rw [e1,drop_one az i x hx]
 rw [odd_succ] at hc
 have step:mergeF r (az.length - (i+1)+(bs.length - k)+1) (x :: az.drop (i+1)) (bs.drop k) (decide (i % 2=1)) (decide (k % 2=1)) (decide (out.length % 2=1)) =
   if c then x :: mergeF r (az.length - (i+1)+(bs.length - k)) (az.drop (i+1)) (bs.drop k) (!decide (i % 2=1)) (decide (k % 2=1)) (!decide (out.length % 2=1))
   else mergeF r (az.length - (i+1)+(bs.length - k)) (az.drop (i+1)) (bs.drop k) (!decide (i % 2=1)) (decide (k % 2=1)) (decide (out.length % 2=1)):=by
  rcases hk with hk|⟨y,hy,hxy⟩
  ·rw [List.drop_eq_nil_of_le hk,mergeF_left,hc]
  ·rw [drop_one bs k y hy,mergeF.eq_5,if_pos hxy,hc]
 rw [step,odd_succ]
 cases c
 ·simp [addIf]
 ·simp only [addIf,if_true,List.length_append,List.length_cons,List.length_nil,Nat.zero_add,odd_succ,List.append_assoc,List.cons_append,List.nil_append]
theorem MergeAt.right {r:Bool→Bool→Bool} {az bs:List Int} {i k:Nat} {out:List Int} (h:MergeAt r az bs i k out) (x:Int) (hx:bs[k]? = some x) (hk:az.length≤i∨∃y,az[i]? = some y∧x < y) (c:Bool)
  (hc:c=(r (decide (i % 2=1)) (decide ((k+1) % 2=1)) != decide (out.length % 2=1))):MergeAt r az bs i (k+1) (addIf c out x):=by
 obtain ⟨hi,_⟩:=List.getElem?_eq_some_iff.1 hx
 unfold MergeAt at h ⊢
 rw [h]
 have e1:az.length - i+(bs.length - k)=(az.length - i+(bs.length - (k+1)))+1:=by omega
 rw [e1,drop_one bs k x hx]
 rw [odd_succ] at hc
 have step:mergeF r (az.length - i+(bs.length - (k+1))+1) (az.drop i) (x :: bs.drop (k+1)) (decide (i % 2=1)) (decide (k % 2=1)) (decide (out.length % 2=1)) =
   if c then x :: mergeF r (az.length - i+(bs.length - (k+1))) (az.drop i) (bs.drop (k+1)) (decide (i % 2=1)) (!decide (k % 2=1)) (!decide (out.length % 2=1))
   else mergeF r (az.length - i+(bs.length - (k+1))) (az.drop i) (bs.drop (k+1)) (decide (i % 2=1)) (!decide (k % 2=1)) (decide (out.length % 2=1)):=by
  rcases hk with hk|⟨y,hy,hxy⟩
  ·rw [List.drop_eq_nil_of_le hk,mergeF_right,hc]
  ·rw [drop_one az i y hy,mergeF.eq_5,if_neg (by omega),if_pos hxy,hc]
 rw [step,odd_succ]
 cases c
 ·simp [addIf]
 ·simp only [addIf,if_true,List.length_append,List.length_cons,List.length_nil,Nat.zero_add,odd_succ,List.append_assoc,List.cons_append,List.nil_append]
def val:List Int→Int
 | []=>0
 |d :: r=>d % 128+128 * val r
theorem pow7 (k:Nat):(2:Int) ^ (7 * (k+1))=128 * 2 ^ (7 * k):=by
 rw [show 7 * (k+1)=7 * k+7 by omega,Int.pow_add,Int.mul_comm];rfl
theorem val_snoc (c:Int):∀(l:List Int),val (l ++ [c])=val l+c % 128 * 2 ^ (7 * l.length)
 | []=>by simp [val]
 |d :: r=>by
  have:=val_snoc c r
  simp only [List.cons_append,val,this,List.length_cons,pow7]
  rw [Int.mul_add,←Int.mul_assoc,←Int.mul_assoc,Int.mul_comm 128 (c % 128)]
  omega
theorem val_take (bs:List Int) (k:Nat) (c:Int) (h:bs[k]? = some c):val (bs.take (k+1))=val (bs.take k)+c % 128 * 2 ^ (7 * k):=by
 obtain ⟨hk,_⟩:=List.getElem?_eq_some_iff.1 h
 rw [List.take_add_one,h,Option.toList,val_snoc,List.length_take,Nat.min_eq_left (by omega)]
theorem val_lt:∀(l:List Int),0≤val l∧val l < 2 ^ (7 * l.length)
 | []=>by simp [val]
 |d :: r=>by
  have:=val_lt r
  simp only [val,List.length_cons,pow7]
  omega
theorem val_last (l:List Int) (c:Int) (h:c % 128≤1):val (l ++ [c]) < 2 * 2 ^ (7 * l.length):=by
 rw [val_snoc]
 have h1:=val_lt l
 have hp:(0:Int) < 2 ^ (7 * l.length):=Int.pow_pos (by decide)
 have hm:c % 128 * 2 ^ (7 * l.length)≤1 * 2 ^ (7 * l.length):=Int.mul_le_mul_of_nonneg_right h (by omega)
 omega
theorem val_fits (bs:List Int) (k i:Nat) (c:Int) (h:bs[k]? = some c) (hk:k≤9) (hi:i≤k+1) (h9:k=9→c≤1) (hc:0≤c):0≤val ((bs.take (k+1)).drop i)∧val ((bs.take (k+1)).drop i) < 18446744073709551616:=by
 refine ⟨(val_lt _).1,?_⟩
 obtain ⟨hlt,_⟩:=List.getElem?_eq_some_iff.1 h
 by_cases g:k=9
 ·by_cases hik:i=k+1
  ·rw [List.drop_eq_nil_of_le (by simp;omega)];simp [val]
  ·have e:(bs.take (k+1)).drop i=(bs.take k).drop i ++ [c]:=by
    rw [List.take_add_one,h,Option.toList,List.drop_append_of_le_length (by simp;omega)]
   have hl:((bs.take k).drop i).length≤9:=by simp;omega
   rw [e]
   have h1:=val_last ((bs.take k).drop i) c (by have:=h9 g;omega)
   have hle:(2:Int) ^ (7 * ((bs.take k).drop i).length)≤2 ^ 63:=by
    have h:=Nat.pow_le_pow_right (n:=2) (by decide) (show 7 * ((bs.take k).drop i).length≤63 by omega)
    exact_mod_cast h
   have e2:(2:Int) ^ 63=9223372036854775808:=by decide
   omega
 ·have h1:=(val_lt ((bs.take (k+1)).drop i)).2
  have hl:((bs.take (k+1)).drop i).length≤9:=by simp;omega
  have hle:(2:Int) ^ (7 * ((bs.take (k+1)).drop i).length)≤2 ^ 63:=by
   have h:=Nat.pow_le_pow_right (n:=2) (by decide) (show 7 * ((bs.take (k+1)).drop i).length≤63 by omega)
   exact_mod_cast h
  have e2:(2:Int) ^ 63=9223372036854775808:=by decide
  omega
theorem val_step (bs:List Int) (k i:Nat) (c:Int) (hi:i≤k) (h:bs[i]? = some c):val ((bs.take (k+1)).drop i)=c % 128+128 * val ((bs.take (k+1)).drop (i+1)):=by
 obtain ⟨hlt,e⟩:=List.getElem?_eq_some_iff.1 h
 rw [List.drop_eq_getElem_cons (by simp;omega),val]
 simp [e]
theorem getI_lead (bs:List Int):∀k,k≤9→(∀(j:Nat) (c:Int),j < k→bs[j]? = some c→128≤c)→k≤bs.length→getI bs=getGo (bs.drop k) k (val (bs.take k))
 |0,_,_,_=>rfl
 |k+1,hk,hall,hl=>by
  obtain ⟨c,hc⟩:∃c,bs[k]? = some c:=⟨bs[k],by simp⟩
  have h1:=hall k c (by omega) hc
  rw [getI_lead bs k (by omega) (fun j d hj=>hall j d (by omega)) (by omega),getGo_drop bs k c _ hc,if_neg (by omega),if_neg (by omega),val_take bs k c hc]
theorem getI_ten (bs:List Int) (hall:∀(j:Nat) (c:Int),j < 10→bs[j]? = some c→128≤c) (hl:10≤bs.length):getI bs=(0,0,11):=by
 obtain ⟨c,hc⟩:∃c,bs[9]? = some c:=⟨bs[9],by simp⟩
 rw [getI_lead bs 9 (by omega) (fun j d hj=>hall j d (by omega)) (by omega),getGo_drop bs 9 c _ hc,if_pos]
 left;have:=hall 9 c (by omega) hc;omega
theorem getI_short (bs:List Int) (k:Nat) (hk:k≤9) (hall:∀(j:Nat) (c:Int),j < k→bs[j]? = some c→128≤c) (hl:bs.length=k):getI bs=(0,0,10):=by
 rw [getI_lead bs k hk hall (by omega),getGo_end _ _ _ (by omega)]
theorem getI_bad (bs:List Int) (k:Nat) (c:Int) (hk:k≤9) (hall:∀(j:Nat) (c:Int),j < k→bs[j]? = some c→128≤c) (hc:bs[k]? = some c) (h:(k=9∧1 < c)∨(0 < k∧c=0)):getI bs=(0,0,11):=by
 obtain ⟨hlt,_⟩:=List.getElem?_eq_some_iff.1 hc
 rw [getI_lead bs k hk hall (by omega),getGo_drop bs k c _ hc,if_pos h]
theorem getI_good (bs:List Int) (k:Nat) (c:Int) (hk:k≤9) (hall:∀(j:Nat) (c:Int),j < k→bs[j]? = some c→128≤c) (hc:bs[k]? = some c) (h:¬((k=9∧1 < c)∨(0 < k∧c=0))) (h1:c < 128) :
  getI bs=(unzig (val (bs.take (k+1))),(k:Int)+1,0):=by
 obtain ⟨hlt,_⟩:=List.getElem?_eq_some_iff.1 hc
 rw [getI_lead bs k hk hall (by omega),getGo_drop bs k c _ hc,if_neg h,if_pos h1,val_take bs k c hc]
theorem getGo_ok:∀(l:List Int) (k:Nat) (z:Int),k≤9→0≤z→z < 2 ^ (7 * k)→(∀c∈l,0≤c∧c < 256)→(getGo l k z).2.2=0 →
  (k:Int)+1≤(getGo l k z).2.1∧(getGo l k z).2.1≤k+l.length ∧ -9223372036854775808≤(getGo l k z).1∧(getGo l k z).1≤9223372036854775807
 | [],k,z,_,_,_,_,h=>by simp [getGo] at h
 |c :: r,k,z,hk,h0,hz,hby,h=>by
  rw [getGo] at h ⊢
  by_cases g:(k=9∧1 < c)∨(0 < k∧c=0)
  ·rw [if_pos g] at h;simp at h
  ·rw [if_neg g] at h ⊢
   obtain ⟨c0,c1⟩:=hby c (by simp)
   have hp:(0:Int) < 2 ^ (7 * k):=Int.pow_pos (by decide)
   have hn:0≤c % 128 * 2 ^ (7 * k):=Int.mul_nonneg (by omega) (by omega)
   have hm:c % 128 * 2 ^ (7 * k)≤127 * 2 ^ (7 * k):=Int.mul_le_mul_of_nonneg_right (by omega) (by omega)
   by_cases g2:c < 128
   ·rw [if_pos g2] at h ⊢
    simp only at h ⊢
    have hlt:z+c % 128 * 2 ^ (7 * k) < 18446744073709551616:=by
     by_cases g9:k=9
     ·subst g9
      have hm:c % 128 * 2 ^ (7 * 9)≤1 * 2 ^ (7 * 9):=Int.mul_le_mul_of_nonneg_right (by omega) (by omega)
      have e:(2:Int) ^ (7 * 9)=9223372036854775808:=by decide
      rw [e] at *
      omega
     ·have hle:(2:Int) ^ (7 * k)≤2 ^ 56:=by
       have h:=Nat.pow_le_pow_right (n:=2) (by decide) (show 7 * k≤56 by omega)
       exact_mod_cast h
      have e:(2:Int) ^ 56=72057594037927936:=by decide
      rw [e] at hle
      omega
    have hnn:0≤z+c % 128 * 2 ^ (7 * k):=by omega
    generalize z+c % 128 * 2 ^ (7 * k)=q at *
    refine ⟨by omega,by simp;omega,?_,?_⟩<;>(unfold unzig;split<;>omega)
   ·rw [if_neg g2] at h ⊢
    have ih:=getGo_ok r (k+1) (z+c % 128 * 2 ^ (7 * k)) (by omega) (by omega) (by rw [pow7];omega) (fun d hd=>hby d (by simp [hd])) h
    simp only [List.length_cons]
    omega
theorem getI_ok (l:List Int) (hby:∀c∈l,0≤c∧c < 256) (h:(getI l).2.2=0) :
  1≤(getI l).2.1∧(getI l).2.1≤l.length ∧ -9223372036854775808≤(getI l).1∧(getI l).1≤9223372036854775807:=by
 have:=getGo_ok l 0 0 (by omega) (by omega) (by simp) hby h
 unfold getI;omega
def lenL (bs:List Int) (least:Int):Int×Int×Int:=
 if (getI bs).2.2≠0 then (0,0,(getI bs).2.2)
 else if (getI bs).1 < 0 then (0,0,11)
 else if (bs.length - (getI bs).2.1) / least < (getI bs).1 then (0,0,10)
 else ((getI bs).1,(getI bs).2.1,0)
theorem lenL_ok (bs:List Int) (least:Int) (hby:∀c∈bs,0≤c∧c < 256) (h:(lenL bs least).2.2=0) :
  0≤(lenL bs least).1∧1≤(lenL bs least).2.1∧(lenL bs least).2.1≤bs.length∧(lenL bs least).1≤(bs.length - (lenL bs least).2.1) / least:=by
 unfold lenL at *
 by_cases h1:(getI bs).2.2≠0
 ·rw [if_pos h1] at h;exact absurd h h1
 ·rw [if_neg h1] at h ⊢
  have:=getI_ok bs hby (by simpa using h1)
  by_cases h2:(getI bs).1 < 0
  ·rw [if_pos h2] at h;simp at h
  ·rw [if_neg h2] at h ⊢
   by_cases h3:(bs.length - (getI bs).2.1) / least < (getI bs).1
   ·rw [if_pos h3] at h;simp at h
   ·rw [if_neg h3] at h ⊢
    simp only
    omega
def getN:Nat→List Int→List Int×Int×Int
 |0,_=>([],0,0)
 |n+1,bs=>
  if (getI bs).2.2≠0 then ([],0,(getI bs).2.2)
  else if (getN n (bs.drop (getI bs).2.1.toNat)).2.2≠0 then ([],0,(getN n (bs.drop (getI bs).2.1.toNat)).2.2)
  else ((getI bs).1 :: (getN n (bs.drop (getI bs).2.1.toNat)).1,(getI bs).2.1+(getN n (bs.drop (getI bs).2.1.toNat)).2.1,0)
def andThen (out:List Int) (at_:Int) (s:List Int×Int×Int):List Int×Int×Int:=
 if s.2.2≠0 then ([],0,s.2.2) else (out ++ s.1,at_+s.2.1,0)
def getInts (bs:List Int):List Int×Int×Int:=
 if (lenL bs 1).2.2≠0 then ([],0,(lenL bs 1).2.2) else andThen [] (lenL bs 1).2.1 (getN (lenL bs 1).1.toNat (bs.drop (lenL bs 1).2.1.toNat))
theorem andThen_err (out:List Int) (at_:Int) (n:Nat) (bs:List Int) (r:Int×Int×Int) (hr:getI bs=r) (h:r.2.2≠0):andThen out at_ (getN (n+1) bs)=([],0,r.2.2):=by
 subst hr
 simp [andThen,getN,h]
theorem andThen_step (out:List Int) (at_:Int) (n:Nat) (bs:List Int) (r:Int×Int×Int) (hr:getI bs=r) (h:r.2.2=0) :
  andThen out at_ (getN (n+1) bs)=andThen (out ++ [r.1]) (at_+r.2.1) (getN n (bs.drop r.2.1.toNat)):=by
 subst hr
 by_cases g:(getN n (bs.drop (getI bs).2.1.toNat)).2.2=0
 ·simp [andThen,getN,h,g];omega
 ·simp [andThen,getN,h,g]
theorem andThen_done (out:List Int) (at_:Int) (bs:List Int):andThen out at_ (getN 0 bs)=(out,at_,0):=by simp [andThen,getN]
def intsB (l:List Int):List Int:=intB l.length ++ (l.map intB).flatten
theorem intB_len (n:Int) (h1 : -9223372036854775808≤n) (h2:n≤9223372036854775807):1≤(intB n).length∧(intB n).length≤10:=⟨leb_pos _,leb64 _ (zig_lt n h1 h2)⟩
theorem flat_len (l:List Int) (h:∀z∈l,-9223372036854775808≤z∧z≤9223372036854775807):((l.map intB).flatten).length≤10 * l.length:=by
 induction l with
 |nil=>simp
 |cons a r ih=>
  have h1:=intB_len a (h a (by simp)).1 (h a (by simp)).2
  have h2:=ih (fun z hz=>h z (by simp [hz]))
  simp only [List.map_cons,List.flatten_cons,List.length_append,List.length_cons]
  omega
theorem flat_take (l:List Int) (k:Nat) (a:Int) (h:l[k]? = some a):((l.take (k+1)).map intB).flatten=((l.take k).map intB).flatten ++ intB a:=by
 rw [List.take_add_one,h];simp
theorem getGo_leb (rest:List Int):∀(q k:Nat) (acc:Int),k≤9→(q:Int) * 2 ^ (7 * k) < 18446744073709551616→(0 < k→q≠0) →
  getGo (leb q ++ rest) k acc=(unzig (acc+q * 2 ^ (7 * k)),((k+(leb q).length:Nat):Int),0):=by
 intro q
 induction q using Nat.strongRecOn with
 |_ q ih=>
  intro k acc hk hq h0
  have hp:(0:Int) < 2 ^ (7 * k):=Int.pow_pos (by decide)
  by_cases g:q < 128
  ·rw [leb_small q g]
   have h9:k=9→(q:Int)≤1:=by
    intro e;subst e
    have e2:(2:Int) ^ (7 * 9)=9223372036854775808:=by decide
    rw [e2] at hq;omega
   rw [List.cons_append,List.nil_append,getGo,if_neg (by
    rintro (⟨h1,h2⟩|⟨h1,h2⟩)
    ·have:=h9 h1;omega
    ·have:=h0 h1;omega),if_pos (by omega),show (q:Int) % 128=q by omega]
   simp
  ·rw [leb_big q (by omega),List.cons_append,getGo]
   have hk8:k≤8:=by
    by_cases e:k=9
    ·subst e
     have e2:(2:Int) ^ (7 * 9)=9223372036854775808:=by decide
     rw [e2] at hq;omega
    ·omega
   rw [if_neg (by omega),if_neg (by omega)]
   have e1:((q % 128+128:Nat):Int) % 128=((q % 128:Nat):Int):=by omega
   have e7:(2:Int) ^ (7 * (k+1))=128 * 2 ^ (7 * k):=pow7 k
   have e8:((q / 128:Nat):Int) * (128 * 2 ^ (7 * k))=(((q / 128) * 128:Nat):Int) * 2 ^ (7 * k):=by
    rw [←Int.mul_assoc];simp
   have hle:(((q / 128) * 128:Nat):Int) * 2 ^ (7 * k)≤(q:Int) * 2 ^ (7 * k):=Int.mul_le_mul_of_nonneg_right (by omega) (by omega)
   rw [e1,ih (q / 128) (by omega) (k+1) _ (by omega) (by rw [e7,e8];omega) (by omega)]
   have e9:acc+((q % 128:Nat):Int) * 2 ^ (7 * k)+((q / 128:Nat):Int) * 2 ^ (7 * (k+1))=acc+(q:Int) * 2 ^ (7 * k):=by
    rw [e7,e8,Int.add_assoc,←Int.add_mul]
    congr 2;omega
   rw [e9,List.length_cons]
   congr 2;omega
theorem getI_intB (n:Int) (rest:List Int) (h1 : -9223372036854775808≤n) (h2:n≤9223372036854775807):getI (intB n ++ rest)=(n,((intB n).length:Int),0):=by
 have hz:=zig_lt n h1 h2
 rw [getI,intB,getGo_leb rest (zig n) 0 0 (by omega) (by simp;omega) (by omega)]
 simp [unzig_zig]
theorem getN_flat:∀(ds:List Int),(∀z∈ds,-9223372036854775808≤z∧z≤9223372036854775807)→∀rest,getN ds.length ((ds.map intB).flatten ++ rest)=(ds,(((ds.map intB).flatten).length:Int),0)
 | [],_,rest=>rfl
 |d :: r,h,rest=>by
  have hd:=h d (by simp)
  have ih:=getN_flat r (fun z hz=>h z (by simp [hz])) rest
  simp only [List.map_cons,List.flatten_cons,List.length_cons,List.append_assoc]
  rw [getN,getI_intB d _ hd.1 hd.2]
  simp only [ne_eq,not_true_eq_false,if_false,Int.toNat_natCast,List.drop_left]
  rw [ih]
  simp
theorem flat_ge:∀(ds:List Int),ds.length≤((ds.map intB).flatten).length
 | []=>by simp
 |d :: r=>by
  have:=flat_ge r
  have:=leb_pos (zig d)
  simp only [List.map_cons,List.flatten_cons,List.length_append,List.length_cons]
  have e:(intB d).length=(leb (zig d)).length:=rfl
  omega
theorem unzig_nat (q:Nat):zig (unzig q)=q:=by unfold zig unzig;split<;>split<;>omega
theorem getGo_back:∀(l:List Int) (k:Nat) (acc:Int) (x u:Int),(∀c∈l,0≤c∧c < 256)→getGo l k acc=(x,u,0) →
  ∃q m:Nat,u=((k+m:Nat):Int)∧l.take m=leb q∧x=unzig (acc+q * 2 ^ (7 * k))∧(0 < k→q≠0)
 | [],k,acc,x,u,_,h=>by simp [getGo] at h
 |c :: r,k,acc,x,u,hby,h=>by
  obtain ⟨c0,c1⟩:=hby c (by simp)
  rw [getGo] at h
  by_cases g:(k=9∧1 < c)∨(0 < k∧c=0)
  ·rw [if_pos g] at h;simp at h
  ·rw [if_neg g] at h
   by_cases g2:c < 128
   ·rw [if_pos g2] at h
    simp only [Prod.mk.injEq,and_true] at h
    obtain ⟨rfl,rfl⟩:=h
    refine ⟨c.toNat,1,by simp,?_,?_,fun hk=>by omega⟩
    ·rw [leb_small _ (by omega)];simp;omega
    ·rw [show (c.toNat:Int)=c % 128 by omega]
   ·rw [if_neg g2] at h
    obtain ⟨q,m,h1,h2,h3,h4⟩:=getGo_back r (k+1) _ x u (fun d hd=>hby d (by simp [hd])) h
    refine ⟨(c - 128).toNat+128 * q,m+1,by rw [h1];omega,?_,?_,fun _=>by have:=h4 (by omega);omega⟩
    ·have:=h4 (by omega)
     rw [leb_big _ (by omega),List.take_succ_cons,h2]
     congr 1
     ·omega
     ·congr 1;omega
    ·rw [h3,pow7]
     congr 1
     have e1:c % 128=((c - 128).toNat:Int):=by omega
     rw [e1,Int.add_assoc]
     congr 1
     rw [show (((c - 128).toNat+128 * q:Nat):Int)=((c - 128).toNat:Int)+(q:Int) * 128 by omega,Int.add_mul,Int.mul_assoc]
theorem getI_back (l:List Int) (x u:Int) (hby:∀c∈l,0≤c∧c < 256) (h:getI l=(x,u,0)):l.take u.toNat=intB x:=by
 obtain ⟨q,m,h1,h2,h3,_⟩:=getGo_back l 0 0 x u hby h
 rw [h1,h3]
 simp only [Nat.zero_add,Int.toNat_natCast,Nat.mul_zero,Int.pow_zero,Int.mul_one,Int.zero_add,intB,unzig_nat]
 exact h2
theorem getN_back:∀(n:Nat) (l ds:List Int) (u:Int),(∀c∈l,0≤c∧c < 256)→getN n l=(ds,u,0)→l.take u.toNat=(ds.map intB).flatten∧ds.length=n∧0≤u∧u≤l.length
 |0,l,ds,u,_,h=>by
  simp only [getN,Prod.mk.injEq,and_true] at h
  obtain ⟨rfl,rfl⟩:=h
  simp
 |n+1,l,ds,u,hby,h=>by
  rw [getN] at h
  obtain ⟨x,v,e,hr⟩:∃x v e,getI l=(x,v,e):=⟨_,_,_,rfl⟩
  have ok:=getI_ok l hby
  rw [hr] at h ok
  simp only at h ok
  by_cases g:e≠0
  ·rw [if_pos g] at h
   simp only [Prod.mk.injEq] at h
   exact absurd h.2.2 g
  ·rw [if_neg g] at h
   have g' : e=0:=by simpa using g
   subst g'
   obtain ⟨o1,o2,_,_⟩:=ok rfl
   obtain ⟨d2,u2,e2,hr2⟩:∃p s t,getN n (l.drop v.toNat)=(p,s,t):=⟨_,_,_,rfl⟩
   rw [hr2] at h
   simp only at h
   by_cases g2:e2≠0
   ·rw [if_pos g2] at h
    simp only [Prod.mk.injEq] at h
    exact absurd h.2.2 g2
   ·rw [if_neg g2] at h
    have g2' : e2=0:=by simpa using g2
    subst g2'
    simp only [Prod.mk.injEq,and_true] at h
    obtain ⟨rfl,rfl⟩:=h
    obtain ⟨i1,i2,i3,i4⟩:=getN_back n (l.drop v.toNat) d2 u2 (fun c hc=>hby c (List.mem_of_mem_drop hc)) hr2
    have hb:=getI_back l x v hby hr
    rw [List.length_drop] at i4
    refine ⟨?_,by simp [i2],by omega,by omega⟩
    rw [show (v+u2).toNat=v.toNat+u2.toNat by omega,List.take_add,hb,i1]
    simp
def bytesL (s:ByteArray):List Int:=s.data.toList.map fun b=>(b.toNat:Int)
def strOf (bs:List Int):ByteArray:=bs.foldl (fun r n=>r.push (UInt8.ofNat n.toNat)) ByteArray.empty
theorem bytesL_len (s:ByteArray):(bytesL s).length=s.size:=by simp [bytesL]
theorem bytesL_byte (s:ByteArray):∀c∈bytesL s,0≤c∧c < 256:=by
 intro c hc
 obtain ⟨b,_,rfl⟩:=List.mem_map.1 hc
 have:=b.toNat_lt
 omega
theorem foldl_push:∀(bs:List Int) (r:ByteArray),(bs.foldl (fun r n=>r.push (UInt8.ofNat n.toNat)) r).data.toList=r.data.toList ++ bs.map (fun n=>UInt8.ofNat n.toNat)
 | [],r=>by simp
 |b :: bs,r=>by
  rw [List.foldl_cons,foldl_push bs]
  simp [ByteArray.push]
theorem strOf_data (bs:List Int):(strOf bs).data.toList=bs.map (fun n=>UInt8.ofNat n.toNat):=by
 rw [strOf,foldl_push];rfl
theorem strOf_size (bs:List Int):(strOf bs).size=bs.length:=by
 have:=congrArg List.length (strOf_data bs)
 simpa using this
theorem bytesL_strOf (bs:List Int) (h:∀c∈bs,0≤c∧c < 256):bytesL (strOf bs)=bs:=by
 rw [bytesL,strOf_data,List.map_map]
 have:∀c∈bs,((fun b:UInt8=>(b.toNat:Int)) ∘ fun n:Int=>UInt8.ofNat n.toNat) c=c:=by
  intro c hc
  have:=h c hc
  simp only [Function.comp,UInt8.toNat_ofNat']
  omega
 rw [List.map_congr_left this,List.map_id']
theorem ba_ext {a b:ByteArray} (h:a.data.toList=b.data.toList):a=b:=by
 cases a with|mk x=>cases b with|mk y=>cases x;cases y;simp at h;subst h;rfl
theorem strOf_bytesL (s:ByteArray):strOf (bytesL s)=s:=by
 apply ba_ext
 rw [strOf_data,bytesL,List.map_map]
 have:∀b∈s.data.toList,((fun n:Int=>UInt8.ofNat n.toNat) ∘ fun b:UInt8=>(b.toNat:Int)) b=b:=by
  intro b _
  simp
 rw [List.map_congr_left this,List.map_id']
def strB (s:ByteArray):List Int:=intB s.size ++ bytesL s
def strsB (l:List ByteArray):List Int:=intB l.length ++ (l.map strB).flatten
def SmallStrs (l:List ByteArray):Prop:=∀s∈l,s.size≤1000000
theorem strB_len (s:ByteArray) (h:s.size≤1000000):1≤(strB s).length∧(strB s).length≤1000010:=by
 have:=intB_len s.size (by omega) (by omega)
 rw [strB,List.length_append,bytesL_len];omega
theorem strs_len (l:List ByteArray) (h:SmallStrs l):((l.map strB).flatten).length≤1000010 * l.length:=by
 induction l with
 |nil=>simp
 |cons a r ih=>
  have h1:=strB_len a (h a (by simp))
  have h2:=ih (fun z hz=>h z (by simp [hz]))
  simp only [List.map_cons,List.flatten_cons,List.length_append,List.length_cons]
  omega
theorem strs_take (l:List ByteArray) (k:Nat) (a:ByteArray) (h:l[k]? = some a):((l.take (k+1)).map strB).flatten=((l.take k).map strB).flatten ++ strB a:=by
 rw [List.take_add_one,h];simp
def getS (bs:List Int):ByteArray×Int×Int:=
 if (lenL bs 1).2.2≠0 then (ByteArray.empty,0,(lenL bs 1).2.2)
 else (strOf ((bs.drop (lenL bs 1).2.1.toNat).take (lenL bs 1).1.toNat),(lenL bs 1).2.1+(lenL bs 1).1,0)
theorem getS_ok (bs:List Int) (hby:∀c∈bs,0≤c∧c < 256) (h:(getS bs).2.2=0):1≤(getS bs).2.1∧(getS bs).2.1≤bs.length:=by
 unfold getS at *
 have ok:=lenL_ok bs 1 hby
 split at h
 ·rename_i g;exact absurd h g
 ·rename_i g
  rw [if_neg g]
  have:=ok (by simpa using g)
  rw [Int.ediv_one] at this
  simp only
  omega
def getNS:Nat→List Int→List ByteArray×Int×Int
 |0,_=>([],0,0)
 |n+1,bs=>
  if (getS bs).2.2≠0 then ([],0,(getS bs).2.2)
  else if (getNS n (bs.drop (getS bs).2.1.toNat)).2.2≠0 then ([],0,(getNS n (bs.drop (getS bs).2.1.toNat)).2.2)
  else ((getS bs).1 :: (getNS n (bs.drop (getS bs).2.1.toNat)).1,(getS bs).2.1+(getNS n (bs.drop (getS bs).2.1.toNat)).2.1,0)
def andThenS (out:List ByteArray) (at_:Int) (s:List ByteArray×Int×Int):List ByteArray×Int×Int:=
 if s.2.2≠0 then ([],0,s.2.2) else (out ++ s.1,at_+s.2.1,0)
def getStrs (bs:List Int):List ByteArray×Int×Int:=
 if (lenL bs 1).2.2≠0 then ([],0,(lenL bs 1).2.2) else andThenS [] (lenL bs 1).2.1 (getNS (lenL bs 1).1.toNat (bs.drop (lenL bs 1).2.1.toNat))
theorem andThenS_err (out:List ByteArray) (at_:Int) (n:Nat) (bs:List Int) (r:ByteArray×Int×Int) (hr:getS bs=r) (h:r.2.2≠0):andThenS out at_ (getNS (n+1) bs)=([],0,r.2.2):=by
 subst hr
 simp [andThenS,getNS,h]
theorem andThenS_step (out:List ByteArray) (at_:Int) (n:Nat) (bs:List Int) (r:ByteArray×Int×Int) (hr:getS bs=r) (h:r.2.2=0) :
  andThenS out at_ (getNS (n+1) bs)=andThenS (out ++ [r.1]) (at_+r.2.1) (getNS n (bs.drop r.2.1.toNat)):=by
 subst hr
 by_cases g:(getNS n (bs.drop (getS bs).2.1.toNat)).2.2=0
 ·simp [andThenS,getNS,h,g];omega
 ·simp [andThenS,getNS,h,g]
theorem andThenS_done (out:List ByteArray) (at_:Int) (bs:List Int):andThenS out at_ (getNS 0 bs)=(out,at_,0):=by simp [andThenS,getNS]
theorem lenL_at (n:Nat) (rest:List Int) (hn:n≤1000000000000) (h:n≤rest.length):lenL (intB n ++ rest) 1=((n:Int),((intB n).length:Int),0):=by
 have h0:=getI_intB n rest (by omega) (by omega)
 rw [lenL,h0]
 simp only [ne_eq,not_true_eq_false,if_false]
 rw [if_neg (by omega),if_neg (by rw [List.length_append,Int.ediv_one];omega)]
theorem getInts_rest (ds rest:List Int) (h:∀z∈ds,-9223372036854775808≤z∧z≤9223372036854775807) (hl:ds.length≤1000000000000):getInts (intsB ds ++ rest)=(ds,((intsB ds).length:Int),0):=by
 have hg:=flat_ge ds
 have hL:lenL (intsB ds ++ rest) 1=((ds.length:Int),((intB ds.length).length:Int),0):=by
  rw [intsB,List.append_assoc];exact lenL_at _ _ hl (by rw [List.length_append];omega)
 rw [getInts,hL]
 simp only [ne_eq,not_true_eq_false,if_false,Int.toNat_natCast]
 have e:(intsB ds ++ rest).drop (intB ds.length).length=(ds.map intB).flatten ++ rest:=by rw [intsB,List.append_assoc,List.drop_left]
 rw [e,getN_flat ds h rest,andThen]
 simp [intsB]
theorem getS_strB (s:ByteArray) (rest:List Int) (h:s.size≤1000000):getS (strB s ++ rest)=(s,((strB s).length:Int),0):=by
 have hL:lenL (strB s ++ rest) 1=((s.size:Int),((intB s.size).length:Int),0):=by
  rw [strB,List.append_assoc];exact lenL_at _ _ (by omega) (by rw [List.length_append,bytesL_len];omega)
 rw [getS,hL]
 simp only [ne_eq,not_true_eq_false,if_false,Int.toNat_natCast]
 have e:((strB s ++ rest).drop (intB s.size).length).take s.size=bytesL s:=by
  rw [strB,List.append_assoc,List.drop_left,List.take_left' (bytesL_len s)]
 rw [e,strOf_bytesL]
 simp [strB,bytesL_len]
theorem getNS_flat:∀(l:List ByteArray),SmallStrs l→∀rest,getNS l.length ((l.map strB).flatten ++ rest)=(l,(((l.map strB).flatten).length:Int),0)
 | [],_,rest=>rfl
 |d :: r,h,rest=>by
  have hd:=h d (by simp)
  have ih:=getNS_flat r (fun z hz=>h z (by simp [hz])) rest
  simp only [List.map_cons,List.flatten_cons,List.length_cons,List.append_assoc]
  rw [getNS,getS_strB d _ hd]
  simp only [ne_eq,not_true_eq_false,if_false,Int.toNat_natCast,List.drop_left]
  rw [ih]
  simp
theorem strs_ge (l:List ByteArray) (h:SmallStrs l):l.length≤((l.map strB).flatten).length:=by
 induction l with
 |nil=>simp
 |cons a r ih=>
  have h1:=strB_len a (h a (by simp))
  have h2:=ih (fun z hz=>h z (by simp [hz]))
  simp only [List.map_cons,List.flatten_cons,List.length_append,List.length_cons]
  omega
theorem getStrs_rest (l:List ByteArray) (rest:List Int) (h:SmallStrs l) (hl:l.length≤1000000000000):getStrs (strsB l ++ rest)=(l,((strsB l).length:Int),0):=by
 have hg:=strs_ge l h
 have hL:lenL (strsB l ++ rest) 1=((l.length:Int),((intB l.length).length:Int),0):=by
  rw [strsB,List.append_assoc];exact lenL_at _ _ hl (by rw [List.length_append];omega)
 rw [getStrs,hL]
 simp only [ne_eq,not_true_eq_false,if_false,Int.toNat_natCast]
 have e:(strsB l ++ rest).drop (intB l.length).length=(l.map strB).flatten ++ rest:=by rw [strsB,List.append_assoc,List.drop_left]
 rw [e,getNS_flat l h rest,andThenS]
 simp [strsB]
theorem lenL_back (bs:List Int) (n v:Int) (hby:∀c∈bs,0≤c∧c < 256) (h:lenL bs 1=(n,v,0)):bs.take v.toNat=intB n∧0≤n∧1≤v∧v≤bs.length∧n≤bs.length - v:=by
 have ok:=lenL_ok bs 1 hby
 rw [h] at ok
 obtain ⟨o1,o2,o3,o4⟩:=ok rfl
 rw [Int.ediv_one] at o4
 have hI:getI bs=(n,v,0):=by
  rw [lenL] at h
  by_cases k1:(getI bs).2.2≠0
  ·rw [if_pos k1] at h
   simp only [Prod.mk.injEq] at h
   exact absurd h.2.2 k1
  ·rw [if_neg k1] at h
   by_cases k2:(getI bs).1 < 0
   ·rw [if_pos k2] at h;simp at h
   ·rw [if_neg k2] at h
    by_cases k3:(bs.length - (getI bs).2.1) / 1 < (getI bs).1
    ·rw [if_pos k3] at h;simp at h
    ·rw [if_neg k3] at h
     simp only [Prod.mk.injEq,and_true] at h
     have k1' : (getI bs).2.2=0:=by simpa using k1
     rw [←h.1,←h.2,←k1']
 exact ⟨getI_back bs n v hby hI,o1,o2,o3,o4⟩
theorem getInts_take (bs ds:List Int) (u:Int) (hby:∀c∈bs,0≤c∧c < 256) (h:getInts bs=(ds,u,0)):bs.take u.toNat=intsB ds∧0≤u∧u≤bs.length:=by
 rw [getInts] at h
 obtain ⟨n,v,e,hr⟩:∃x v e,lenL bs 1=(x,v,e):=⟨_,_,_,rfl⟩
 rw [hr] at h
 simp only at h
 by_cases g:e≠0
 ·rw [if_pos g] at h
  simp only [Prod.mk.injEq] at h
  exact absurd h.2.2 g
 ·rw [if_neg g] at h
  have g' : e=0:=by simpa using g
  subst g'
  obtain ⟨hb,o1,o2,o3,o4⟩:=lenL_back bs n v hby hr
  obtain ⟨d2,u2,e2,hr2⟩:∃p s t,getN n.toNat (bs.drop v.toNat)=(p,s,t):=⟨_,_,_,rfl⟩
  rw [hr2,andThen] at h
  simp only at h
  by_cases g2:e2≠0
  ·rw [if_pos g2] at h
   simp only [Prod.mk.injEq] at h
   exact absurd h.2.2 g2
  ·rw [if_neg g2] at h
   have g2' : e2=0:=by simpa using g2
   subst g2'
   simp only [Prod.mk.injEq,and_true,List.nil_append] at h
   obtain ⟨rfl,rfl⟩:=h
   obtain ⟨i1,i2,i3,i4⟩:=getN_back n.toNat (bs.drop v.toNat) d2 u2 (fun c hc=>hby c (List.mem_of_mem_drop hc)) hr2
   rw [List.length_drop] at i4
   refine ⟨?_,by omega,by omega⟩
   rw [intsB,i2,show ((n.toNat:Nat):Int)=n by omega,←hb,←i1,show (v+u2).toNat=v.toNat+u2.toNat by omega,List.take_add]
theorem getS_back (bs:List Int) (s:ByteArray) (u:Int) (hby:∀c∈bs,0≤c∧c < 256) (h:getS bs=(s,u,0)):bs.take u.toNat=strB s∧0≤u∧u≤bs.length:=by
 rw [getS] at h
 obtain ⟨n,v,e,hr⟩:∃x v e,lenL bs 1=(x,v,e):=⟨_,_,_,rfl⟩
 rw [hr] at h
 simp only at h
 by_cases g:e≠0
 ·rw [if_pos g] at h
  simp only [Prod.mk.injEq] at h
  exact absurd h.2.2 g
 ·rw [if_neg g] at h
  have g' : e=0:=by simpa using g
  subst g'
  obtain ⟨hb,o1,o2,o3,o4⟩:=lenL_back bs n v hby hr
  simp only [Prod.mk.injEq,and_true] at h
  obtain ⟨rfl,rfl⟩:=h
  refine ⟨?_,by omega,by omega⟩
  have hl:((bs.drop v.toNat).take n.toNat).length=n.toNat:=by rw [List.length_take,List.length_drop];omega
  rw [strB,strOf_size,hl,show ((n.toNat:Nat):Int)=n by omega,←hb,bytesL_strOf _ (fun c hc=>hby c (List.mem_of_mem_drop (List.mem_of_mem_take hc))),show (v+n).toNat=v.toNat+n.toNat by omega,List.take_add]
theorem getNS_back:∀(n:Nat) (l:List Int) (ds:List ByteArray) (u:Int),(∀c∈l,0≤c∧c < 256)→getNS n l=(ds,u,0)→l.take u.toNat=(ds.map strB).flatten∧ds.length=n∧0≤u∧u≤l.length
 |0,l,ds,u,_,h=>by
  simp only [getNS,Prod.mk.injEq,and_true] at h
  obtain ⟨rfl,rfl⟩:=h
  simp
 |n+1,l,ds,u,hby,h=>by
  rw [getNS] at h
  obtain ⟨x,v,e,hr⟩:∃x v e,getS l=(x,v,e):=⟨_,_,_,rfl⟩
  rw [hr] at h
  simp only at h
  by_cases g:e≠0
  ·rw [if_pos g] at h
   simp only [Prod.mk.injEq] at h
   exact absurd h.2.2 g
  ·rw [if_neg g] at h
   have g' : e=0:=by simpa using g
   subst g'
   obtain ⟨hb,o1,o2⟩:=getS_back l x v hby hr
   obtain ⟨d2,u2,e2,hr2⟩:∃p s t,getNS n (l.drop v.toNat)=(p,s,t):=⟨_,_,_,rfl⟩
   rw [hr2] at h
   simp only at h
   by_cases g2:e2≠0
   ·rw [if_pos g2] at h
    simp only [Prod.mk.injEq] at h
    exact absurd h.2.2 g2
   ·rw [if_neg g2] at h
    have g2' : e2=0:=by simpa using g2
    subst g2'
    simp only [Prod.mk.injEq,and_true] at h
    obtain ⟨rfl,rfl⟩:=h
    obtain ⟨i1,i2,i3,i4⟩:=getNS_back n (l.drop v.toNat) d2 u2 (fun c hc=>hby c (List.mem_of_mem_drop hc)) hr2
    rw [List.length_drop] at i4
    refine ⟨?_,by simp [i2],by omega,by omega⟩
    rw [show (v+u2).toNat=v.toNat+u2.toNat by omega,List.take_add,hb,i1]
    simp
theorem getStrs_take (bs:List Int) (ds:List ByteArray) (u:Int) (hby:∀c∈bs,0≤c∧c < 256) (h:getStrs bs=(ds,u,0)):bs.take u.toNat=strsB ds∧0≤u∧u≤bs.length:=by
 rw [getStrs] at h
 obtain ⟨n,v,e,hr⟩:∃x v e,lenL bs 1=(x,v,e):=⟨_,_,_,rfl⟩
 rw [hr] at h
 simp only at h
 by_cases g:e≠0
 ·rw [if_pos g] at h
  simp only [Prod.mk.injEq] at h
  exact absurd h.2.2 g
 ·rw [if_neg g] at h
  have g' : e=0:=by simpa using g
  subst g'
  obtain ⟨hb,o1,o2,o3,o4⟩:=lenL_back bs n v hby hr
  obtain ⟨d2,u2,e2,hr2⟩:∃p s t,getNS n.toNat (bs.drop v.toNat)=(p,s,t):=⟨_,_,_,rfl⟩
  rw [hr2,andThenS] at h
  simp only at h
  by_cases g2:e2≠0
  ·rw [if_pos g2] at h
   simp only [Prod.mk.injEq] at h
   exact absurd h.2.2 g2
  ·rw [if_neg g2] at h
   have g2' : e2=0:=by simpa using g2
   subst g2'
   simp only [Prod.mk.injEq,and_true,List.nil_append] at h
   obtain ⟨rfl,rfl⟩:=h
   obtain ⟨i1,i2,i3,i4⟩:=getNS_back n.toNat (bs.drop v.toNat) d2 u2 (fun c hc=>hby c (List.mem_of_mem_drop hc)) hr2
   rw [List.length_drop] at i4
   refine ⟨?_,by omega,by omega⟩
   rw [strsB,i2,show ((n.toNat:Nat):Int)=n by omega,←hb,←i1,show (v+u2).toNat=v.toNat+u2.toNat by omega,List.take_add]
theorem getInts_short (bs ds:List Int) (u:Int) (hby:∀c∈bs,0≤c∧c < 256) (h:getInts bs=(ds,u,0)):ds.length≤bs.length:=by
 obtain ⟨h1,h2,h3⟩:=getInts_take bs ds u hby h
 have:=congrArg List.length h1
 rw [intsB,List.length_append,List.length_take] at this
 have:=flat_ge ds
 omega
theorem strB_pos (s:ByteArray):1≤(strB s).length:=by
 have:1≤(intB s.size).length:=leb_pos _
 rw [strB,List.length_append];omega
theorem strs_all (l:List ByteArray):l.length≤((l.map strB).flatten).length∧∀s∈l,s.size≤((l.map strB).flatten).length:=by
 induction l with
 |nil=>simp
 |cons a r ih=>
  have h1:=strB_pos a
  have h2:(strB a).length=(intB a.size).length+a.size:=by rw [strB,List.length_append,bytesL_len]
  simp only [List.map_cons,List.flatten_cons,List.length_append,List.length_cons,List.mem_cons]
  refine ⟨by omega,fun s hs=>?_⟩
  rcases hs with rfl|hs
  ·omega
  ·have:=ih.2 s hs;omega
theorem getStrs_len (bs:List Int) (ds:List ByteArray) (u:Int) (hby:∀c∈bs,0≤c∧c < 256) (h:getStrs bs=(ds,u,0)):ds.length≤bs.length∧∀s∈ds,s.size≤bs.length:=by
 obtain ⟨h1,h2,h3⟩:=getStrs_take bs ds u hby h
 have:=congrArg List.length h1
 rw [strsB,List.length_append,List.length_take] at this
 obtain ⟨a,b⟩:=strs_all ds
 exact ⟨by omega,fun s hs=>by have:=b s hs;omega⟩
end
section
open Go
structure PAttr where
 name:ByteArray
 kind:Int
 n:Int
 s:ByteArray
structure PDef where
 name:ByteArray
 kind:Int
 lo:Int
 hi:Int
 words:List ByteArray
structure PSchema where
 dims:Int
 metric:Int
 defs:List PDef
structure PEntry where
 id:Int
 ver:Int
 owner:Int
 filed:Int
 frm:Int
 to:Int
 born:Int
 vec:List Int
 attrs:List PAttr
def eqB (a b:ByteArray):Bool:=a.toList == b.toList
def leqB (a b:ByteArray):Bool:=Op.bytesLess a.toList b.toList || a.toList == b.toList
theorem eqB_comm (a b:ByteArray):eqB a b=eqB b a:=by
 unfold eqB
 rw [Bool.eq_iff_iff];simp only [beq_iff_eq];exact eq_comm
def hasB (l:List ByteArray) (s:ByteArray):Bool:=l.any (fun x=>eqB x s)
def idxGo:List Bool→Int→Int
 | [],_ => -1
 |b :: r,k=>if b then k else idxGo r (k+1)
def idxB (l:List Bool):Int:=idxGo l 0
theorem idxGo_drop (l:List Bool) (k:Nat) (b:Bool) (h:l[k]? = some b):idxGo (l.drop k) k=if b then (k:Int) else idxGo (l.drop (k+1)) ((k+1:Nat):Int):=by
 obtain ⟨hk,rfl⟩:=List.getElem?_eq_some_iff.1 h
 rw [List.drop_eq_getElem_cons (by omega),idxGo];rfl
theorem idxGo_end (l:List Bool) (k:Nat) (h:l.length≤k):idxGo (l.drop k) k = -1:=by
 rw [List.drop_eq_nil_of_le h,idxGo]
theorem idxGo_bd:∀(l:List Bool) (k:Int),0≤k→(idxGo l k = -1∧l.any id=false)∨(k≤idxGo l k∧idxGo l k < k+l.length∧l.any id=true)
 | [],k,_=>.inl ⟨rfl,rfl⟩
 |b :: r,k,hk=>by
  rw [idxGo]
  cases b
  ·rcases idxGo_bd r (k+1) (by omega) with ⟨h1,h2⟩|⟨h1,h2,h3⟩
   ·exact .inl ⟨by simpa using h1,by simpa using h2⟩
   ·exact .inr ⟨by simp;omega,by simp;omega,by simpa using h3⟩
  ·exact .inr ⟨by simp,by simp;omega,by simp⟩
theorem idxB_any (l:List Bool):decide (0≤idxB l)=l.any id:=by
 rcases idxGo_bd l 0 (by omega) with ⟨h1,h2⟩|⟨h1,h2,h3⟩
 ·rw [h2,idxB,h1];rfl
 ·rw [h3,decide_eq_true_eq,idxB];exact h1
theorem idxB_lt (l:List Bool) (h:0≤idxB l):idxB l < l.length:=by
 rcases idxGo_bd l 0 (by omega) with ⟨h1,h2⟩|⟨h1,h2,h3⟩
 ·rw [idxB,h1] at h;omega
 ·rw [idxB];omega
theorem idxB_ge (l:List Bool) : -1≤idxB l:=by
 rcases idxGo_bd l 0 (by omega) with ⟨h1,h2⟩|⟨h1,h2,h3⟩<;>rw [idxB]<;>omega
def firstE:List (Bool×Int)→Int
 | []=>0
 |(b,e) :: r=>if b then e else firstE r
theorem firstE_drop (l:List (Bool×Int)) (k:Nat) (b:Bool) (e:Int) (h:l[k]? = some (b,e)):firstE (l.drop k)=if b then e else firstE (l.drop (k+1)):=by
 obtain ⟨hk,he⟩:=List.getElem?_eq_some_iff.1 h
 rw [List.drop_eq_getElem_cons (by omega),he,firstE]
theorem firstE_end (l:List (Bool×Int)) (k:Nat) (h:l.length≤k):firstE (l.drop k)=0:=by
 rw [List.drop_eq_nil_of_le h,firstE]
def lowI (c:Int):Bool:=decide (97≤c) && decide (c≤122)
def resI (c:Int):Bool:=(decide (48≤c) && decide (c≤57)) || c == 95
def nameGo:Bool→List UInt8→Bool
 |_,[]=>true
 |f,c :: r=>(lowI c.toNat || (!f && resI c.toNat)) && nameGo false r
theorem nameGo_drop (l:List UInt8) (k:Nat) (c:UInt8) (h:l[k]? = some c):nameGo (k == 0) (l.drop k)=((lowI c.toNat || (!(k == 0) && resI c.toNat)) && nameGo (k+1 == 0) (l.drop (k+1))):=by
 obtain ⟨hk,rfl⟩:=List.getElem?_eq_some_iff.1 h
 rw [List.drop_eq_getElem_cons (by omega),nameGo]
 rfl
theorem nameGo_end (l:List UInt8) (k:Nat) (f:Bool) (h:l.length≤k):nameGo f (l.drop k)=true:=by
 rw [List.drop_eq_nil_of_le h,nameGo]
def reserved:List ByteArray := [⟨#[97,108,108]⟩,⟨#[97,110,100]⟩,⟨#[104,97,115]⟩,⟨#[105,110]⟩,⟨#[110,111,116]⟩,⟨#[111,114]⟩]
def nameB (s:ByteArray):Bool:=nameGo true s.data.toList && (decide (1≤s.size) && decide (s.size≤40) && !hasB reserved s)
def riseGo:ByteArray→List ByteArray→Bool
 |_,[]=>true
 |p,x :: r => !leqB x p && riseGo x r
def riseB:List ByteArray→Bool
 | []=>true
 |x :: r=>riseGo x r
theorem riseGo_drop (l:List ByteArray) (k:Nat) (p x:ByteArray) (h:l[k+1]? = some x):riseGo p (l.drop (k+1))=(!leqB x p && riseGo x (l.drop (k+2))):=by
 obtain ⟨hk,rfl⟩:=List.getElem?_eq_some_iff.1 h
 rw [List.drop_eq_getElem_cons (by omega),riseGo]
theorem riseB_start (l:List ByteArray) (x:ByteArray) (h:l[0]? = some x):riseB l=riseGo x (l.drop 1):=by
 cases l with
 |nil=>simp at h
 |cons a r=>simp at h;subst h;rfl
theorem riseGo_end (l:List ByteArray) (k:Nat) (p:ByteArray) (h:l.length≤k):riseGo p (l.drop k)=true:=by
 rw [List.drop_eq_nil_of_le h,riseGo]
def wordsE (l:List ByteArray):Int:=
 if l.length < 1∨50 < l.length then 2 else if l.any (fun s => !nameB s) then 5 else if riseB l then 0 else 6
def defE (d:PDef) (before:ByteArray):Int:=
 if !nameB d.name then 5
 else if leqB d.name before then 6
 else if d.kind=1 then
  (if d.lo < -1099511627776∨1099511627776 < d.hi∨d.hi < d.lo then 131 else if 0 < d.words.length then 3 else 0)
 else if d.kind=2 then
  (if d.lo≠0∨d.hi≠0 then 3 else wordsE d.words)
 else 130
def defsE:ByteArray→List PDef→Int
 |_,[]=>0
 |b,d :: r=>if defE d b≠0 then defE d b else defsE d.name r
def checkE (s:PSchema):Int:=
 if s.dims < 1∨32 < s.dims∨s.metric < 1∨3 < s.metric then 1
 else if 16 < s.defs.length then 2
 else defsE ByteArray.empty s.defs
def findI (l:List PDef) (nm:ByteArray):Int:=idxB (l.map fun d=>eqB d.name nm)
def valueE (d:PDef) (a:PAttr):Int:=
 if a.kind≠d.kind then 130
 else if a.kind=1 then (if eqB a.s ByteArray.empty=false then 3 else if a.n < d.lo∨d.hi < a.n then 131 else 0)
 else if a.n≠0 then 3
 else if hasB d.words a.s then 0 else 131
def fitE (ds:List PDef) (before:ByteArray) (first:Bool) (a:PAttr):Int:=
 if findI ds a.name < 0 then 5
 else if !first && leqB a.name before then 6
 else match ds[(findI ds a.name).toNat]? with
  |some d=>valueE d a
  |none=>0
def fitsGo (ds:List PDef):ByteArray→Bool→List PAttr→Int
 |_,_,[]=>0
 |b,f,a :: r=>if fitE ds b f a≠0 then fitE ds b f a else fitsGo ds a.name false r
def fitsE (s:PSchema) (l:List PAttr):Int:=fitsGo s.defs ByteArray.empty true l
def zeroA:PAttr:=⟨ByteArray.empty,0,0,ByteArray.empty⟩
def getA:List PAttr→ByteArray→PAttr×Bool
 | [],_=>(zeroA,false)
 |a :: r,nm=>if eqB a.name nm then (a,true) else getA r nm
def validV (v:List Int):Bool:=v.all (fun x=>decide (-1000≤x) && decide (x≤1000)) && (decide (1≤v.length) && decide (v.length≤32))
def entryE (s:PSchema) (e:PEntry):Int:=
 if e.id < 1∨1073741824 < e.id∨e.owner < 1∨1073741824 < e.owner∨e.ver < 1∨1073741824 < e.ver then 1
 else if e.filed < 0∨e.frm < e.filed∨e.to≤e.frm∨1048577 < e.to∨1048576 < e.frm∨e.born < 1∨1073741824 < e.born then 9
 else if validV e.vec=false∨(e.vec.length:Int)≠s.dims then 40
 else fitsE s e.attrs
end
section
def Fit64 (n:Int):Prop := -9223372036854775808≤n∧n≤9223372036854775807
end
section
open Go.RowKit
theorem elemInt:Elem1 Tryz.prog 3 (.int .i64 0) 8:=⟨by kernel_rfl,rfl⟩
theorem strCells_eq (s:ByteArray):Lib.strCells s=(bytesL s).map (Value.int .u8):=by
 simp [Lib.strCells,bytesL]
set_option maxRecDepth 100000 in
theorem wireBytes (s:ByteArray) (w:World) (hs:s.size≤1000000000):Calls Tryz.prog 202 #[.string s] w (MadeBytes w (strB s)):=by
 have hl0:=intB_len s.size (by omega) (by omega)
 go_enter Tryz.func202,Tryz.ntmps202
 go_wp2_with (first|(at_builtin;refine wp_appendStr (.tmp 5) (.tmp 6) 92 9 5 elemByte rfl rfl Tryz.underlying92 Tryz.underlying9 w.heap.size _ _ s rfl ho1 rfl (by rw [List.length_map];omega) hb1.size ?_;intro v' w' hown' hb')|(go_at_call 200;refine (wireInt _ _ (by omega) (by omega)).mono ?_;rintro e w1 ⟨v1,rfl,ho1,hb1⟩))
 go_ret
 exact ⟨_,rfl,by rw [strB,List.map_append,←strCells_eq];exact hown',hb1.trans hb'⟩
set_option maxRecDepth 100000 in
set_option maxHeartbeats 1000000 in
theorem slicesCloneI (v:Value) (zs:List Int) (w:World) (hv:Ints w v zs) (hl:zs.length≤1000000000):Calls Tryz.prog 137 #[v] w (MadeInts 3 w zs):=by
 have HV:=Lib.hid hv
 obtain ⟨a,cap,b,off,rfl,hcap,hm,ha,hc⟩:=hv.open
 clear hv hc
 cases a with
 |none=>
  have hz:zs = []:=List.eq_nil_of_length_eq_zero (by
   rcases Nat.eq_zero_or_pos zs.length with h|h
   ·exact h
   ·have:=ha h;cases this)
  subst hz
  clear ha
  have he:=fun (w:World)=>Lib.run_eql_slice_nil (P:=Tryz.prog) w 27 3 none 0 cap 0 0 (by kernel_rfl)
  go_enter Tryz.func137,Tryz.ntmps137
  simp only [Option.isNone_none] at he
  go_wp2
  go_ret
  exact ⟨_,rfl,Own.nil _ _ _,Below.refl _ _⟩
 |some ad=>
  clear ha
  have he:=fun (w:World)=>Lib.run_eql_slice_nil (P:=Tryz.prog) w 27 3 (some ad) zs.length cap 0 0 (by kernel_rfl)
  go_enter Tryz.func137,Tryz.ntmps137
  simp only [Option.isNone_some] at he
  have h0:=Lib.hid (show Own w.heap.size 3 (w.alloc (.cells #[] 3)) (.slice (some ⟨w.heap.size,0,none⟩) 0 0) [] from Own.lit w [] 3 w.heap.size (Nat.le_refl _) (by simp [maxLen]))
  have h1:=Lib.hid (show Rd (w.alloc (.cells #[] 3)) (.slice (some ad) zs.length cap) (zs.map (Value.int .i64)) from HV.out.below ((Below.refl _ _).alloc (Nat.le_refl _) _))
  go_wp2_with (at_builtin;refine wp_appendR _ _ 27 3 8 _ elemInt rfl rfl (by kernel_rfl) w.heap.size _ _ [] (zs.map (Value.int .i64)) rfl h0.out rfl h1.out (by intro c hc;obtain ⟨z,-,rfl⟩:=List.mem_map.1 hc;rfl) (by simp [maxLen];omega) (by simp;omega) (by simp) ?_;intro v' w' ho hb)
  go_ret
  exact ⟨_,rfl,by simpa using ho,((Below.refl _ _).alloc (Nat.le_refl _) _).trans hb⟩
structure Spec where
 p:Value→World→Prop
 st:∀v w w',p v w→Below w.heap.size w w'→p v w'
def Spec.any:Spec:=⟨fun _ _=>True,fun _ _ _ h _=>h⟩
def Spec.rd (cs:List Value):Spec:=⟨fun v w=>Rd w v cs,fun _ _ _ h hb=>h.below hb⟩
def LeB (w w' : World):Prop:=Below w.heap.size w w'
theorem LeB.trans (x y z:World) (h:LeB x y) (k:LeB y z):LeB x z:=Below.trans h (Below.mono k h.size)
def AllFrom (F:Nat→Oper→Prop):Nat→List Oper→Prop
 |_,[]=>True
 |i,o :: os=>F i o∧AllFrom F (i+1) os
theorem AllFrom.get {F:Nat→Oper→Prop} : ∀{l:List Oper} {k:Nat},AllFrom F k l→∀(i:Nat) (o:Oper),l[i]? = some o→F (k+i) o
 | [],_,_,i,o,h=>by simp at h
 |x :: xs,k,⟨h1,h2⟩,0,o,h=>by simp at h;subst h;exact h1
 |x :: xs,k,⟨h1,h2⟩,i+1,o,h=>by
  have:=AllFrom.get h2 i o (by simpa using h)
  rw [show k+(i+1)=k+1+i by omega];exact this
end
section
def rootG (n:Nat):Nat→Nat→Nat
 |0,out=>out
 |k+1,out=>rootG n k (if (out+2 ^ k) * (out+2 ^ k)≤n then out+2 ^ k else out)
def rootN (n:Nat):Nat:=rootG n 31 0
theorem rootG_spec (n:Nat):∀k out,out * out≤n→n < (out+2 ^ k) * (out+2 ^ k)→rootG n k out * rootG n k out≤n∧n < (rootG n k out+1) * (rootG n k out+1)
 |0,out,h1,h2=>⟨h1,h2⟩
 |k+1,out,h1,h2=>by
  unfold rootG
  by_cases h:(out+2 ^ k) * (out+2 ^ k)≤n
  ·rw [if_pos h]
   refine rootG_spec n k _ h ?_
   rwa [Nat.add_assoc,←Nat.two_mul,Nat.mul_comm 2,←Nat.pow_succ]
  ·rw [if_neg h]
   exact rootG_spec n k _ h1 (by omega)
theorem rootN_spec {n:Nat} (h:n≤1152921504606846976):rootN n * rootN n≤n∧n < (rootN n+1) * (rootN n+1):=
 rootG_spec n 31 0 (Nat.zero_le _) (Nat.lt_of_le_of_lt h (by decide))
theorem rootN_le {n:Nat} (h:n≤1152921504606846976):rootN n≤1073741824:=by
 obtain ⟨h3,h4⟩:=rootN_spec h
 have:rootN n < 1073741824+1:=Nat.mul_self_lt_mul_self_iff.1 (by omega)
 omega
theorem newton_ge {n x:Nat} (h:n≤1152921504606846976) (hx:0 < x):rootN n≤(x+n / x) / 2:=by
 obtain ⟨h3,h4⟩:=rootN_spec h
 rcases Nat.lt_or_ge ((x+n / x) / 2) (rootN n) with hlt|hge
 ·exfalso
  generalize rootN n=r at *
  have e1:n / x+1≤2 * r - x:=by omega
  have e2:n < x * (2 * r - x):=by
   have:=Nat.lt_mul_div_succ n hx
   exact Nat.lt_of_lt_of_le this (Nat.mul_le_mul_left x e1)
  have e3:x * (2 * r - x)≤r * r:=by
   rcases Nat.le_total x r with hl|hl
   ·obtain ⟨d,rfl⟩:=Nat.exists_eq_add_of_le hl
    rw [show 2 * (x+d) - x=x+2 * d by omega]
    grind
   ·obtain ⟨d,rfl⟩:=Nat.exists_eq_add_of_le hl
    rcases Nat.le_total d r with hd|hd
    ·obtain ⟨f,rfl⟩:=Nat.exists_eq_add_of_le hd
     rw [show 2 * (d+f) - (d+f+d)=f by omega]
     grind
    ·rw [show 2 * r - (r+d)=0 by omega,Nat.mul_zero];exact Nat.zero_le _
  omega
 ·exact hge
theorem newton_done {n x:Nat} (h:n≤1152921504606846976) (hx:0 < x) (hr:rootN n≤x) (hy:x≤(x+n / x) / 2):x=rootN n:=by
 obtain ⟨h3,h4⟩:=rootN_spec h
 have h1:x≤n / x:=by omega
 have h2:x * x≤n:=by
  have:=Nat.mul_le_mul_left x h1
  exact Nat.le_trans this (Nat.mul_div_le n x)
 have:x < rootN n+1:=Nat.mul_self_lt_mul_self_iff.1 (Nat.lt_of_le_of_lt h2 h4)
 omega
theorem bitLenAux_lt:∀(f x:Nat),x < 2 ^ f→x < 2 ^ Go.Lib.bitLenAux f x
 |0,x,h=>h
 |f+1,x,h=>by
  unfold Go.Lib.bitLenAux
  by_cases h0:x=0
  ·rw [if_pos h0];omega
  ·rw [if_neg h0]
   have:=bitLenAux_lt f (x / 2) (by rw [Nat.pow_succ] at h;omega)
   rw [Nat.add_comm 1,Nat.pow_succ];omega
theorem bitLen_lt {x:Nat} (h:x < 2 ^ 64):x < 2 ^ Go.Lib.bitLen x:=bitLenAux_lt 64 x h
theorem bitLenAux_ge:∀(f x k:Nat),x < 2 ^ k→Go.Lib.bitLenAux f x≤k
 |0,x,k,h=>Nat.zero_le _
 |f+1,x,k,h=>by
  unfold Go.Lib.bitLenAux
  by_cases h0:x=0
  ·rw [if_pos h0];exact Nat.zero_le _
  ·rw [if_neg h0]
   cases k with
   |zero=>simp at h;omega
   |succ k=>
    have:=bitLenAux_ge f (x / 2) k (by rw [Nat.pow_succ] at h;omega)
    omega
def newt0 (n:Nat):Nat:=2 ^ ((Go.Lib.bitLen n+1) / 2)
theorem newt0_le {n:Nat} (h:n≤1152921504606846976):Go.Lib.bitLen n≤61:=bitLenAux_ge 64 n 61 (Nat.lt_of_le_of_lt h (by decide))
theorem newt0_ge {n:Nat} (h:n≤1152921504606846976):rootN n≤newt0 n∧newt0 n≤2147483648∧0 < newt0 n:=by
 have h1:=newt0_le h
 obtain ⟨h3,h4⟩:=rootN_spec h
 refine ⟨?_,?_,Nat.pow_pos (by decide)⟩
 ·have h5:=bitLen_lt (x:=n) (by omega)
  have h6:n < newt0 n * newt0 n:=by
   unfold newt0
   rw [←Nat.pow_add]
   exact Nat.lt_of_lt_of_le h5 (Nat.pow_le_pow_right (by decide) (by omega))
  have:=Nat.mul_self_lt_mul_self_iff.1 (Nat.lt_of_le_of_lt h3 h6)
  omega
 ·unfold newt0
  exact Nat.le_trans (Nat.pow_le_pow_right (by decide) (show (Go.Lib.bitLen n+1) / 2≤31 by omega)) (by decide)
def clampI (x lo hi:Int):Int:=max lo (min x hi)
def rootI (n:Int):Int:=(rootN (clampI n 0 1152921504606846976).toNat:Nat)
theorem rootI_bound (n:Int):0≤rootI n∧rootI n≤1073741824:=by
 have:=rootN_le (n:=(clampI n 0 1152921504606846976).toNat) (by unfold clampI;omega)
 unfold rootI
 omega
def lowM (m a b:Int):Int:=if m=2 then a+b - rootI (4 * a * b) else max a b - min a b
def gapM (m lo hi a:Int):Int:=lowM m a (clampI a lo hi)
end
end Go.Proofs.YtoamkpgaaanafaaGreat
