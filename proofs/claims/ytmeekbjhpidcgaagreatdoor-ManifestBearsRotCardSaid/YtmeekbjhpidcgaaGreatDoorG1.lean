/- Out of: Base, BitOps, PlainW, Wire, Base3, Base4, Glob, PwA, PlainX, PlainY. -/
import Derived.Test.YtmeekbjhpidcgaaGreatDoorRows
import Derived.WalkKit
import Derived.WalkSpells
import Derived.WalkLawsBesides
import Derived.Deep.QuietTactic
import Derived.BigQuiet
import Derived.RegionTactic
import Derived.Lib.AppendZeros
import Derived.Lib.AppendStr
import Derived.Lib.Hide
import Derived.OrdersIn
namespace Go.Proofs.YtmeekbjhpidcgaaGreatDoor
set_option linter.unusedSimpArgs false
set_option linter.unusedVariables false
set_option linter.unnecessarySimpa false
section
open Go.RowKit
def Rd (w:World) (v:Value) (cs:List Value):Prop:=
 ∃a cap b off,v = .slice a cs.length cap∧cs.length≤cap∧cap≤maxLen∧(0 < cs.length→a=some ⟨b,off,none⟩) ∧
  ∀j u,cs[j]? = some u→w.cell? ⟨b,off+j,none⟩=some u
def Ints (w:World) (v:Value) (zs:List Int):Prop:=Rd w v (zs.map (Value.int .i64))
theorem Rd.below {w w' : World} {v:Value} {cs:List Value} (h:Rd w v cs) (hb:Below w.heap.size w w'):Rd w' v cs:=by
 obtain ⟨a,cap,b,off,h1,h2,h3,h4,h5⟩:=h
 refine ⟨a,cap,b,off,h1,h2,h3,h4,fun j u hu=>?_⟩
 have:=h5 j u hu
 rw [←this]
 exact hb.cell (World.block_lt_of_cell? _ _ this)
theorem Ints.open {w:World} {v:Value} {zs:List Int} (h:Ints w v zs):∃a cap b off,v = .slice a zs.length cap∧zs.length≤cap∧cap≤maxLen ∧
  (0 < zs.length→a=some ⟨b,off,none⟩)∧Hid (∀j x,zs[j]? = some x→w.cell? ⟨b,off+j,none⟩=some (.int .i64 x)):=by
 obtain ⟨a,cap,b,off,h1,h2,h3,h4,h5⟩:=h
 simp only [List.length_map] at h1 h2 h4
 exact ⟨a,cap,b,off,h1,h2,h3,h4,fun j x hx=>h5 j _ (by simp [hx])⟩
theorem ints_get {α:Type} (zs:List α) (k:Nat) (h:k < zs.length):∃x,zs[k]? = some x:=⟨zs[k],by simp [h]⟩
def Own (B:Nat) (E:TypeId) (w:World) (v:Value) (cs:List Value):Prop:=w.ownsRow B E 1 v cs.length cs
theorem Own.nil (B E w):Own B E w (.slice none 0 0) []:=World.ownsRow_nil w B E 1
theorem Own.rd {B E:Nat} {w:World} {v:Value} {cs:List Value} (h:Own B E w v cs):Rd w v cs:=by
 rcases h.2 with ⟨rfl,hn⟩|⟨g,cap,cur,rfl,hb,hgg,hc,hm,hs,ht⟩
 ·exact ⟨none,0,0,0,by rw [hn],by omega,by unfold maxLen;omega,fun hh=>by omega,fun j u hu=>by
   have:cs = []:=List.eq_nil_of_length_eq_zero hn
   subst this;simp at hu⟩
 ·refine ⟨_,cap,g,0,rfl,hc,hm,fun _=>rfl,fun j u hu=>?_⟩
  have:=World.ownsRow.cells h (g:=g) rfl j u hu
  rw [←this];unfold Addr.add;split<;>simp_all
theorem Own.kept {B E:Nat} {w w' : World} {v:Value} {cs:List Value} (h:Own B E w v cs) (hb:Below w.heap.size w w'):Own B E w' v cs:=by
 refine ⟨h.1,?_⟩
 rcases h.2 with hn|⟨g,cap,cur,rfl,hb1,hgg,rest⟩
 ·exact .inl hn
 ·exact .inr ⟨g,cap,cur,rfl,hb1,by rw [hb.block g (Array.getElem?_eq_some_iff.1 hgg).1];exact hgg,rest⟩
theorem Own.alloc {B E:Nat} {w:World} {v:Value} {cs:List Value} (h:Own B E w v cs) (o:Obj):Own B E (w.alloc o) v cs:=World.ownsRow.alloc h o
theorem Own.drewN {B E:Nat} {w:World} {v:Value} {cs:List Value} (h:Own B E w v cs) {n:Nat} : Own B E (w.drewN n) v cs:=h
theorem Own.drew {B E:Nat} {w:World} {v:Value} {cs:List Value} (h:Own B E w v cs):Own B E w.drew v cs:=h
structure Elem1 (P:Program) (E:TypeId) (z:Value) (bytes:Nat):Prop where
 info:(P.info? E).map (fun i=>(i.zero,i.size,i.bytes))=some (some z,1,bytes)
 one:z.cells = #[z]
theorem wp_push {P:Program} {ops:Array Oper} {rest:List Oper} {o:Oper} {a:Act} {Q:Exit→Act→World→Prop} {w0:World} (s x:Operand) (t T E bytes:TypeId) (z:Value) (he:Elem1 P E z bytes)
  (hgd:o.guard=none) (ho:o.op = .call { callee:=.builtin .append,args := #[s,x],argTypes := #[t,t] })
  (ht:P.underlying t=some (.slice E)) (B:Nat) (v u:Value) (cs:List Value) (hs:a.eval s=v) (hown:Own B E w0 v cs)
  (hx:a.eval x = .slice (some ⟨w0.heap.size,0,none⟩) 1 1) (h1:u.oneCell' = true)
  (h63:cs.length+1≤maxLen) (hbytes:(cs.length+1) * bytes≤140737488355328) (hB:B≤w0.heap.size)
  (h:∀v' w',Own B E w' v' (cs ++ [u])→Below B w0 w'→wpList P ops Q rest (a.put o.dst v') w'):wpList P ops Q (o :: rest) a (w0.alloc (.cells #[u] T)):=by
 obtain ⟨i0,hi,hz0,hz1,hz2⟩:=info_parts he.info
 refine wpList_append_own _ hgd s x t ho B E i0 z 1 bytes ht hi hz0 hz1 hz2 (by rw [he.one];rfl) (by decide) v cs.length cs hs (World.ownsRow.alloc hown _) ⟨w0.heap.size,0,none⟩ 1 1 [u] hx rfl ?_ ?_ h63 hbytes (by simp;omega) ?_
 ·intro j y hj
  match j,hj with
  |0,hj=>simp at hj;subst hj;simp [Addr.add]
 ·intro y hy;simp at hy;subst hy;exact h1
 ·intro v' w' hown' hg _
  refine h v' w' (by simpa [Own] using hown') ?_
  exact ((Below.refl _ _).alloc hB _).grown hg (by simp;omega) (fun k hk=>(World.ownsRow.lt hown k hk).1)
theorem Own.lit (w:World) (cs:List Value) (E B:Nat) (hB:B≤w.heap.size) (hm:cs.length≤maxLen) :
  Own B E (w.alloc (.cells cs.toArray E)) (.slice (some ⟨w.heap.size,0,none⟩) cs.length cs.length) cs:=
 ⟨by simp, .inr ⟨w.heap.size,cs.length,cs.toArray,rfl,hB,heap_alloc_new w _,Nat.le_refl _,hm,by simp,by simp⟩⟩
def MadeInts (E:TypeId) (w:World) (zs:List Int) (e:Ending) (w' : World):Prop:=
 ∃v,e = .returned v∧Own w.heap.size E w' v (zs.map (Value.int .i64))∧Below w.heap.size w w'
def MadeRow (E:TypeId) (w:World) (cs:List Value) (e:Ending) (w' : World):Prop:=
 ∃v,e = .returned v∧Own w.heap.size E w' v cs∧Below w.heap.size w w'
theorem below_cell {w w' : World} {p:Addr} {v:Value} (h:Below w.heap.size w w') (hc:w.cell? p=some v):w'.cell? p=some v:=
 (h.cell (World.block_lt_of_cell? _ _ hc)).trans hc
theorem Own.block {B E:Nat} {w:World} {v:Value} {cs:List Value} (h:Own B E w v cs) (hne:0 < cs.length):∃g cap,v = .slice (some ⟨g,0,none⟩) cs.length cap∧B≤g∧g < w.heap.size ∧
  Hid (∀(j:Nat) (u:Value),cs[j]? = some u→w.cell? ⟨g,j,none⟩=some u)∧Hid (∀j:Nat,w.frozen? ⟨g,j,none⟩=false) ∧
  Hid (∀(j:Nat) (u:Value),Own B E (w.setCell ⟨g,j,none⟩ u) (.slice (some ⟨g,0,none⟩) cs.length cap) (cs.set j u)):=by
 rcases h.2 with ⟨rfl,hn⟩|⟨g,cap,cur,rfl,hb,hgg,hc,hm,hs,ht⟩
 ·omega
 ·refine ⟨g,cap,rfl,hb,(Array.getElem?_eq_some_iff.1 hgg).1,?_,?_,?_⟩
  ·intro j u hu
   have:=World.ownsRow.cells h (g:=g) rfl j u hu
   rw [←this];unfold Addr.add;split<;>simp_all
  ·intro j;simp [World.frozen?,hgg]
  ·intro j u
   refine ⟨by simp, .inr ⟨g,cap,cur.setIfInBounds j u,by simp,hb,?_,by simpa using hc,hm,by simpa using hs,?_⟩⟩
   ·simp [World.setCell,Array.getElem?_modify,hgg]
   ·simp only [List.length_set,Nat.mul_one] at ht ⊢
    rw [Array.toList_setIfInBounds,List.take_set,ht]
theorem Hid.mk {p:Prop} (h:p):Hid p:=h
def Still (w w' : World):Prop:=∃n,w' = w.drewN n
theorem Still.refl (w:World):Still w w:=⟨0,rfl⟩
theorem Still.one (w:World) (n:Nat):Still w (w.drewN n):=⟨n,rfl⟩
theorem Still.below {w w' : World} (h:Still w w') (B:Nat):Below B w w':=by
 obtain ⟨n,rfl⟩:=h
 exact ⟨rfl,rfl,rfl,Nat.le_refl _,fun _ _=>rfl⟩
end
section
theorem wraps_u64 (n:Int) (h₀:0≤n) (h₁:n < 2 ^ 64):IntKind.u64.wrap n=n:=by rw [IntKind.wrap_u64];omega
theorem xor_u64_0 (x:Int) (h0:0≤x) (h1:x < 18446744073709551616):bits .xor .u64 x 0=x:=by
 obtain ⟨a,rfl⟩:∃a:Nat,x=a:=⟨x.toNat,by omega⟩
 have:=bits_xor_u64_nat a 0 (by omega) (by omega)
 simpa using this
theorem xor_u64_ones (x:Int) (h0:0≤x) (h1:x < 18446744073709551616):bits .xor .u64 x 18446744073709551615=18446744073709551615 - x:=by
 obtain ⟨a,rfl⟩:∃a:Nat,x=a:=⟨x.toNat,by omega⟩
 have e:(BitVec.ofInt IntKind.u64.bits 18446744073709551615:BitVec IntKind.u64.bits)=BitVec.allOnes 64:=rfl
 have e2:((BitVec.ofInt IntKind.u64.bits (a:Int):BitVec IntKind.u64.bits) ^^^ BitVec.ofInt IntKind.u64.bits 18446744073709551615).toNat=18446744073709551615 - a:=by
  rw [e]
  show ((BitVec.ofInt 64 (a:Int)) ^^^ BitVec.allOnes 64).toNat=_
  rw [BitVec.xor_allOnes,BitVec.toNat_not,BitVec.toNat_ofInt]
  omega
 show IntKind.u64.wrap _=_
 simp only []
 rw [e2,IntKind.wrap_u64]
 omega
theorem xor_i64_0 (x:Int) (h0 : -9223372036854775808≤x) (h1:x < 9223372036854775808):bits .xor .i64 x 0=x:=by
 have e2:((BitVec.ofInt IntKind.i64.bits x:BitVec IntKind.i64.bits) ^^^ BitVec.ofInt IntKind.i64.bits 0).toNat=(x % 18446744073709551616).toNat:=by
  show ((BitVec.ofInt 64 x) ^^^ BitVec.ofInt 64 0).toNat=_
  rw [show BitVec.ofInt 64 0=0#64 from rfl,BitVec.xor_zero,BitVec.toNat_ofInt]
  rfl
 show IntKind.i64.wrap _=_
 simp only []
 rw [e2,IntKind.wrap_i64]
 omega
theorem xor_i64_ones (x:Int) (h0 : -9223372036854775808≤x) (h1:x < 9223372036854775808):bits .xor .i64 x (-1) = -1 - x:=by
 have e2:((BitVec.ofInt IntKind.i64.bits x:BitVec IntKind.i64.bits) ^^^ BitVec.ofInt IntKind.i64.bits (-1)).toNat=18446744073709551615 - (x % 18446744073709551616).toNat:=by
  show ((BitVec.ofInt 64 x) ^^^ BitVec.ofInt 64 (-1)).toNat=_
  rw [show BitVec.ofInt 64 (-1)=BitVec.allOnes 64 from rfl,BitVec.xor_allOnes,BitVec.toNat_not,BitVec.toNat_ofInt]
  rfl
 show IntKind.i64.wrap _=_
 simp only []
 rw [e2,IntKind.wrap_i64]
 omega
theorem u8_and127 (x:Int) (h₀:0≤x) (h₁:x < 256):bits .and .u8 x 127=x % 128:=bits_mask .u8 8 (by decide) wraps_u8 7 (by decide) x h₀ h₁
theorem u64_and1 (x:Int) (h₀:0≤x) (h₁:x < 18446744073709551616):bits .and .u64 x 1=x % 2:=bits_mask .u64 64 (by decide) wraps_u64 1 (by decide) x h₀ h₁
theorem bits_or_comm (k:IntKind) (x y:Int):bits .or k x y=bits .or k y x:=by
 simp only [bits,BitVec.or_comm]
theorem u8_or128' (q:Int) (h0:0≤q):bits .or .u8 (q % 256) 128=q % 128+128:=by
 obtain ⟨a,rfl⟩:∃a:Nat,q=a:=⟨q.toNat,by omega⟩
 have h:=(bits_nat .u8 8 (by decide) wraps_u8 (a % 256) 128 (by omega) (by omega)).2
 have e:(a % 256 ||| 128:Nat)=a % 128+128:=by
  have key:∀x:Fin 256,(x.val ||| 128:Nat)=x.val % 128+128:=by decide +kernel
  have:=key ⟨a % 256,by omega⟩
  simp only at this
  rw [this];omega
 rw [e] at h
 have c1:((a % 256:Nat):Int)=(a:Int) % 256:=by omega
 have c2:((128:Nat):Int)=128:=rfl
 rw [c1,c2] at h
 rw [h];omega
theorem u64_or_shift (z d:Int) (k:Nat) (hk:k≤9) (hz0:0≤z) (hz:z < 2 ^ (7 * k)) (hd0:0≤d) (hd9:d * 2 ^ (7 * k) < 18446744073709551616) :
  bits .or .u64 z (d * 2 ^ (7 * k))=z+d * 2 ^ (7 * k):=by
 have hp:(0:Int) < 2 ^ (7 * k):=Int.pow_pos (by decide)
 have hle:(2:Int) ^ (7 * k)≤9223372036854775808:=by
  have:(2:Int) ^ (7 * k)≤2 ^ 63:=by
   have h:=Nat.pow_le_pow_right (n:=2) (by decide) (show 7 * k≤63 by omega)
   exact_mod_cast h
  simpa using this
 rw [bits_or_comm,bits_join .u64 64 (by decide) wraps_u64 (7 * k) _ _ (Int.mul_nonneg hd0 (by omega)) (by simp) (by simpa using hd9) hz0 hz (by
  have:(2:Int) ^ 64=18446744073709551616:=by decide
  omega)]
 omega
def zig (n:Int):Nat:=if 0≤n then (2 * n).toNat else (-2 * n - 1).toNat
def unzig (z:Int):Int:=if z % 2=0 then z / 2 else -1 - z / 2
theorem zig_lt (n:Int) (h1 : -9223372036854775808≤n) (h2:n≤9223372036854775807):zig n < 18446744073709551616:=by unfold zig;split<;>omega
theorem unzig_zig (n:Int):unzig (zig n)=n:=by unfold unzig zig;split<;>split<;>omega
def leb (z:Nat):List Int:=if z < 128 then [(z:Int)] else ((z % 128+128:Nat):Int) :: leb (z / 128)
decreasing_by omega
theorem leb_small (z:Nat) (h:z < 128):leb z = [(z:Int)]:=by rw [leb,if_pos h]
theorem leb_big (z:Nat) (h:128≤z):leb z=((z % 128+128:Nat):Int) :: leb (z / 128):=by rw [leb,if_neg (by omega)]
theorem leb_pos (z:Nat):1≤(leb z).length:=by rw [leb];split<;>simp
theorem leb_len (k:Nat):∀z,z < 128 ^ (k+1)→(leb z).length≤k+1:=by
 induction k with
 |zero=>intro z h;rw [leb_small z (by simpa using h)];simp
 |succ k ih=>
  intro z h
  by_cases g:z < 128
  ·rw [leb_small z g];simp
  ·rw [leb_big z (by omega)]
   have:=ih (z / 128) (by rw [Nat.pow_succ] at h;exact Nat.div_lt_of_lt_mul (by omega))
   simp;omega
def intB (n:Int):List Int:=leb (zig n)
theorem leb64 (z:Nat) (h:z < 18446744073709551616):(leb z).length≤10:=leb_len 9 z (by have:128 ^ (9+1)=1180591620717411303424:=rfl;omega)
def getGo:List Int→Nat→Int→Int×Int×Int
 | [],_,_=>(0,0,10)
 |c :: r,k,z=>
  if (k=9∧1 < c)∨(0 < k∧c=0) then (0,0,11)
  else if c < 128 then (unzig (z+c % 128 * 2 ^ (7 * k)),(k:Int)+1,0)
  else getGo r (k+1) (z+c % 128 * 2 ^ (7 * k))
def getI (bs:List Int):Int×Int×Int:=getGo bs 0 0
theorem getGo_drop (bs:List Int) (k:Nat) (c z:Int) (h:bs[k]? = some c):getGo (bs.drop k) k z =
  if (k=9∧1 < c)∨(0 < k∧c=0) then (0,0,11) else if c < 128 then (unzig (z+c % 128 * 2 ^ (7 * k)),(k:Int)+1,0) else getGo (bs.drop (k+1)) (k+1) (z+c % 128 * 2 ^ (7 * k)):=by
 obtain ⟨hk,rfl⟩:=List.getElem?_eq_some_iff.1 h
 rw [List.drop_eq_getElem_cons (by omega),getGo]
theorem getGo_end (bs:List Int) (k:Nat) (z:Int) (h:bs.length≤k):getGo (bs.drop k) k z=(0,0,10):=by
 rw [List.drop_eq_nil_of_le h,getGo]
end
section
open Go.RowKit
theorem elemByte:Elem1 Tryz.prog 5 (.int .u8 0) 1:=⟨by kernel_rfl,rfl⟩
def MadeBytes (w:World) (bs:List Int) (e:Ending) (w' : World):Prop:=
 ∃v,e = .returned v∧Own w.heap.size 5 w' v (bs.map (Value.int .u8))∧Below w.heap.size w w'
def Bytes (w:World) (v:Value) (bs:List Int):Prop:=Rd w v (bs.map (Value.int .u8))
theorem Bytes.open {w:World} {v:Value} {zs:List Int} (h:Bytes w v zs):∃a cap b off,v = .slice a zs.length cap∧zs.length≤cap∧cap≤maxLen ∧
  (0 < zs.length→a=some ⟨b,off,none⟩)∧Hid (∀(j:Nat) (x:Int),zs[j]? = some x→w.cell? ⟨b,off+j,none⟩=some (.int .u8 x)):=by
 obtain ⟨a,cap,b,off,h1,h2,h3,h4,h5⟩:=h
 simp only [List.length_map] at h1 h2 h4
 exact ⟨a,cap,b,off,h1,h2,h3,h4,fun j x hx=>h5 j _ (by simp [hx])⟩
def Byte (bs:List Int):Prop:=∀(k:Nat) (c:Int),bs[k]? = some c→0≤c∧c < 256
theorem zig_walk (n:Int) (h1 : -9223372036854775808≤n) (h2:n≤9223372036854775807) :
  bits BinOp.xor IntKind.u64 (IntKind.u64.wrap (IntKind.u64.wrap n * 2)) (IntKind.u64.wrap (n / 9223372036854775808))=zig n:=by
 simp only [IntKind.wrap_u64]
 by_cases h:0≤n
 ·have e:n / 9223372036854775808 % 18446744073709551616=0:=by omega
  rw [e,xor_u64_0 _ (by omega) (by omega)];unfold zig;rw [if_pos h];omega
 ·have e:n / 9223372036854775808 % 18446744073709551616=18446744073709551615:=by omega
  rw [e,xor_u64_ones _ (by omega) (by omega)];unfold zig;rw [if_neg h];omega
set_option maxRecDepth 100000 in
set_option maxHeartbeats 400000 in
theorem wireInt (n:Int) (w:World) (h1 : -9223372036854775808≤n) (h2:n≤9223372036854775807):Calls Tryz.prog 67 #[.int .i64 n] w (MadeBytes w (intB n)):=by
 have hz:=zig_lt n h1 h2
 have hlen:=leb64 _ hz
 go_enter Tryz.func67,Tryz.ntmps67
 go_wp2
 go_loopw [3,4] (fun z o wr=>∃(q:Nat) (out:List Int),q < 18446744073709551616∧z = .int .u64 q∧out.length≤9∧Own w.heap.size 5 wr o (out.map (Value.int .u8))∧Below w.heap.size w wr∧Hid (intB n=out ++ leb q)) (fun z _ _=>(intOf z).toNat)
 case atStart=>exact ⟨zig n,[],hz,by rw [zig_walk n h1 h2],by simp,Own.nil _ _ _,Below.refl _ _,rfl⟩
 case round=>
  obtain ⟨q,out,hq,rfl,ho,hown,hb,hh⟩:=hrel
  have HB:=Hid.mk hb
  clear hb
  have hb2:=HB.out.size
  by_cases g:127 < q
  ·have H:=Hid.mk (leb_big q (by omega))
   have hl:out.length+1≤9:=by
    have e:=congrArg List.length hh.out
    rw [H.out] at e
    have:=leb_pos (q / 128)
    simp at e
    unfold intB at e
    omega
   have eor:=u8_or128' q (by omega)
   go_wp2_with (at_builtin;refine wp_push (.tmp 16) (.tmp 20) 26 _ 5 1 _ elemByte rfl rfl Tryz.underlying26 w.heap.size _ _ _ rfl hown rfl rfl (by simp [maxLen];omega) (by simp;omega) hb2 ?_;intro v' w' hown' hb')
   go_roundw
   case rel=>exact ⟨q / 128,out ++ [((q % 128+128:Nat):Int)],by omega,by go_num,by simpa using hl,by simpa using hown',HB.out.trans hb',by rw [Hid,hh.out,H.out];simp⟩
   case measure=>simp [intOf];omega
  ·have H:=Hid.mk (leb_small q (by omega))
   go_wp2_with (at_builtin;refine wp_push (.tmp 22) (.tmp 25) 26 _ 5 1 _ elemByte rfl rfl Tryz.underlying26 w.heap.size _ _ _ rfl hown rfl rfl (by simp [maxLen];omega) (by simp;omega) hb2 ?_;intro v' w' hown' hb')
   go_ret
   exact ⟨_,rfl,by rw [hh.out,H.out];simpa using hown',HB.out.trans hb'⟩
theorem wp_append {P:Program} {ops:Array Oper} {rest:List Oper} {o:Oper} {a:Act} {Q:Exit→Act→World→Prop} {w:World} (s x:Operand) (t E:TypeId) (bytes:Nat) (z:Value) (he:Elem1 P E z bytes)
  (hgd:o.guard=none) (ho:o.op = .call { callee:=.builtin .append,args := #[s,x],argTypes := #[t,t] })
  (ht:P.underlying t=some (.slice E)) (B:Nat) (v u:Value) (cs cs2:List Value) (hs:a.eval s=v) (hown:Own B E w v cs)
  (hx:a.eval x=u) (hr:Rd w u cs2) (hne:0 < cs2.length) (h1:∀c∈cs2,c.oneCell' = true)
  (h63:cs.length+cs2.length≤maxLen) (hbytes:(cs.length+cs2.length) * bytes≤140737488355328) (hB:B≤w.heap.size)
  (h:∀v' w',Own B E w' v' (cs ++ cs2)→Below B w w'→wpList P ops Q rest (a.put o.dst v') w'):wpList P ops Q (o :: rest) a w:=by
 obtain ⟨i0,hi,hz0,hz1,hz2⟩:=info_parts he.info
 obtain ⟨aa,cap,b,off,rfl,r2,r3,r4,r5⟩:=hr
 have r4':=r4 hne
 subst r4'
 refine wpList_append_own _ hgd s x t ho B E i0 z 1 bytes ht hi hz0 hz1 hz2 (by rw [he.one];rfl) (by decide) v cs.length cs hs hown ⟨b,off,none⟩ cs2.length cap cs2 hx (by simp) ?_ h1 h63 hbytes hB ?_
 ·intro j y hj
  rw [Addr.add_lit];exact r5 j y hj
 ·intro v' w' hown' hg _
  refine h v' w' (by simpa [Own] using hown') ?_
  exact (Below.refl _ _).grown hg hB (fun k hk=>(World.ownsRow.lt hown k hk).1)
theorem run_append0 {P:Program} (w:World) (t ty e:TypeId) (i:TypeInfo) (ht:P.underlying t=some (.slice e)) (hi:P.info? e=some i) (a a2:Option Addr) (n c c2:Nat) (hnc:n≤c) :
  (Builtin.append_ #[t,t] ty #[.slice a n c, .slice a2 0 c2]).run P w = .ok (.slice a n c) w:=by
 cases a<;>cases a2<;>simp [Builtin.append_,run_underlying ht,sizeOf,typeInfo,hi,Builtin.lenOf,hnc,Builtin.firstCells,loadCells,loadCellsFrom,storeCells]
theorem wp_append0 {P:Program} {ops:Array Oper} {rest:List Oper} {o:Oper} {a:Act} {Q:Exit→Act→World→Prop} {w:World} (s x:Operand) (t E:TypeId) (i:TypeInfo) (hi:P.info? E=some i)
  (hgd:o.guard=none) (ho:o.op = .call { callee:=.builtin .append,args := #[s,x],argTypes := #[t,t] })
  (ht:P.underlying t=some (.slice E)) (b b2:Option Addr) (n c c2:Nat) (hs:a.eval s = .slice b n c) (hx:a.eval x = .slice b2 0 c2) (hnc:n≤c)
  (h:wpList P ops Q rest (a.put o.dst (.slice b n c)) w):wpList P ops Q (o :: rest) a w:=
 Lib.wpList_append_run w hgd s x t t ho _ _ hs hx _ _ (run_append0 w t _ E i ht hi b b2 n c c2 hnc) h
theorem Own.cap {B E:Nat} {w:World} {v:Value} {cs:List Value} (h:Own B E w v cs):∃a c,v = .slice a cs.length c∧cs.length≤c:=by
 rcases h.2 with ⟨rfl,hn⟩|⟨g,cap,cur,rfl,hb,hgg,hc,_⟩
 ·exact ⟨none,0,by rw [hn],by omega⟩
 ·exact ⟨_,cap,rfl,hc⟩
theorem wp_appendR {P:Program} {ops:Array Oper} {rest:List Oper} {o:Oper} {a:Act} {Q:Exit→Act→World→Prop} {w:World} (s x:Operand) (t E:TypeId) (bytes:Nat) (z:Value) (he:Elem1 P E z bytes)
  (hgd:o.guard=none) (ho:o.op = .call { callee:=.builtin .append,args := #[s,x],argTypes := #[t,t] })
  (ht:P.underlying t=some (.slice E)) (B:Nat) (v u:Value) (cs cs2:List Value) (hs:a.eval s=v) (hown:Own B E w v cs)
  (hx:a.eval x=u) (hr:Rd w u cs2) (h1:∀c∈cs2,c.oneCell' = true)
  (h63:cs.length+cs2.length≤maxLen) (hbytes:(cs.length+cs2.length) * bytes≤140737488355328) (hB:B≤w.heap.size)
  (h:∀v' w',Own B E w' v' (cs ++ cs2)→Below B w w'→wpList P ops Q rest (a.put o.dst v') w'):wpList P ops Q (o :: rest) a w:=by
 by_cases hne:0 < cs2.length
 ·exact wp_append s x t E bytes z he hgd ho ht B v u cs cs2 hs hown hx hr hne h1 h63 hbytes hB h
 ·obtain rfl:cs2 = []:=List.eq_nil_of_length_eq_zero (by omega)
  obtain ⟨i0,hi,-⟩:=info_parts he.info
  obtain ⟨b2,c2,-,-,rfl,-⟩:=hr
  obtain ⟨b1,c1,rfl,hc⟩:=hown.cap
  refine wp_append0 s x t E i0 hi hgd ho ht b1 b2 _ c1 c2 hs hx hc (h _ w (by simpa using hown) (Below.refl _ _))
theorem wp_appendStr {P:Program} {ops:Array Oper} {rest:List Oper} {o:Oper} {a:Act} {Q:Exit→Act→World→Prop} {w:World} (s x:Operand) (t ts E:TypeId) (he:Elem1 P E (.int .u8 0) 1)
  (hgd:o.guard=none) (ho:o.op = .call { callee:=.builtin .append,args := #[s,x],argTypes := #[t,ts] })
  (ht:P.underlying t=some (.slice E)) (hts:P.underlying ts=some .string) (B:Nat) (v:Value) (cs:List Value) (st:ByteArray) (hs:a.eval s=v) (hown:Own B E w v cs)
  (hx:a.eval x = .string st) (h63:cs.length+st.size≤1000000000000) (hB:B≤w.heap.size)
  (h:∀v' w',Own B E w' v' (cs ++ Lib.strCells st)→Below B w w'→wpList P ops Q rest (a.put o.dst v') w'):wpList P ops Q (o :: rest) a w:=by
 obtain ⟨i0,hi,hz0,hz1,hz2⟩:=info_parts he.info
 refine Lib.wpList_append_own_string w hgd s x t ts ho B E i0 ht hts hi hz0 hz1 hz2 v cs.length cs hs hown st hx (by unfold maxLen;omega) (by omega) hB ?_
 intro v' w' hown' hg _
 refine h v' w' (by simpa [Own,Lib.strCells_length] using hown') ?_
 exact (Below.refl _ _).grown hg hB (fun k hk=>(World.ownsRow.lt hown k hk).1)
def OwnS (B E k:Nat) (w:World) (v:Value) (rows:List (List Value)):Prop:=w.ownsRow B E k v rows.length rows.flatten∧∀r∈rows,r.length=k
theorem OwnS.nil (B E k:Nat) (w:World):OwnS B E k w (.slice none 0 0) []:=⟨World.ownsRow_nil w B E k,fun r hr=>by simp at hr⟩
theorem OwnS.kept {B E k:Nat} {w w' : World} {v:Value} {rows:List (List Value)} (h:OwnS B E k w v rows) (hb:Below w.heap.size w w'):OwnS B E k w' v rows:=by
 refine ⟨⟨h.1.1,?_⟩,h.2⟩
 rcases h.1.2 with hn|⟨g,cap,cur,rfl,hb1,hgg,rest⟩
 ·exact .inl hn
 ·exact .inr ⟨g,cap,cur,rfl,hb1,by rw [hb.block g (Array.getElem?_eq_some_iff.1 hgg).1];exact hgg,rest⟩
theorem OwnS.cap {B E k:Nat} {w:World} {v:Value} {rows:List (List Value)} (h:OwnS B E k w v rows):∃a cap,v = .slice a rows.length cap∧rows.length≤cap:=by
 rcases h.1.2 with ⟨rfl,hn⟩|⟨g,cap,cur,rfl,hb,hgg,hc,_⟩
 ·exact ⟨none,0,by rw [hn],by omega⟩
 ·exact ⟨_,cap,rfl,hc⟩
theorem flat_getS {α:Type} (k:Nat):∀(rows:List (List α)),(∀r∈rows,r.length=k)→∀(i j:Nat) (r:List α) (u:α),rows[i]? = some r→r[j]? = some u→rows.flatten[i * k+j]? = some u
 | [],_,i,j,r,u,h,_=>by simp at h
 |x :: xs,hk,0,j,r,u,h,hu=>by
  simp at h;subst h
  have hj:j < x.length:=(List.getElem?_eq_some_iff.1 hu).1
  rw [List.flatten_cons,Nat.zero_mul,Nat.zero_add,List.getElem?_append_left hj]
  exact hu
 |x :: xs,hk,i+1,j,r,u,h,hu=>by
  have hx:x.length=k:=hk x (by simp)
  rw [List.flatten_cons,List.getElem?_append_right (by rw [hx,Nat.succ_mul];omega),hx,show (i+1) * k+j - k=i * k+j by rw [Nat.succ_mul];omega]
  exact flat_getS k xs (fun r hr=>hk r (by simp [hr])) i j r u (by simpa using h) hu
theorem OwnS.cells {B E k:Nat} {w:World} {v:Value} {rows:List (List Value)} (h:OwnS B E k w v rows):∃a cap b off,v = .slice a rows.length cap∧rows.length≤cap∧cap≤maxLen∧(0 < rows.length→a=some ⟨b,off,none⟩) ∧
  ∀i j r u,rows[i]? = some r→r[j]? = some u→w.cell? ⟨b,off+i * k+j,none⟩=some u:=by
 rcases h.1.2 with ⟨rfl,hn⟩|⟨g,cap,cur,rfl,hb,hgg,hc,hm,hs,ht⟩
 ·exact ⟨none,0,0,0,by rw [hn],by omega,by unfold maxLen;omega,fun hh=>by omega,fun i j r u hr hu=>by
   have:rows = []:=List.eq_nil_of_length_eq_zero hn
   subst this;simp at hr⟩
 ·refine ⟨_,cap,g,0,rfl,hc,hm,fun _=>rfl,fun i j r u hr hu=>?_⟩
  have:=World.ownsRow.cells h.1 (g:=g) rfl (i * k+j) u (flat_getS k rows h.2 i j r u hr hu)
  rw [←this];unfold Addr.add;split<;>simp_all
def glob0:List Int := [1116352408,1899447441,3049323471,3921009573,961987163,1508970993,2453635748,2870763221,3624381080,310598401,607225278,1426881987,1925078388,2162078206,2614888103,3248222580,3835390401,4022224774,264347078,604807628,770255983,1249150122,1555081692,1996064986,2554220882,2821834349,2952996808,3210313671,3336571891,3584528711,113926993,338241895,666307205,773529912,1294757372,1396182291,1695183700,1986661051,2177026350,2456956037,2730485921,2820302411,3259730800,3345764771,3516065817,3600352804,4094571909,275423344,430227734,506948616,659060556,883997877,958139571,1322822218,1537002063,1747873779,1955562222,2024104815,2227730452,2361852424,2428436474,2756734187,3204031479,3329325298]
def globTab:List (Nat×IntKind×List Int) := [(0, .u32,glob0)]
inductive PV where
 |undef
 |val (v:Value)
 |nilsl
 |sl (n k:Nat) (cs:List PV) (own:Option TypeId)
 |ptr (id off:Nat)
 |msl (id off n k:Nat)
 |ep (cs:List PV) (off:Nat)
 |fn (f:FuncId) (caps:List PV)
 |agg (cs:List PV)
 |tup (vs:List PV)
 |mref (id:Nat)
 deriving Inhabited
def yieldB:Fn→Array Value→Array Value→Bool
 | .yield _,a,b=>a.isEmpty && b.isEmpty
 |_,_,_=>false
def plainV:Value→Bool
 | .bool _ | .int _ _ | .string _ | .nilFunc | .nilIface | .pointer none | .map none=>true
 | .func f a b=>yieldB f a b
 |_=>false
theorem plainV_one {v:Value} (h:plainV v=true):v.oneCell' = true∧v.cells = #[v]:=by
 cases v<;>simp_all [plainV,Value.oneCell',Value.cells]
abbrev Imm:=Nat→Nat→Option Value
def unB (f:Nat):Nat:=f - 1000000
def fnV (f:Nat) (us:Array Value):Value:=if f < 1000000 then .func (.func f) #[] us else .func (.func (unB f)) us #[]
theorem fnV_func (f:Nat) (us:Array Value):∃n p q,fnV f us = .func (.func n) p q:=by unfold fnV;split<;>exact ⟨_,_,_,rfl⟩
inductive Rep (Φ:Imm) (μ:Nat→Option Nat):PV→Value→Prop
 |undef (v:Value):Rep Φ μ .undef v
 |val (v:Value) (h:plainV v=true):Rep Φ μ (.val v) v
 |nilsl:Rep Φ μ .nilsl (.slice none 0 0)
 |sl0 (k:Nat) (own:Option TypeId) (a:Option Addr) (cap:Nat) (h:cap≤maxLen):Rep Φ μ (.sl 0 k [] own) (.slice a 0 cap)
 |sl (n k:Nat) (cs:List PV) (own:Option TypeId) (b off cap:Nat) (us:Nat→Value) (h1:cs.length=n * k) (h2:n≤cap) (h3:cap≤maxLen)
   (hp:∀j,j < cs.length→Φ b (off+j)=some (us j)) (hr:∀j c,cs[j]? = some c→Rep Φ μ c (us j)):Rep Φ μ (.sl n k cs own) (.slice (some ⟨b,off,none⟩) n cap)
 |ptr (id off g:Nat) (h:μ id=some g):Rep Φ μ (.ptr id off) (.pointer (some ⟨g,off,none⟩))
 |msl (id off n k:Nat) (a:Option Addr) (cap:Nat) (h:0 < n→∃g,μ id=some g∧a=some ⟨g,off,none⟩) (h2:n≤cap) (h3:cap≤maxLen):Rep Φ μ (.msl id off n k) (.slice a n cap)
 |ep (cs:List PV) (off b o:Nat) (us:Nat→Value) (hp:∀j,j < cs.length→Φ b (o+j)=some (us j)) (hr:∀j c,cs[j]? = some c→Rep Φ μ c (us j)) :
   Rep Φ μ (.ep cs off) (.pointer (some ⟨b,o+off,none⟩))
 |fn (f:FuncId) (cs:List PV) (us:Nat→Value) (hr:∀j c,cs[j]? = some c→Rep Φ μ c (us j)):Rep Φ μ (.fn f cs) (fnV f ((List.range cs.length).map us).toArray)
 |agg (cs:List PV) (us:Nat→Value) (hr:∀j c,cs[j]? = some c→Rep Φ μ c (us j)):Rep Φ μ (.agg cs) (.agg ((List.range cs.length).map us).toArray)
 |tup (cs:List PV) (us:Nat→Value) (hr:∀j c,cs[j]? = some c→Rep Φ μ c (us j)):Rep Φ μ (.tup cs) (.tuple ((List.range cs.length).map us).toArray)
 |mref (id g:Nat) (h:μ id=some g):Rep Φ μ (.mref id) (.map (some g))
theorem Rep.mono {Φ Φ' : Imm} {μ μ' : Nat→Option Nat} (hΦ:∀b o u,Φ b o=some u→Φ' b o=some u) (hμ:∀i g,μ i=some g→μ' i=some g) {p:PV} {v:Value} (h:Rep Φ μ p v):Rep Φ' μ' p v:=by
 induction h with
 |undef v=>exact .undef v
 |val v h=>exact .val v h
 |nilsl=>exact .nilsl
 |sl0 k own a cap h=>exact .sl0 k own a cap h
 |sl n k cs own b off cap us h1 h2 h3 hp hr ih=>exact .sl n k cs own b off cap us h1 h2 h3 (fun j hj=>hΦ _ _ _ (hp j hj)) ih
 |ptr id off g h=>exact .ptr id off g (hμ _ _ h)
 |msl id off n k a cap h h2 h3=>exact .msl id off n k a cap (fun hn=>by obtain ⟨g,h1,h4⟩:=h hn;exact ⟨g,hμ _ _ h1,h4⟩) h2 h3
 |ep cs off b o us hp hr ih=>exact .ep cs off b o us (fun j hj=>hΦ _ _ _ (hp j hj)) ih
 |fn f cs us hr ih=>exact .fn f cs us ih
 |agg cs us hr ih=>exact .agg cs us ih
 |tup cs us hr ih=>exact .tup cs us ih
 |mref id g h=>exact .mref id g (hμ _ _ h)
theorem Rep.nilsl_inv {Φ:Imm} {μ:Nat→Option Nat} {v:Value} (h:Rep Φ μ .nilsl v):v = .slice none 0 0:=by cases h;rfl
def PV.bare:PV→PV
 | .sl n k cs _=>.sl n k cs none
 |p=>p
def PV.ownB:PV→Bool
 | .sl _ _ _ (some _)=>true
 |_=>false
theorem PV.bare_own (p:PV):p.bare.ownB=false:=by cases p<;>simp [PV.bare,PV.ownB]
theorem PV.bare_bare (p:PV):p.bare.bare=p.bare:=by cases p<;>rfl
theorem PV.bare_of (p:PV) (h:p.ownB=false):p.bare=p:=by
 cases p with
 |sl n k cs own=>cases own<;>simp_all [PV.bare,PV.ownB]
 |_=>rfl
theorem Rep.bare {Φ:Imm} {μ:Nat→Option Nat} {p:PV} {v:Value} (h:Rep Φ μ p v):Rep Φ μ p.bare v:=by
 cases h with
 |sl0 k own a cap h=>exact .sl0 k none a cap h
 |sl n k cs own b off cap us h1 h2 h3 hp hr=>exact .sl n k cs none b off cap us h1 h2 h3 hp hr
 |undef v=>exact .undef v
 |val v h=>exact .val v h
 |nilsl=>exact .nilsl
 |ptr id off g h=>exact .ptr id off g h
 |msl id off n k a cap h h2 h3=>exact .msl id off n k a cap h h2 h3
 |ep cs off b o us hp hr=>exact .ep cs off b o us hp hr
 |fn f cs us hr=>exact .fn f cs us hr
 |agg cs us hr=>exact .agg cs us hr
 |tup cs us hr=>exact .tup cs us hr
 |mref id g h=>exact .mref id g h
inductive Low:PV→Prop
 |undef:Low .undef
 |val (v:Value):Low (.val v)
 |nilsl:Low .nilsl
 |sl (n k:Nat) (cs:List PV) (own:Option TypeId) (h:∀c∈cs,Low c):Low (.sl n k cs own)
 |ep (cs:List PV) (off:Nat) (h:∀c∈cs,Low c):Low (.ep cs off)
 |fn (f:FuncId) (cs:List PV) (h:∀c∈cs,Low c):Low (.fn f cs)
 |agg (cs:List PV) (h:∀c∈cs,Low c):Low (.agg cs)
 |tup (cs:List PV) (h:∀c∈cs,Low c):Low (.tup cs)
theorem mem_of_get {α:Type} {l:List α} {j:Nat} {c:α} (h:l[j]? = some c):c∈l:=List.mem_of_getElem? h
theorem Rep.low {Φ:Imm} {μ μ' : Nat→Option Nat} {p:PV} {v:Value} (h:Rep Φ μ p v) (hl:Low p):Rep Φ μ' p v:=by
 induction h with
 |undef v=>exact .undef v
 |val v h=>exact .val v h
 |nilsl=>exact .nilsl
 |sl0 k own a cap h=>exact .sl0 k own a cap h
 |sl n k cs own b off cap us h1 h2 h3 hp hr ih=>cases hl with|sl _ _ _ _ hl=>exact .sl n k cs own b off cap us h1 h2 h3 hp (fun j c hj=>ih j c hj (hl c (mem_of_get hj)))
 |ptr id off g h=>cases hl
 |msl id off n k a cap h h2 h3=>cases hl
 |ep cs off b o us hp hr ih=>cases hl with|ep _ _ hl=>exact .ep cs off b o us hp (fun j c hj=>ih j c hj (hl c (mem_of_get hj)))
 |fn f cs us hr ih=>cases hl with|fn _ _ hl=>exact .fn f cs us (fun j c hj=>ih j c hj (hl c (mem_of_get hj)))
 |agg cs us hr ih=>cases hl with|agg _ hl=>exact .agg cs us (fun j c hj=>ih j c hj (hl c (mem_of_get hj)))
 |tup cs us hr ih=>cases hl with|tup _ hl=>exact .tup cs us (fun j c hj=>ih j c hj (hl c (mem_of_get hj)))
 |mref id g h=>cases hl
inductive Flat:PV→Prop
 |undef:Flat .undef
 |val (v:Value):Flat (.val v)
 |nilsl:Flat .nilsl
 |agg (cs:List PV) (h:∀c∈cs,Flat c):Flat (.agg cs)
 |tup (cs:List PV) (h:∀c∈cs,Flat c):Flat (.tup cs)
theorem Rep.flat {Φ Φ' : Imm} {μ μ' : Nat→Option Nat} {p:PV} {v:Value} (h:Rep Φ μ p v) (hl:Flat p):Rep Φ' μ' p v:=by
 induction h with
 |undef v=>exact .undef v
 |val v h=>exact .val v h
 |nilsl=>exact .nilsl
 |sl0 k own a cap h=>cases hl
 |sl n k cs own b off cap us h1 h2 h3 hp hr ih=>cases hl
 |ptr id off g h=>cases hl
 |msl id off n k a cap h h2 h3=>cases hl
 |ep cs off b o us hp hr ih=>cases hl
 |fn f cs us hr ih=>cases hl
 |agg cs us hr ih=>cases hl with|agg _ hl=>exact .agg cs us (fun j c hj=>ih j c hj (hl c (mem_of_get hj)))
 |tup cs us hr ih=>cases hl with|tup _ hl=>exact .tup cs us (fun j c hj=>ih j c hj (hl c (mem_of_get hj)))
 |mref id g h=>cases hl
inductive PMap where
 |map (es:List (Nat×PV×PV)) (clock:Nat)
 |iter (mid since:Nat) (seen:List Nat) (last:Nat)
 deriving Inhabited
structure PS where
 t:Nat→PV
 b:Nat→Option (List PV)
 m:Nat→Option PMap
def upd {α:Type} (f:Nat→α) (i:Nat) (x:α) (j:Nat):α:=cond (Nat.beq j i) x (f j)
theorem upd_if {α:Type} (f:Nat→α) (i:Nat) (x:α) (j:Nat):upd f i x j=if j=i then x else f j:=by
 unfold upd
 by_cases h:j=i
 ·subst h;simp
 ·have:Nat.beq j i=false:=by
   cases hb:Nat.beq j i with
   |false=>rfl
   |true=>exact absurd (Nat.eq_of_beq_eq_true hb) h
  rw [this,if_neg h];rfl
theorem upd_same {α:Type} (f:Nat→α) (i:Nat) (x:α):upd f i x i=x:=by simp [upd_if]
theorem upd_ne {α:Type} (f:Nat→α) {i j:Nat} (x:α) (h:j≠i):upd f i x j=f j:=by simp [upd_if,h]
theorem upd_comm {α:Type} (f:Nat→α) {i j:Nat} (x y:α) (h:i≠j):upd (upd f i x) j y=upd (upd f j y) i x:=by
 funext k;simp only [upd_if];by_cases h1:k=i<;>by_cases h2:k=j<;>simp_all
def PS.put (σ:PS) (d:Nat) (p:PV):PS:={ σ with t:=upd σ.t d p }
inductive Who where
 |box (id:Nat)
 |tmp (t:Nat)
 |cell (id off:Nat)
 deriving DecidableEq
def GlobOK (Φ:Imm):Prop:=∀x∈globTab,∀j z,x.2.2[j]? = some z→Φ x.1 j=some (.int x.2.1 z)
def globPV (g:Nat):List (Nat×IntKind×List Int)→PV
 | []=>.undef
 |(g',k,zs) :: l=>cond (Nat.beq g g') (.ep (zs.map fun z=>.val (.int k z)) 0) (globPV g l)
theorem globPV_rep {Φ:Imm} {μ:Nat→Option Nat} {g:Nat} : ∀(l:List (Nat×IntKind×List Int)),(∀x∈l,∀j z,x.2.2[j]? = some z→Φ x.1 j=some (.int x.2.1 z))→Rep Φ μ (globPV g l) (.pointer (some ⟨g,0,none⟩))
 | [],_=>.undef _
 |x :: l,h=>by
  unfold globPV
  cases hb:Nat.beq g x.1 with
  |false=>exact globPV_rep l fun y hy=>h y (List.mem_cons_of_mem _ hy)
  |true=>
   have e:=Nat.eq_of_beq_eq_true hb
   subst e
   refine Rep.ep (Φ:=Φ) (μ:=μ) _ 0 x.1 0 (fun j=>.int x.2.1 (x.2.2.getD j 0)) (fun j hj=>?_) (fun j c hc=>?_)
   ·have hj' : j < x.2.2.length:=by simpa using hj
    rw [Nat.zero_add]
    refine h x (List.mem_cons_self ..) j _ ?_
    rw [List.getD_eq_getElem?_getD,List.getElem?_eq_getElem hj'];rfl
   ·rw [List.getElem?_map] at hc
    cases hz:x.2.2[j]? with
    |none=>rw [hz] at hc;cases hc
    |some z=>
     rw [hz] at hc
     simp only [Option.map_some,Option.some.injEq] at hc
     subst hc
     rw [List.getD_eq_getElem?_getD,hz]
     exact .val _ rfl
theorem globPV_own (g:Nat):∀l,(globPV g l).ownB=false
 | []=>rfl
 |x :: l=>by unfold globPV;cases Nat.beq g x.1 with
  |false=>exact globPV_own g l
  |true=>rfl
def isI64:Value→Bool
 | .int .i64 _=>true
 |_=>false
def Mix (Φ:Imm) (g:Nat):Prop:=∀o u,Φ g o=some u→∃o' u',Φ g o' = some u'∧isI64 u' = false
theorem mix_all {Φ:Imm} {g:Nat} (h:∀o u,Φ g o=some u→isI64 u=false):Mix Φ g:=fun o u e=>⟨o,u,e,h o u e⟩
structure Ent where
 imm:Imm
 giv:Nat→Prop
 mu:Nat→Option Nat
 glob:GlobOK imm
 fl:∀g,giv g→Mix imm g
 marks:List Nat
 round:Option Nat
def collD (m:Nat):Deferred:={ target:=.collected m,args := #[] }
def Mine (Φ0:Ent) (W:World) (g:Nat):Prop:=W.heap.size≤g∨Φ0.giv g
def Old (Φ0:Ent) (W:World) (g:Nat):Prop:=g < W.heap.size∧¬Φ0.giv g
def RndOK (Φ0:Ent) (W:World):Prop:=∀l,Φ0.round=some l→Old Φ0 W l∧∃r,W.heap[l]? = some (.loop r)
theorem Mine.ne {Φ0:Ent} {W:World} {g b:Nat} (h:Mine Φ0 W g) (k:Old Φ0 W b):b≠g:=by
 rintro rfl
 rcases h with h|h
 ·have:=k.1;omega
 ·exact k.2 h
structure Kept (S:Nat→Prop) (w w' : World):Prop where
 os:w'.os=w.os
 tape:w'.tape=w.tape
 output:w'.output=w.output
 size:w.heap.size≤w'.heap.size
 block:∀k,S k→w'.heap[k]? = w.heap[k]?
theorem Kept.refl (S:Nat→Prop) (w:World):Kept S w w:=⟨rfl,rfl,rfl,Nat.le_refl _,fun _ _=>rfl⟩
theorem Kept.trans {S:Nat→Prop} {a b c:World} (h:Kept S a b) (k:Kept S b c):Kept S a c:=
 ⟨k.os.trans h.os,k.tape.trans h.tape,k.output.trans h.output,Nat.le_trans h.size k.size,fun i hi=>(k.block i hi).trans (h.block i hi)⟩
theorem Kept.drew {S:Nat→Prop} {a w:World} (h:Kept S a w):Kept S a w.drew:=⟨h.os,h.tape,h.output,h.size,h.block⟩
theorem Kept.mono {S S' : Nat→Prop} {w w' : World} (h:Kept S w w') (hS:∀k,S' k→S k):Kept S' w w':=⟨h.os,h.tape,h.output,h.size,fun k hk=>h.block k (hS k hk)⟩
theorem Kept.of {B:Nat} {S:Nat→Prop} {w w' : World} (h:Below B w w') (hS:∀k,S k→k < B):Kept S w w':=⟨h.os,h.tape,h.output,h.size,fun k hk=>h.block k (hS k hk)⟩
theorem Kept.to {B:Nat} {S:Nat→Prop} {w w' : World} (h:Kept S w w') (hS:∀k,k < B→S k):Below B w w':=⟨h.os,h.tape,h.output,h.size,fun k hk=>h.block k (hS k hk)⟩
theorem Kept.alloc {Φ0:Ent} {W w:World} (h:Kept (Old Φ0 W) W w) (o:Obj):Kept (Old Φ0 W) W (w.alloc o):=
 h.trans ⟨rfl,rfl,rfl,by simp,fun k hk=>Below.heap_alloc _ _ _ (by have:=hk.1;have:=h.size;omega)⟩
def OwnAt (B:Nat→Prop) (Φ:Imm) (ω:Nat→Option Who) (w:World) (p:Who) (n k:Nat) (E:TypeId) (v:Value):Prop:=
 (v = .slice none 0 0∧n=0)∨(∃g cap cur,v = .slice (some ⟨g,0,none⟩) n cap∧B g∧w.heap[g]? = some (.cells cur E (0,0))∧n≤cap∧cap≤maxLen∧cur.size=cap * k∧ω g=some p∧E < 1000000∧∀j,n * k≤j→Φ g j=none)∨(1000000≤E∧∃ad,v = .slice ad n n)
def BoxAt (B:Nat→Prop) (Φ:Imm) (μ:Nat→Option Nat) (ω:Nat→Option Who) (w:World) (id:Nat) (bs:List PV):Prop:=
 ∃g cur T,μ id=some g∧w.heap[g]? = some (.cells cur T (0,0))∧B g∧ω g=some (.box id)∧(∀j,Φ g j=none)∧bs.length≤cur.size∧∀j c,bs[j]? = some c→∃u,cur[j]? = some u∧u.oneCell' = true∧Rep Φ μ c u ∧
  ∀n k cs E,c = .sl n k cs (some E)→OwnAt B Φ ω w (.cell id j) n k E u
def KeptBy (S:Who→Prop) (Φ Φ' : Imm) (ω ω' : Nat→Option Who) (w w' : World):Prop:=∀q,S q→∀g,ω g=some q→w'.heap[g]? = w.heap[g]?∧(∀j,Φ' g j=Φ g j)∧ω' g=some q
def OfId (id:Nat) (q:Who):Prop:=q = .box id∨∃j,q = .cell id j
theorem OwnAt.step {Φ:Imm} {ω:Nat→Option Who} {w:World} {B:Nat→Prop} {p:Who} {n k:Nat} {E:TypeId} {v:Value} (ho:OwnAt B Φ ω w p n k E v) {Φ' : Imm} {ω' : Nat→Option Who} {w' : World} (hk:∀g,ω g=some p→w'.heap[g]? = w.heap[g]?∧(∀j,Φ' g j=Φ g j)∧ω' g=some p):OwnAt B Φ' ω' w' p n k E v:=by
 rcases ho with ho|⟨g,cap,cur,h1,h2,h3,h4,h5,h6,h7,h8⟩|ho
 rotate_left 2
 ·exact .inr (.inr ho)
 ·exact .inl ho
 ·obtain ⟨k1,k2,k3⟩:=hk g h7
  exact .inr (.inl ⟨g,cap,cur,h1,h2,by rw [k1];exact h3,h4,h5,h6,k3,h8.1,fun j hj=>by rw [k2];exact h8.2 j hj⟩)
theorem OwnAt.inB {Φ:Imm} {ω:Nat→Option Who} {w:World} {B B' : Nat→Prop} {p:Who} {n k:Nat} {E:TypeId} {v:Value} (ho:OwnAt B Φ ω w p n k E v) (h:∀g,ω g=some p→B' g):OwnAt B' Φ ω w p n k E v:=by
 rcases ho with ho|⟨g,cap,cur,h1,h2,h3,h4,h5,h6,h7,h8⟩|ho
 rotate_left 2
 ·exact .inr (.inr ho)
 ·exact .inl ho
 ·exact .inr (.inl ⟨g,cap,cur,h1,h g h7,h3,h4,h5,h6,h7,h8⟩)
theorem BoxAt.step {B:Nat→Prop} {Φ Φ' : Imm} {μ μ' : Nat→Option Nat} {ω ω' : Nat→Option Who} {w w' : World} {id:Nat} {bs:List PV} (h:BoxAt B Φ μ ω w id bs) (hΦ:∀b o u,Φ b o=some u→Φ' b o=some u) (hμ:∀i g,μ i=some g→μ' i=some g) (hk:KeptBy (OfId id) Φ Φ' ω ω' w w'):BoxAt B Φ' μ' ω' w' id bs:=by
 obtain ⟨g,cur,T,h1,h2,h3,h4,h5,h6,h7⟩:=h
 obtain ⟨k1,k2,k3⟩:=hk _ (.inl rfl) g h4
 refine ⟨g,cur,T,hμ _ _ h1,by rw [k1];exact h2,h3,k3,fun j=>by rw [k2];exact h5 j,h6,fun j c hc=>?_⟩
 obtain ⟨u,r1,r2,r3,r4⟩:=h7 j c hc
 exact ⟨u,r1,r2,r3.mono hΦ hμ,fun n k cs E e=>(r4 n k cs E e).step (hk _ (.inr ⟨j,rfl⟩))⟩
def StampsOK (es:List (Nat×PV×PV)) (clock:Nat):Prop:=(es.map (·.1)).Nodup∧∀e∈es,e.1 < clock
def MapAt (B:Nat→Prop) (Φ:Imm) (μ:Nat→Option Nat) (ω:Nat→Option Who) (w:World) (id:Nat) (M:PMap):Prop:=
 ∃g,μ id=some g∧B g∧ω g=some (.box id)∧(∀j,Φ g j=none)∧match M with
  | .map es clock=>StampsOK es clock∧∃ents,w.heap[g]? = some (.map ents clock)∧ents.size=es.length∧∀(j:Nat) s k c,es[j]? = some (s,k,c)→∃e,ents[j]? = some e∧e.born=s∧Rep Φ μ k e.key∧Rep Φ μ c e.val ∧
    ∀n kk cs E,c = .sl n kk cs (some E)→OwnAt B Φ ω w (.cell id s) n kk E e.val
  | .iter mid since seen last=>∃gm,μ mid=some gm∧w.heap[g]? = some (.mapIter (some gm) since seen.toArray last)
theorem MapAt.step {B:Nat→Prop} {Φ Φ' : Imm} {μ μ' : Nat→Option Nat} {ω ω' : Nat→Option Who} {w w' : World} {id:Nat} {M:PMap} (h:MapAt B Φ μ ω w id M) (hΦ:∀b o u,Φ b o=some u→Φ' b o=some u) (hμ:∀i g,μ i=some g→μ' i=some g) (hk:KeptBy (OfId id) Φ Φ' ω ω' w w'):MapAt B Φ' μ' ω' w' id M:=by
 obtain ⟨g,h1,h2,h3,h4,h5⟩:=h
 obtain ⟨k1,k2,k3⟩:=hk _ (.inl rfl) g h3
 refine ⟨g,hμ _ _ h1,h2,k3,fun j=>by rw [k2];exact h4 j,?_⟩
 cases M with
 |map es clock=>
  obtain ⟨e0,ents,e1,e2,e3⟩:=h5
  refine ⟨e0,ents,by rw [k1];exact e1,e2,fun j s k c hj=>?_⟩
  obtain ⟨e,f1,f2,f3,f4,f5⟩:=e3 j s k c hj
  exact ⟨e,f1,f2,f3.mono hΦ hμ,f4.mono hΦ hμ,fun n kk cs E ec=>(f5 n kk cs E ec).step (hk _ (.inr ⟨s,rfl⟩))⟩
 |iter mid since seen last=>
  obtain ⟨gm,e1,e2⟩:=h5
  exact ⟨gm,hμ _ _ e1,by rw [k1];exact e2⟩
structure RelG (Φ0:Ent) (W:World) (M:Nat) (Φ:Imm) (μ:Nat→Option Nat) (ω:Nat→Option Who) (σ:PS) (a:Act) (w:World):Prop where
 below:Kept (Old Φ0 W) W w
 defers:a.defers=Φ0.marks.map collD∧RndOK Φ0 W
 size:a.tmps.size=M
 imm:∀b o u,Φ b o=some u→w.cell? ⟨b,o,none⟩=some u
 old:∀b o,Old Φ0 W b→Φ b o=Φ0.imm b o
 tmps:∀t,Rep Φ μ (σ.t t) (a.tmps.getD t undef)
 own:∀t n k cs E,σ.t t = .sl n k cs (some E)→OwnAt (Mine Φ0 W) Φ ω w (.tmp t) n k E (a.tmps.getD t undef)
 box:∀id bs,σ.b id=some bs→BoxAt (Mine Φ0 W) Φ μ ω w id bs
 gone:∀id,σ.b id=none→σ.m id=none→μ id=none
 lt:∀g p,ω g=some p→g < w.heap.size
 gmu:∀id g,Φ0.mu id=some g→1000000≤id
 kmu:∀id g,Φ0.mu id=some g→(σ.b id≠none∨σ.m id≠none)→μ id=some g
 ext:∀b o u,Φ0.imm b o=some u→Φ b o=some u∧b < W.heap.size
 map:∀id X,σ.m id=some X→MapAt (Mine Φ0 W) Φ μ ω w id X
 mine:∀g p,ω g=some p→Mine Φ0 W g
def Rel (Φ0:Ent) (W:World) (M:Nat) (σ:PS) (a:Act) (w:World):Prop:=∃Φ μ ω,RelG Φ0 W M Φ μ ω σ a w
theorem getD_put (a:Act) (d t:Nat) (v:Value) (hd:d < a.tmps.size):(a.put (some d) v).tmps.getD t undef=if t=d then v else a.tmps.getD t undef:=by
 simp only [Act.put,Array.getD_eq_getD_getElem?,Array.getElem?_setIfInBounds]
 by_cases h:d=t
 ·subst h;simp [hd]
 ·rw [if_neg h,if_neg (fun e=>h e.symm)]
end
section
open Go.RowKit
variable {Φ0:Ent} {W:World} {M:Nat} {Φ:Imm} {μ:Nat→Option Nat} {ω:Nat→Option Who} {σ:PS} {a:Act} {w:World}
theorem RelG.put (h:RelG Φ0 W M Φ μ ω σ a w) {d:Nat} (hd:d < M) {p:PV} {v:Value} (hp:Rep Φ μ p v) (ho:p.ownB=false):RelG Φ0 W M Φ μ ω (σ.put d p) (a.put (some d) v) w:=by
 have hd' : d < a.tmps.size:=by rw [h.size];exact hd
 refine { h with defers:=h.defers,size:=by simp [Act.put,h.size],tmps:=fun t=>?_,own:=fun t n k cs E e=>?_ }
 ·rw [getD_put _ _ _ _ hd']
  by_cases ht:t=d
  ·simp only [PS.put,upd_if,if_pos ht];exact hp
  ·simp only [PS.put,upd_if,if_neg ht];exact h.tmps t
 ·rw [getD_put _ _ _ _ hd']
  by_cases ht:t=d
  ·simp only [PS.put,upd_if,if_pos ht] at e;rw [e] at ho;simp [PV.ownB] at ho
  ·simp only [PS.put,upd_if,if_neg ht] at e ⊢; exact h.own t n k cs E e
theorem RelG.strip (h:RelG Φ0 W M Φ μ ω σ a w) (t:Nat):RelG Φ0 W M Φ μ ω { σ with t:=upd σ.t t (σ.t t).bare } a w:=by
 refine { h with tmps:=fun u=>?_,own:=fun u n k cs E e=>?_ }
 ·simp only [upd_if]
  split
  ·rename_i e;subst e;exact (h.tmps u).bare
  ·exact h.tmps u
 ·simp only [upd_if] at e
  split at e
  ·have:=PV.bare_own (σ.t t);rw [e] at this;simp [PV.ownB] at this
  ·exact h.own u n k cs E e
theorem RelG.forget (h:RelG Φ0 W M Φ μ ω σ a w) (f:Nat→PV) (hf:∀t,f t = .undef∨f t=σ.t t∨f t=(σ.t t).bare∨(∃k E,f t = .sl 0 k [] (some E)∧σ.t t = .nilsl)):RelG Φ0 W M Φ μ ω { σ with t:=f } a w:=by
 refine { h with tmps:=fun u=>?_,own:=fun u n k cs E e=>?_ }
 ·rcases hf u with e|e|e|⟨k,E,e,e'⟩<;>simp only [e]
  ·exact .undef _
  ·exact h.tmps u
  ·exact (h.tmps u).bare
  ·have:=h.tmps u
   rw [e'] at this
   rw [this.nilsl_inv]
   exact .sl0 _ _ _ _ (by unfold maxLen;omega)
 ·simp only at e
  rcases hf u with e' | e' | e' | ⟨k',E',e',e''⟩
  ·rw [e'] at e;cases e
  ·rw [e'] at e;exact h.own u n k cs E e
  ·rw [e'] at e;have:=PV.bare_own (σ.t u);rw [e] at this;simp [PV.ownB] at this
  ·rw [e'] at e
   cases e
   have:=h.tmps u
   rw [e''] at this
   exact .inl ⟨this.nilsl_inv,rfl⟩
theorem RelG.glob (h:RelG Φ0 W M Φ μ ω σ a w):GlobOK Φ:=fun x hx j z e=>(h.ext _ _ _ (Φ0.glob x hx j z e)).1
end
section
def val:List Int→Int
 | []=>0
 |d :: r=>d % 128+128 * val r
theorem pow7 (k:Nat):(2:Int) ^ (7 * (k+1))=128 * 2 ^ (7 * k):=by
 rw [show 7 * (k+1)=7 * k+7 by omega,Int.pow_add,Int.mul_comm];rfl
theorem getGo_ok:∀(l:List Int) (k:Nat) (z:Int),k≤9→0≤z→z < 2 ^ (7 * k)→(∀c∈l,0≤c∧c < 256)→(getGo l k z).2.2=0 →
  (k:Int)+1≤(getGo l k z).2.1∧(getGo l k z).2.1≤k+l.length ∧ -9223372036854775808≤(getGo l k z).1∧(getGo l k z).1≤9223372036854775807
 | [],k,z,_,_,_,_,h=>by simp [getGo] at h
 |c :: r,k,z,hk,h0,hz,hby,h=>by
  rw [getGo] at h ⊢
  by_cases g:(k=9∧1 < c)∨(0 < k∧c=0)
  ·rw [if_pos g] at h;simp at h
  ·rw [if_neg g] at h ⊢
   obtain ⟨c0,c1⟩:=hby c (by simp)
   have hp:(0:Int) < 2 ^ (7 * k):=Int.pow_pos (by decide)
   have hn:0≤c % 128 * 2 ^ (7 * k):=Int.mul_nonneg (by omega) (by omega)
   have hm:c % 128 * 2 ^ (7 * k)≤127 * 2 ^ (7 * k):=Int.mul_le_mul_of_nonneg_right (by omega) (by omega)
   by_cases g2:c < 128
   ·rw [if_pos g2] at h ⊢
    simp only at h ⊢
    have hlt:z+c % 128 * 2 ^ (7 * k) < 18446744073709551616:=by
     by_cases g9:k=9
     ·subst g9
      have hm:c % 128 * 2 ^ (7 * 9)≤1 * 2 ^ (7 * 9):=Int.mul_le_mul_of_nonneg_right (by omega) (by omega)
      have e:(2:Int) ^ (7 * 9)=9223372036854775808:=by decide
      rw [e] at *
      omega
     ·have hle:(2:Int) ^ (7 * k)≤2 ^ 56:=by
       have h:=Nat.pow_le_pow_right (n:=2) (by decide) (show 7 * k≤56 by omega)
       exact_mod_cast h
      have e:(2:Int) ^ 56=72057594037927936:=by decide
      rw [e] at hle
      omega
    have hnn:0≤z+c % 128 * 2 ^ (7 * k):=by omega
    generalize z+c % 128 * 2 ^ (7 * k)=q at *
    refine ⟨by omega,by simp;omega,?_,?_⟩<;>(unfold unzig;split<;>omega)
   ·rw [if_neg g2] at h ⊢
    have ih:=getGo_ok r (k+1) (z+c % 128 * 2 ^ (7 * k)) (by omega) (by omega) (by rw [pow7];omega) (fun d hd=>hby d (by simp [hd])) h
    simp only [List.length_cons]
    omega
theorem getI_ok (l:List Int) (hby:∀c∈l,0≤c∧c < 256) (h:(getI l).2.2=0) :
  1≤(getI l).2.1∧(getI l).2.1≤l.length ∧ -9223372036854775808≤(getI l).1∧(getI l).1≤9223372036854775807:=by
 have:=getGo_ok l 0 0 (by omega) (by omega) (by simp) hby h
 unfold getI;omega
def lenL (bs:List Int) (least:Int):Int×Int×Int:=
 if (getI bs).2.2≠0 then (0,0,(getI bs).2.2)
 else if (getI bs).1 < 0 then (0,0,11)
 else if (bs.length - (getI bs).2.1) / least < (getI bs).1 then (0,0,10)
 else ((getI bs).1,(getI bs).2.1,0)
theorem lenL_ok (bs:List Int) (least:Int) (hby:∀c∈bs,0≤c∧c < 256) (h:(lenL bs least).2.2=0) :
  0≤(lenL bs least).1∧1≤(lenL bs least).2.1∧(lenL bs least).2.1≤bs.length∧(lenL bs least).1≤(bs.length - (lenL bs least).2.1) / least:=by
 unfold lenL at *
 by_cases h1:(getI bs).2.2≠0
 ·rw [if_pos h1] at h;exact absurd h h1
 ·rw [if_neg h1] at h ⊢
  have:=getI_ok bs hby (by simpa using h1)
  by_cases h2:(getI bs).1 < 0
  ·rw [if_pos h2] at h;simp at h
  ·rw [if_neg h2] at h ⊢
   by_cases h3:(bs.length - (getI bs).2.1) / least < (getI bs).1
   ·rw [if_pos h3] at h;simp at h
   ·rw [if_neg h3] at h ⊢
    simp only
    omega
def getN:Nat→List Int→List Int×Int×Int
 |0,_=>([],0,0)
 |n+1,bs=>
  if (getI bs).2.2≠0 then ([],0,(getI bs).2.2)
  else if (getN n (bs.drop (getI bs).2.1.toNat)).2.2≠0 then ([],0,(getN n (bs.drop (getI bs).2.1.toNat)).2.2)
  else ((getI bs).1 :: (getN n (bs.drop (getI bs).2.1.toNat)).1,(getI bs).2.1+(getN n (bs.drop (getI bs).2.1.toNat)).2.1,0)
def andThen (out:List Int) (at_:Int) (s:List Int×Int×Int):List Int×Int×Int:=
 if s.2.2≠0 then ([],0,s.2.2) else (out ++ s.1,at_+s.2.1,0)
def getInts (bs:List Int):List Int×Int×Int:=
 if (lenL bs 1).2.2≠0 then ([],0,(lenL bs 1).2.2) else andThen [] (lenL bs 1).2.1 (getN (lenL bs 1).1.toNat (bs.drop (lenL bs 1).2.1.toNat))
theorem andThen_err (out:List Int) (at_:Int) (n:Nat) (bs:List Int) (r:Int×Int×Int) (hr:getI bs=r) (h:r.2.2≠0):andThen out at_ (getN (n+1) bs)=([],0,r.2.2):=by
 subst hr
 simp [andThen,getN,h]
theorem andThen_step (out:List Int) (at_:Int) (n:Nat) (bs:List Int) (r:Int×Int×Int) (hr:getI bs=r) (h:r.2.2=0) :
  andThen out at_ (getN (n+1) bs)=andThen (out ++ [r.1]) (at_+r.2.1) (getN n (bs.drop r.2.1.toNat)):=by
 subst hr
 by_cases g:(getN n (bs.drop (getI bs).2.1.toNat)).2.2=0
 ·simp [andThen,getN,h,g];omega
 ·simp [andThen,getN,h,g]
theorem andThen_done (out:List Int) (at_:Int) (bs:List Int):andThen out at_ (getN 0 bs)=(out,at_,0):=by simp [andThen,getN]
def intsB (l:List Int):List Int:=intB l.length ++ (l.map intB).flatten
theorem intB_len (n:Int) (h1 : -9223372036854775808≤n) (h2:n≤9223372036854775807):1≤(intB n).length∧(intB n).length≤10:=⟨leb_pos _,leb64 _ (zig_lt n h1 h2)⟩
theorem flat_len (l:List Int) (h:∀z∈l,-9223372036854775808≤z∧z≤9223372036854775807):((l.map intB).flatten).length≤10 * l.length:=by
 induction l with
 |nil=>simp
 |cons a r ih=>
  have h1:=intB_len a (h a (by simp)).1 (h a (by simp)).2
  have h2:=ih (fun z hz=>h z (by simp [hz]))
  simp only [List.map_cons,List.flatten_cons,List.length_append,List.length_cons]
  omega
theorem flat_take (l:List Int) (k:Nat) (a:Int) (h:l[k]? = some a):((l.take (k+1)).map intB).flatten=((l.take k).map intB).flatten ++ intB a:=by
 rw [List.take_add_one,h];simp
end
end Go.Proofs.YtmeekbjhpidcgaaGreatDoor
