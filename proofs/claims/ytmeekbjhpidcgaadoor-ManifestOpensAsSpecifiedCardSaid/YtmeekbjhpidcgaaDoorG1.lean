/- Out of: Base, BitOps, PlainW, Wire, Row, Base3, Glob, Region, PlainX, PlainY, Elem, PlainT. -/
import Derived.Test.YtmeekbjhpidcgaaDoorRows
import Derived.WalkKit
import Derived.WalkSpells
import Derived.WalkLawsBesides
import Derived.Deep.QuietTactic
import Derived.BigQuiet
import Derived.RegionTactic
import Derived.ProofKit
import Derived.OpenShut
import Derived.SizedLaws
import Derived.Orders
import GoSem.Step
namespace Go.Proofs.YtmeekbjhpidcgaaDoor
set_option linter.unusedSimpArgs false
set_option linter.unusedVariables false
set_option linter.unnecessarySimpa false
section
open Go.RowKit
def Rd (w:World) (v:Value) (cs:List Value):Prop:=
 ∃a cap b off,v = .slice a cs.length cap∧cs.length≤cap∧cap≤maxLen∧(0 < cs.length→a=some ⟨b,off,none⟩) ∧
  ∀j u,cs[j]? = some u→w.cell? ⟨b,off+j,none⟩=some u
def Ints (w:World) (v:Value) (zs:List Int):Prop:=Rd w v (zs.map (Value.int .i64))
theorem Rd.below {w w' : World} {v:Value} {cs:List Value} (h:Rd w v cs) (hb:Below w.heap.size w w'):Rd w' v cs:=by
 obtain ⟨a,cap,b,off,h1,h2,h3,h4,h5⟩:=h
 refine ⟨a,cap,b,off,h1,h2,h3,h4,fun j u hu=>?_⟩
 have:=h5 j u hu
 rw [←this]
 exact hb.cell (World.block_lt_of_cell? _ _ this)
theorem Ints.open {w:World} {v:Value} {zs:List Int} (h:Ints w v zs):∃a cap b off,v = .slice a zs.length cap∧zs.length≤cap∧cap≤maxLen ∧
  (0 < zs.length→a=some ⟨b,off,none⟩)∧Hid (∀j x,zs[j]? = some x→w.cell? ⟨b,off+j,none⟩=some (.int .i64 x)):=by
 obtain ⟨a,cap,b,off,h1,h2,h3,h4,h5⟩:=h
 simp only [List.length_map] at h1 h2 h4
 exact ⟨a,cap,b,off,h1,h2,h3,h4,fun j x hx=>h5 j _ (by simp [hx])⟩
theorem ints_get {α:Type} (zs:List α) (k:Nat) (h:k < zs.length):∃x,zs[k]? = some x:=⟨zs[k],by simp [h]⟩
def Own (B:Nat) (E:TypeId) (w:World) (v:Value) (cs:List Value):Prop:=w.ownsRow B E 1 v cs.length cs
theorem Own.nil (B E w):Own B E w (.slice none 0 0) []:=World.ownsRow_nil w B E 1
theorem Own.rd {B E:Nat} {w:World} {v:Value} {cs:List Value} (h:Own B E w v cs):Rd w v cs:=by
 rcases h.2 with ⟨rfl,hn⟩|⟨g,cap,cur,rfl,hb,hgg,hc,hm,hs,ht⟩
 ·exact ⟨none,0,0,0,by rw [hn],by omega,by unfold maxLen;omega,fun hh=>by omega,fun j u hu=>by
   have:cs = []:=List.eq_nil_of_length_eq_zero hn
   subst this;simp at hu⟩
 ·refine ⟨_,cap,g,0,rfl,hc,hm,fun _=>rfl,fun j u hu=>?_⟩
  have:=World.ownsRow.cells h (g:=g) rfl j u hu
  rw [←this];unfold Addr.add;split<;>simp_all
theorem Own.kept {B E:Nat} {w w' : World} {v:Value} {cs:List Value} (h:Own B E w v cs) (hb:Below w.heap.size w w'):Own B E w' v cs:=by
 refine ⟨h.1,?_⟩
 rcases h.2 with hn|⟨g,cap,cur,rfl,hb1,hgg,rest⟩
 ·exact .inl hn
 ·exact .inr ⟨g,cap,cur,rfl,hb1,by rw [hb.block g (Array.getElem?_eq_some_iff.1 hgg).1];exact hgg,rest⟩
theorem Own.alloc {B E:Nat} {w:World} {v:Value} {cs:List Value} (h:Own B E w v cs) (o:Obj):Own B E (w.alloc o) v cs:=World.ownsRow.alloc h o
theorem Own.drewN {B E:Nat} {w:World} {v:Value} {cs:List Value} (h:Own B E w v cs) {n:Nat} : Own B E (w.drewN n) v cs:=h
theorem Own.drew {B E:Nat} {w:World} {v:Value} {cs:List Value} (h:Own B E w v cs):Own B E w.drew v cs:=h
structure Elem1 (P:Program) (E:TypeId) (z:Value) (bytes:Nat):Prop where
 info:(P.info? E).map (fun i=>(i.zero,i.size,i.bytes))=some (some z,1,bytes)
 one:z.cells = #[z]
theorem wp_push {P:Program} {ops:Array Oper} {rest:List Oper} {o:Oper} {a:Act} {Q:Exit→Act→World→Prop} {w0:World} (s x:Operand) (t T E bytes:TypeId) (z:Value) (he:Elem1 P E z bytes)
  (hgd:o.guard=none) (ho:o.op = .call { callee:=.builtin .append,args := #[s,x],argTypes := #[t,t] })
  (ht:P.underlying t=some (.slice E)) (B:Nat) (v u:Value) (cs:List Value) (hs:a.eval s=v) (hown:Own B E w0 v cs)
  (hx:a.eval x = .slice (some ⟨w0.heap.size,0,none⟩) 1 1) (h1:u.oneCell' = true)
  (h63:cs.length+1≤maxLen) (hbytes:(cs.length+1) * bytes≤140737488355328) (hB:B≤w0.heap.size)
  (h:∀v' w',Own B E w' v' (cs ++ [u])→Below B w0 w'→wpList P ops Q rest (a.put o.dst v') w'):wpList P ops Q (o :: rest) a (w0.alloc (.cells #[u] T)):=by
 obtain ⟨i0,hi,hz0,hz1,hz2⟩:=info_parts he.info
 refine wpList_append_own _ hgd s x t ho B E i0 z 1 bytes ht hi hz0 hz1 hz2 (by rw [he.one];rfl) (by decide) v cs.length cs hs (World.ownsRow.alloc hown _) ⟨w0.heap.size,0,none⟩ 1 1 [u] hx rfl ?_ ?_ h63 hbytes (by simp;omega) ?_
 ·intro j y hj
  match j,hj with
  |0,hj=>simp at hj;subst hj;simp [Addr.add]
 ·intro y hy;simp at hy;subst hy;exact h1
 ·intro v' w' hown' hg _
  refine h v' w' (by simpa [Own] using hown') ?_
  exact ((Below.refl _ _).alloc hB _).grown hg (by simp;omega) (fun k hk=>(World.ownsRow.lt hown k hk).1)
theorem Own.lit (w:World) (cs:List Value) (E B:Nat) (hB:B≤w.heap.size) (hm:cs.length≤maxLen) :
  Own B E (w.alloc (.cells cs.toArray E)) (.slice (some ⟨w.heap.size,0,none⟩) cs.length cs.length) cs:=
 ⟨by simp, .inr ⟨w.heap.size,cs.length,cs.toArray,rfl,hB,heap_alloc_new w _,Nat.le_refl _,hm,by simp,by simp⟩⟩
def MadeInts (E:TypeId) (w:World) (zs:List Int) (e:Ending) (w' : World):Prop:=
 ∃v,e = .returned v∧Own w.heap.size E w' v (zs.map (Value.int .i64))∧Below w.heap.size w w'
def MadeRow (E:TypeId) (w:World) (cs:List Value) (e:Ending) (w' : World):Prop:=
 ∃v,e = .returned v∧Own w.heap.size E w' v cs∧Below w.heap.size w w'
theorem below_cell {w w' : World} {p:Addr} {v:Value} (h:Below w.heap.size w w') (hc:w.cell? p=some v):w'.cell? p=some v:=
 (h.cell (World.block_lt_of_cell? _ _ hc)).trans hc
theorem Own.block {B E:Nat} {w:World} {v:Value} {cs:List Value} (h:Own B E w v cs) (hne:0 < cs.length):∃g cap,v = .slice (some ⟨g,0,none⟩) cs.length cap∧B≤g∧g < w.heap.size ∧
  Hid (∀(j:Nat) (u:Value),cs[j]? = some u→w.cell? ⟨g,j,none⟩=some u)∧Hid (∀j:Nat,w.frozen? ⟨g,j,none⟩=false) ∧
  Hid (∀(j:Nat) (u:Value),Own B E (w.setCell ⟨g,j,none⟩ u) (.slice (some ⟨g,0,none⟩) cs.length cap) (cs.set j u)):=by
 rcases h.2 with ⟨rfl,hn⟩|⟨g,cap,cur,rfl,hb,hgg,hc,hm,hs,ht⟩
 ·omega
 ·refine ⟨g,cap,rfl,hb,(Array.getElem?_eq_some_iff.1 hgg).1,?_,?_,?_⟩
  ·intro j u hu
   have:=World.ownsRow.cells h (g:=g) rfl j u hu
   rw [←this];unfold Addr.add;split<;>simp_all
  ·intro j;simp [World.frozen?,hgg]
  ·intro j u
   refine ⟨by simp, .inr ⟨g,cap,cur.setIfInBounds j u,by simp,hb,?_,by simpa using hc,hm,by simpa using hs,?_⟩⟩
   ·simp [World.setCell,Array.getElem?_modify,hgg]
   ·simp only [List.length_set,Nat.mul_one] at ht ⊢
    rw [Array.toList_setIfInBounds,List.take_set,ht]
theorem Hid.mk {p:Prop} (h:p):Hid p:=h
def Still (w w' : World):Prop:=∃n,w' = w.drewN n
theorem Still.refl (w:World):Still w w:=⟨0,rfl⟩
theorem Still.one (w:World) (n:Nat):Still w (w.drewN n):=⟨n,rfl⟩
theorem Still.below {w w' : World} (h:Still w w') (B:Nat):Below B w w':=by
 obtain ⟨n,rfl⟩:=h
 exact ⟨rfl,rfl,rfl,Nat.le_refl _,fun _ _=>rfl⟩
end
section
theorem wraps_u64 (n:Int) (h₀:0≤n) (h₁:n < 2 ^ 64):IntKind.u64.wrap n=n:=by rw [IntKind.wrap_u64];omega
theorem xor_u64_0 (x:Int) (h0:0≤x) (h1:x < 18446744073709551616):bits .xor .u64 x 0=x:=by
 obtain ⟨a,rfl⟩:∃a:Nat,x=a:=⟨x.toNat,by omega⟩
 have:=bits_xor_u64_nat a 0 (by omega) (by omega)
 simpa using this
theorem xor_u64_ones (x:Int) (h0:0≤x) (h1:x < 18446744073709551616):bits .xor .u64 x 18446744073709551615=18446744073709551615 - x:=by
 obtain ⟨a,rfl⟩:∃a:Nat,x=a:=⟨x.toNat,by omega⟩
 have e:(BitVec.ofInt IntKind.u64.bits 18446744073709551615:BitVec IntKind.u64.bits)=BitVec.allOnes 64:=rfl
 have e2:((BitVec.ofInt IntKind.u64.bits (a:Int):BitVec IntKind.u64.bits) ^^^ BitVec.ofInt IntKind.u64.bits 18446744073709551615).toNat=18446744073709551615 - a:=by
  rw [e]
  show ((BitVec.ofInt 64 (a:Int)) ^^^ BitVec.allOnes 64).toNat=_
  rw [BitVec.xor_allOnes,BitVec.toNat_not,BitVec.toNat_ofInt]
  omega
 show IntKind.u64.wrap _=_
 simp only []
 rw [e2,IntKind.wrap_u64]
 omega
theorem xor_i64_0 (x:Int) (h0 : -9223372036854775808≤x) (h1:x < 9223372036854775808):bits .xor .i64 x 0=x:=by
 have e2:((BitVec.ofInt IntKind.i64.bits x:BitVec IntKind.i64.bits) ^^^ BitVec.ofInt IntKind.i64.bits 0).toNat=(x % 18446744073709551616).toNat:=by
  show ((BitVec.ofInt 64 x) ^^^ BitVec.ofInt 64 0).toNat=_
  rw [show BitVec.ofInt 64 0=0#64 from rfl,BitVec.xor_zero,BitVec.toNat_ofInt]
  rfl
 show IntKind.i64.wrap _=_
 simp only []
 rw [e2,IntKind.wrap_i64]
 omega
theorem xor_i64_ones (x:Int) (h0 : -9223372036854775808≤x) (h1:x < 9223372036854775808):bits .xor .i64 x (-1) = -1 - x:=by
 have e2:((BitVec.ofInt IntKind.i64.bits x:BitVec IntKind.i64.bits) ^^^ BitVec.ofInt IntKind.i64.bits (-1)).toNat=18446744073709551615 - (x % 18446744073709551616).toNat:=by
  show ((BitVec.ofInt 64 x) ^^^ BitVec.ofInt 64 (-1)).toNat=_
  rw [show BitVec.ofInt 64 (-1)=BitVec.allOnes 64 from rfl,BitVec.xor_allOnes,BitVec.toNat_not,BitVec.toNat_ofInt]
  rfl
 show IntKind.i64.wrap _=_
 simp only []
 rw [e2,IntKind.wrap_i64]
 omega
theorem u8_and127 (x:Int) (h₀:0≤x) (h₁:x < 256):bits .and .u8 x 127=x % 128:=bits_mask .u8 8 (by decide) wraps_u8 7 (by decide) x h₀ h₁
theorem u64_and1 (x:Int) (h₀:0≤x) (h₁:x < 18446744073709551616):bits .and .u64 x 1=x % 2:=bits_mask .u64 64 (by decide) wraps_u64 1 (by decide) x h₀ h₁
theorem bits_or_comm (k:IntKind) (x y:Int):bits .or k x y=bits .or k y x:=by
 simp only [bits,BitVec.or_comm]
theorem u8_or128' (q:Int) (h0:0≤q):bits .or .u8 (q % 256) 128=q % 128+128:=by
 obtain ⟨a,rfl⟩:∃a:Nat,q=a:=⟨q.toNat,by omega⟩
 have h:=(bits_nat .u8 8 (by decide) wraps_u8 (a % 256) 128 (by omega) (by omega)).2
 have e:(a % 256 ||| 128:Nat)=a % 128+128:=by
  have key:∀x:Fin 256,(x.val ||| 128:Nat)=x.val % 128+128:=by decide +kernel
  have:=key ⟨a % 256,by omega⟩
  simp only at this
  rw [this];omega
 rw [e] at h
 have c1:((a % 256:Nat):Int)=(a:Int) % 256:=by omega
 have c2:((128:Nat):Int)=128:=rfl
 rw [c1,c2] at h
 rw [h];omega
theorem u64_or_shift (z d:Int) (k:Nat) (hk:k≤9) (hz0:0≤z) (hz:z < 2 ^ (7 * k)) (hd0:0≤d) (hd9:d * 2 ^ (7 * k) < 18446744073709551616) :
  bits .or .u64 z (d * 2 ^ (7 * k))=z+d * 2 ^ (7 * k):=by
 have hp:(0:Int) < 2 ^ (7 * k):=Int.pow_pos (by decide)
 have hle:(2:Int) ^ (7 * k)≤9223372036854775808:=by
  have:(2:Int) ^ (7 * k)≤2 ^ 63:=by
   have h:=Nat.pow_le_pow_right (n:=2) (by decide) (show 7 * k≤63 by omega)
   exact_mod_cast h
  simpa using this
 rw [bits_or_comm,bits_join .u64 64 (by decide) wraps_u64 (7 * k) _ _ (Int.mul_nonneg hd0 (by omega)) (by simp) (by simpa using hd9) hz0 hz (by
  have:(2:Int) ^ 64=18446744073709551616:=by decide
  omega)]
 omega
def zig (n:Int):Nat:=if 0≤n then (2 * n).toNat else (-2 * n - 1).toNat
def unzig (z:Int):Int:=if z % 2=0 then z / 2 else -1 - z / 2
theorem zig_lt (n:Int) (h1 : -9223372036854775808≤n) (h2:n≤9223372036854775807):zig n < 18446744073709551616:=by unfold zig;split<;>omega
theorem unzig_zig (n:Int):unzig (zig n)=n:=by unfold unzig zig;split<;>split<;>omega
def leb (z:Nat):List Int:=if z < 128 then [(z:Int)] else ((z % 128+128:Nat):Int) :: leb (z / 128)
decreasing_by omega
theorem leb_small (z:Nat) (h:z < 128):leb z = [(z:Int)]:=by rw [leb,if_pos h]
theorem leb_big (z:Nat) (h:128≤z):leb z=((z % 128+128:Nat):Int) :: leb (z / 128):=by rw [leb,if_neg (by omega)]
theorem leb_pos (z:Nat):1≤(leb z).length:=by rw [leb];split<;>simp
theorem leb_len (k:Nat):∀z,z < 128 ^ (k+1)→(leb z).length≤k+1:=by
 induction k with
 |zero=>intro z h;rw [leb_small z (by simpa using h)];simp
 |succ k ih=>
  intro z h
  by_cases g:z < 128
  ·rw [leb_small z g];simp
  ·rw [leb_big z (by omega)]
   have:=ih (z / 128) (by rw [Nat.pow_succ] at h;exact Nat.div_lt_of_lt_mul (by omega))
   simp;omega
def intB (n:Int):List Int:=leb (zig n)
theorem leb64 (z:Nat) (h:z < 18446744073709551616):(leb z).length≤10:=leb_len 9 z (by have:128 ^ (9+1)=1180591620717411303424:=rfl;omega)
def getGo:List Int→Nat→Int→Int×Int×Int
 | [],_,_=>(0,0,10)
 |c :: r,k,z=>
  if (k=9∧1 < c)∨(0 < k∧c=0) then (0,0,11)
  else if c < 128 then (unzig (z+c % 128 * 2 ^ (7 * k)),(k:Int)+1,0)
  else getGo r (k+1) (z+c % 128 * 2 ^ (7 * k))
def getI (bs:List Int):Int×Int×Int:=getGo bs 0 0
theorem getGo_drop (bs:List Int) (k:Nat) (c z:Int) (h:bs[k]? = some c):getGo (bs.drop k) k z =
  if (k=9∧1 < c)∨(0 < k∧c=0) then (0,0,11) else if c < 128 then (unzig (z+c % 128 * 2 ^ (7 * k)),(k:Int)+1,0) else getGo (bs.drop (k+1)) (k+1) (z+c % 128 * 2 ^ (7 * k)):=by
 obtain ⟨hk,rfl⟩:=List.getElem?_eq_some_iff.1 h
 rw [List.drop_eq_getElem_cons (by omega),getGo]
theorem getGo_end (bs:List Int) (k:Nat) (z:Int) (h:bs.length≤k):getGo (bs.drop k) k z=(0,0,10):=by
 rw [List.drop_eq_nil_of_le h,getGo]
end
section
open Go.RowKit
theorem elemByte:Elem1 Tryd.prog 5 (.int .u8 0) 1:=⟨by kernel_rfl,rfl⟩
def MadeBytes (w:World) (bs:List Int) (e:Ending) (w' : World):Prop:=
 ∃v,e = .returned v∧Own w.heap.size 5 w' v (bs.map (Value.int .u8))∧Below w.heap.size w w'
def Bytes (w:World) (v:Value) (bs:List Int):Prop:=Rd w v (bs.map (Value.int .u8))
theorem Bytes.open {w:World} {v:Value} {zs:List Int} (h:Bytes w v zs):∃a cap b off,v = .slice a zs.length cap∧zs.length≤cap∧cap≤maxLen ∧
  (0 < zs.length→a=some ⟨b,off,none⟩)∧Hid (∀(j:Nat) (x:Int),zs[j]? = some x→w.cell? ⟨b,off+j,none⟩=some (.int .u8 x)):=by
 obtain ⟨a,cap,b,off,h1,h2,h3,h4,h5⟩:=h
 simp only [List.length_map] at h1 h2 h4
 exact ⟨a,cap,b,off,h1,h2,h3,h4,fun j x hx=>h5 j _ (by simp [hx])⟩
def Byte (bs:List Int):Prop:=∀(k:Nat) (c:Int),bs[k]? = some c→0≤c∧c < 256
theorem zig_walk (n:Int) (h1 : -9223372036854775808≤n) (h2:n≤9223372036854775807) :
  bits BinOp.xor IntKind.u64 (IntKind.u64.wrap (IntKind.u64.wrap n * 2)) (IntKind.u64.wrap (n / 9223372036854775808))=zig n:=by
 simp only [IntKind.wrap_u64]
 by_cases h:0≤n
 ·have e:n / 9223372036854775808 % 18446744073709551616=0:=by omega
  rw [e,xor_u64_0 _ (by omega) (by omega)];unfold zig;rw [if_pos h];omega
 ·have e:n / 9223372036854775808 % 18446744073709551616=18446744073709551615:=by omega
  rw [e,xor_u64_ones _ (by omega) (by omega)];unfold zig;rw [if_neg h];omega
set_option maxRecDepth 100000 in
set_option maxHeartbeats 400000 in
theorem wireInt (n:Int) (w:World) (h1 : -9223372036854775808≤n) (h2:n≤9223372036854775807):Calls Tryd.prog 65 #[.int .i64 n] w (MadeBytes w (intB n)):=by
 have hz:=zig_lt n h1 h2
 have hlen:=leb64 _ hz
 go_enter Tryd.func65,Tryd.ntmps65
 go_wp2
 go_loopw [3,4] (fun z o wr=>∃(q:Nat) (out:List Int),q < 18446744073709551616∧z = .int .u64 q∧out.length≤9∧Own w.heap.size 5 wr o (out.map (Value.int .u8))∧Below w.heap.size w wr∧Hid (intB n=out ++ leb q)) (fun z _ _=>(intOf z).toNat)
 case atStart=>exact ⟨zig n,[],hz,by rw [zig_walk n h1 h2],by simp,Own.nil _ _ _,Below.refl _ _,rfl⟩
 case round=>
  obtain ⟨q,out,hq,rfl,ho,hown,hb,hh⟩:=hrel
  have HB:=Hid.mk hb
  clear hb
  have hb2:=HB.out.size
  by_cases g:127 < q
  ·have H:=Hid.mk (leb_big q (by omega))
   have hl:out.length+1≤9:=by
    have e:=congrArg List.length hh.out
    rw [H.out] at e
    have:=leb_pos (q / 128)
    simp at e
    unfold intB at e
    omega
   have eor:=u8_or128' q (by omega)
   go_wp2_with (at_builtin;refine wp_push (.tmp 16) (.tmp 20) 87 _ 5 1 _ elemByte rfl rfl Tryd.underlying87 w.heap.size _ _ _ rfl hown rfl rfl (by simp [maxLen];omega) (by simp;omega) hb2 ?_;intro v' w' hown' hb')
   go_roundw
   case rel=>exact ⟨q / 128,out ++ [((q % 128+128:Nat):Int)],by omega,by go_num,by simpa using hl,by simpa using hown',HB.out.trans hb',by rw [Hid,hh.out,H.out];simp⟩
   case measure=>simp [intOf];omega
  ·have H:=Hid.mk (leb_small q (by omega))
   go_wp2_with (at_builtin;refine wp_push (.tmp 22) (.tmp 25) 87 _ 5 1 _ elemByte rfl rfl Tryd.underlying87 w.heap.size _ _ _ rfl hown rfl rfl (by simp [maxLen];omega) (by simp;omega) hb2 ?_;intro v' w' hown' hb')
   go_ret
   exact ⟨_,rfl,by rw [hh.out,H.out];simpa using hown',HB.out.trans hb'⟩
end
section
open Go.ChangeShapes Go.WideShapes Go.ChangeAt Go.RowKit
theorem own:ownKnob Tryd.prog.godebug=none:=by kernel_rfl
theorem laidOut:laidOutB Tryd.prog=true:=by kernel_rfl
theorem trodAll_below {H:Type} {enc:TypeId×Value→H} {P:Program} (hl:laidOutB P=true) {W W' : World} (hb:Below W.heap.size W W') :
  ∀(ts:List TypeId) (vs:List Value) (ds:List (DataW H)) (ps:List MemPlace),ts.all (fun t=>P.readableRec t && decide (t < P.types.size))=true→DataW.TrodAll enc P W 0 (fun _=>true) true ts vs ds ps →
   (∀x∈ps,x.block < W.heap.size)→DataW.TrodAll enc P W' 0 (fun b=>decide (b < W.heap.size)) true ts vs ds ps
 | [],[],[],ps,_,h,_=>h
 |t :: ts,v :: vs,d :: ds,ps,hr,h,hlt=>by
  obtain ⟨p,q,h1,h2,rfl⟩:=h
  simp only [List.all_cons,Bool.and_eq_true,decide_eq_true_eq] at hr
  exact ⟨p,q,Below.trod hl hr.1.1 hr.1.2 h1 hb (fun x hx=>hlt x (List.mem_append_left _ hx)),trodAll_below hl hb ts vs ds q hr.2 h2 (fun x hx=>hlt x (List.mem_append_right _ hx)),rfl⟩
 | [],[],_ :: _,_,_,h,_=>by simp [DataW.TrodAll] at h
 | [],_ :: _,_,_,_,h,_=>by simp [DataW.TrodAll] at h
 |_ :: _,[],_,_,_,h,_=>by simp [DataW.TrodAll] at h
 |_ :: _,_ :: _,[],_,_,h,_=>by simp [DataW.TrodAll] at h
theorem post_law {H:Type} {enc:TypeId×Value→H} {P:Program} (hl:laidOutB P=true) {f:Func} {s:ChangeSpec} {W W' : World} {args:Array Value} {ds:List (DataW H)} {before:List MemPlace} {tb:TypeId}
  (htb:P.underlying tb=some .bool) (hres:f.resultTypes = #[tb]) (hvars:s.vars = []) (hread:f.params.toList.all (fun t=>P.readableRec t && decide (t < P.types.size))=true)
  (hW:DataW.Whole enc P f.params.toList s.vars false W args.toList ds [] before)
  (hr:(s.fn H (ds ++ [])).results = [.lit (.bool true)]) (ha:(s.fn H (ds ++ [])).args=ds) (hv:(s.fn H (ds ++ [])).vars = [])
  (hb:Below W.heap.size W W'):s.post enc P f false true false false W args (.bool true) W':=by
 have hW':=hW
 obtain ⟨p,q,hA,hV,rfl,_,_⟩:=hW
 rw [hvars] at hV
 obtain ⟨_,rfl⟩:=trodVars_none hV
 refine ⟨ds,[],p ++ [],[],p,[],hW',?_,?_,?_,hb.frame _,fun h=>by cases h⟩
 ·rw [hr,hres]
  exact trodAll_cons_mk (shut_bool htb true) trodAll_mk0
 ·rw [ha]
  exact trodAll_below hl hb _ _ _ _ hread hA (fun x hx=>by simpa using hW'.lt x (by simp [hx]))
 ·rw [hv,hvars];rfl
end
section
open Go.RowKit
theorem wp_append {P:Program} {ops:Array Oper} {rest:List Oper} {o:Oper} {a:Act} {Q:Exit→Act→World→Prop} {w:World} (s x:Operand) (t E:TypeId) (bytes:Nat) (z:Value) (he:Elem1 P E z bytes)
  (hgd:o.guard=none) (ho:o.op = .call { callee:=.builtin .append,args := #[s,x],argTypes := #[t,t] })
  (ht:P.underlying t=some (.slice E)) (B:Nat) (v u:Value) (cs cs2:List Value) (hs:a.eval s=v) (hown:Own B E w v cs)
  (hx:a.eval x=u) (hr:Rd w u cs2) (hne:0 < cs2.length) (h1:∀c∈cs2,c.oneCell' = true)
  (h63:cs.length+cs2.length≤maxLen) (hbytes:(cs.length+cs2.length) * bytes≤140737488355328) (hB:B≤w.heap.size)
  (h:∀v' w',Own B E w' v' (cs ++ cs2)→Below B w w'→wpList P ops Q rest (a.put o.dst v') w'):wpList P ops Q (o :: rest) a w:=by
 obtain ⟨i0,hi,hz0,hz1,hz2⟩:=info_parts he.info
 obtain ⟨aa,cap,b,off,rfl,r2,r3,r4,r5⟩:=hr
 have r4':=r4 hne
 subst r4'
 refine wpList_append_own _ hgd s x t ho B E i0 z 1 bytes ht hi hz0 hz1 hz2 (by rw [he.one];rfl) (by decide) v cs.length cs hs hown ⟨b,off,none⟩ cs2.length cap cs2 hx (by simp) ?_ h1 h63 hbytes hB ?_
 ·intro j y hj
  rw [Addr.add_lit];exact r5 j y hj
 ·intro v' w' hown' hg _
  refine h v' w' (by simpa [Own] using hown') ?_
  exact (Below.refl _ _).grown hg hB (fun k hk=>(World.ownsRow.lt hown k hk).1)
def glob0:List Int := [1116352408,1899447441,3049323471,3921009573,961987163,1508970993,2453635748,2870763221,3624381080,310598401,607225278,1426881987,1925078388,2162078206,2614888103,3248222580,3835390401,4022224774,264347078,604807628,770255983,1249150122,1555081692,1996064986,2554220882,2821834349,2952996808,3210313671,3336571891,3584528711,113926993,338241895,666307205,773529912,1294757372,1396182291,1695183700,1986661051,2177026350,2456956037,2730485921,2820302411,3259730800,3345764771,3516065817,3600352804,4094571909,275423344,430227734,506948616,659060556,883997877,958139571,1322822218,1537002063,1747873779,1955562222,2024104815,2227730452,2361852424,2428436474,2756734187,3204031479,3329325298]
def globTab:List (Nat×IntKind×List Int) := [(0, .u32,glob0)]
def depO (o:Oper) (j:Nat):Bool:=o.after.any fun e=>Region.binds .any e && e.on == j
theorem getD_set (l:Array Bool) (i j:Nat) (h:i < l.size):(l.setIfInBounds i true).getD j false=(decide (j=i) || l.getD j false):=by
 simp only [Array.getD_eq_getD_getElem?,Array.getElem?_setIfInBounds]
 by_cases e:i=j
 ·subst e;simp [h]
 ·have e' : ¬j=i:=fun x=>e x.symm
  simp [e,e']
theorem mem_ready {ops:Array Oper} {listed:Array Bool} {i:Nat} (hs:listed.size=ops.size):i∈Region.ready .any ops listed↔∃o,ops[i]? = some o∧listed.getD i false=false∧∀j,depO o j=true→listed.getD j false=true:=by
 unfold Region.ready
 rw [List.mem_filter,List.mem_range]
 constructor
 ·rintro ⟨h1,h2⟩
  obtain ⟨o,ho⟩:∃o,ops[i]? = some o:=⟨ops[i],by simp [h1]⟩
  rw [ho] at h2
  simp only [Option.map_some,Option.getD_some,Bool.and_eq_true] at h2
  refine ⟨o,ho,?_,fun j hj=>?_⟩
  ·have:i < listed.size:=by omega
   have h3:=h2.1
   simp only [Array.getD_eq_getD_getElem?,Array.getElem?_eq_getElem this,Option.getD_some] at h3 ⊢
   simpa using h3
  ·unfold depO at hj
   rw [Array.any_eq_true] at hj
   obtain ⟨k,hk,hk2⟩:=hj
   simp only [Bool.and_eq_true,beq_iff_eq] at hk2
   have:=(Array.all_eq_true.1 h2.2) k hk
   rw [hk2.1,hk2.2] at this
   simpa using this
 ·rintro ⟨o,ho,h1,h2⟩
  have hi:i < ops.size:=(Array.getElem?_eq_some_iff.1 ho).1
  refine ⟨hi,?_⟩
  rw [ho]
  simp only [Option.map_some,Option.getD_some,Bool.and_eq_true]
  refine ⟨?_,?_⟩
  ·have:i < listed.size:=by omega
   simp only [Array.getD_eq_getD_getElem?,Array.getElem?_eq_getElem this,Option.getD_some] at h1 ⊢
   simp [h1]
  ·rw [Array.all_eq_true]
   intro k hk
   cases hb:Region.binds .any o.after[k]
   ·simp
   ·have:depO o o.after[k].on=true:=by
     unfold depO
     rw [Array.any_eq_true]
     exact ⟨k,hk,by simp [hb]⟩
    simpa using h2 _ this
end
section
open Go.RowKit
variable {P:Program} {ops:Array Oper} {Q:Exit→Act→World→Prop} {a0:Act} {w1:World} {R:Nat→Value→World→Prop} {le:World→World→Prop}
def unlisted (l:Array Bool):Nat:=(List.range l.size).countP fun i => !l.getD i false
theorem unlisted_set (l:Array Bool) (i:Nat) (hi:i < l.size) (h:l.getD i false=false):unlisted (l.setIfInBounds i true) < unlisted l:=by
 unfold unlisted
 rw [Array.size_setIfInBounds]
 have key:∀(r:List Nat),(r.countP fun j => !(l.setIfInBounds i true).getD j false)≤(r.countP fun j => !l.getD j false)∧(i∈r→(r.countP fun j => !(l.setIfInBounds i true).getD j false) < (r.countP fun j => !l.getD j false)):=by
  intro r
  induction r with
  |nil=>simp
  |cons x xs ih=>
   rw [List.countP_cons,List.countP_cons,getD_set _ _ _ hi]
   by_cases e:x=i
   ·subst e
    simp only [h,decide_true,Bool.true_or,Bool.not_true,Bool.not_false,if_true,Bool.false_eq_true,if_false]
    exact ⟨by omega,fun _=>by omega⟩
   ·simp only [e,decide_false,Bool.false_or]
    refine ⟨by omega,fun hm=>?_⟩
    have:=ih.2 (by simpa [Ne.symm e] using hm)
    omega
 exact (key _).2 (List.mem_range.2 hi)
theorem unlisted_zero {l:Array Bool} (h:unlisted l=0):∀i,i < l.size→l.getD i false=true:=by
 intro i hi
 unfold unlisted at h
 rw [List.countP_eq_zero] at h
 simpa using h i (List.mem_range.2 hi)
end
section
def val:List Int→Int
 | []=>0
 |d :: r=>d % 128+128 * val r
theorem pow7 (k:Nat):(2:Int) ^ (7 * (k+1))=128 * 2 ^ (7 * k):=by
 rw [show 7 * (k+1)=7 * k+7 by omega,Int.pow_add,Int.mul_comm];rfl
theorem getGo_ok:∀(l:List Int) (k:Nat) (z:Int),k≤9→0≤z→z < 2 ^ (7 * k)→(∀c∈l,0≤c∧c < 256)→(getGo l k z).2.2=0 →
  (k:Int)+1≤(getGo l k z).2.1∧(getGo l k z).2.1≤k+l.length ∧ -9223372036854775808≤(getGo l k z).1∧(getGo l k z).1≤9223372036854775807
 | [],k,z,_,_,_,_,h=>by simp [getGo] at h
 |c :: r,k,z,hk,h0,hz,hby,h=>by
  rw [getGo] at h ⊢
  by_cases g:(k=9∧1 < c)∨(0 < k∧c=0)
  ·rw [if_pos g] at h;simp at h
  ·rw [if_neg g] at h ⊢
   obtain ⟨c0,c1⟩:=hby c (by simp)
   have hp:(0:Int) < 2 ^ (7 * k):=Int.pow_pos (by decide)
   have hn:0≤c % 128 * 2 ^ (7 * k):=Int.mul_nonneg (by omega) (by omega)
   have hm:c % 128 * 2 ^ (7 * k)≤127 * 2 ^ (7 * k):=Int.mul_le_mul_of_nonneg_right (by omega) (by omega)
   by_cases g2:c < 128
   ·rw [if_pos g2] at h ⊢
    simp only at h ⊢
    have hlt:z+c % 128 * 2 ^ (7 * k) < 18446744073709551616:=by
     by_cases g9:k=9
     ·subst g9
      have hm:c % 128 * 2 ^ (7 * 9)≤1 * 2 ^ (7 * 9):=Int.mul_le_mul_of_nonneg_right (by omega) (by omega)
      have e:(2:Int) ^ (7 * 9)=9223372036854775808:=by decide
      rw [e] at *
      omega
     ·have hle:(2:Int) ^ (7 * k)≤2 ^ 56:=by
       have h:=Nat.pow_le_pow_right (n:=2) (by decide) (show 7 * k≤56 by omega)
       exact_mod_cast h
      have e:(2:Int) ^ 56=72057594037927936:=by decide
      rw [e] at hle
      omega
    have hnn:0≤z+c % 128 * 2 ^ (7 * k):=by omega
    generalize z+c % 128 * 2 ^ (7 * k)=q at *
    refine ⟨by omega,by simp;omega,?_,?_⟩<;>(unfold unzig;split<;>omega)
   ·rw [if_neg g2] at h ⊢
    have ih:=getGo_ok r (k+1) (z+c % 128 * 2 ^ (7 * k)) (by omega) (by omega) (by rw [pow7];omega) (fun d hd=>hby d (by simp [hd])) h
    simp only [List.length_cons]
    omega
theorem getI_ok (l:List Int) (hby:∀c∈l,0≤c∧c < 256) (h:(getI l).2.2=0) :
  1≤(getI l).2.1∧(getI l).2.1≤l.length ∧ -9223372036854775808≤(getI l).1∧(getI l).1≤9223372036854775807:=by
 have:=getGo_ok l 0 0 (by omega) (by omega) (by simp) hby h
 unfold getI;omega
def lenL (bs:List Int) (least:Int):Int×Int×Int:=
 if (getI bs).2.2≠0 then (0,0,(getI bs).2.2)
 else if (getI bs).1 < 0 then (0,0,11)
 else if (bs.length - (getI bs).2.1) / least < (getI bs).1 then (0,0,10)
 else ((getI bs).1,(getI bs).2.1,0)
theorem lenL_ok (bs:List Int) (least:Int) (hby:∀c∈bs,0≤c∧c < 256) (h:(lenL bs least).2.2=0) :
  0≤(lenL bs least).1∧1≤(lenL bs least).2.1∧(lenL bs least).2.1≤bs.length∧(lenL bs least).1≤(bs.length - (lenL bs least).2.1) / least:=by
 unfold lenL at *
 by_cases h1:(getI bs).2.2≠0
 ·rw [if_pos h1] at h;exact absurd h h1
 ·rw [if_neg h1] at h ⊢
  have:=getI_ok bs hby (by simpa using h1)
  by_cases h2:(getI bs).1 < 0
  ·rw [if_pos h2] at h;simp at h
  ·rw [if_neg h2] at h ⊢
   by_cases h3:(bs.length - (getI bs).2.1) / least < (getI bs).1
   ·rw [if_pos h3] at h;simp at h
   ·rw [if_neg h3] at h ⊢
    simp only
    omega
def getN:Nat→List Int→List Int×Int×Int
 |0,_=>([],0,0)
 |n+1,bs=>
  if (getI bs).2.2≠0 then ([],0,(getI bs).2.2)
  else if (getN n (bs.drop (getI bs).2.1.toNat)).2.2≠0 then ([],0,(getN n (bs.drop (getI bs).2.1.toNat)).2.2)
  else ((getI bs).1 :: (getN n (bs.drop (getI bs).2.1.toNat)).1,(getI bs).2.1+(getN n (bs.drop (getI bs).2.1.toNat)).2.1,0)
def andThen (out:List Int) (at_:Int) (s:List Int×Int×Int):List Int×Int×Int:=
 if s.2.2≠0 then ([],0,s.2.2) else (out ++ s.1,at_+s.2.1,0)
def getInts (bs:List Int):List Int×Int×Int:=
 if (lenL bs 1).2.2≠0 then ([],0,(lenL bs 1).2.2) else andThen [] (lenL bs 1).2.1 (getN (lenL bs 1).1.toNat (bs.drop (lenL bs 1).2.1.toNat))
theorem andThen_err (out:List Int) (at_:Int) (n:Nat) (bs:List Int) (r:Int×Int×Int) (hr:getI bs=r) (h:r.2.2≠0):andThen out at_ (getN (n+1) bs)=([],0,r.2.2):=by
 subst hr
 simp [andThen,getN,h]
theorem andThen_step (out:List Int) (at_:Int) (n:Nat) (bs:List Int) (r:Int×Int×Int) (hr:getI bs=r) (h:r.2.2=0) :
  andThen out at_ (getN (n+1) bs)=andThen (out ++ [r.1]) (at_+r.2.1) (getN n (bs.drop r.2.1.toNat)):=by
 subst hr
 by_cases g:(getN n (bs.drop (getI bs).2.1.toNat)).2.2=0
 ·simp [andThen,getN,h,g];omega
 ·simp [andThen,getN,h,g]
theorem andThen_done (out:List Int) (at_:Int) (bs:List Int):andThen out at_ (getN 0 bs)=(out,at_,0):=by simp [andThen,getN]
def intsB (l:List Int):List Int:=intB l.length ++ (l.map intB).flatten
theorem intB_len (n:Int) (h1 : -9223372036854775808≤n) (h2:n≤9223372036854775807):1≤(intB n).length∧(intB n).length≤10:=⟨leb_pos _,leb64 _ (zig_lt n h1 h2)⟩
theorem flat_len (l:List Int) (h:∀z∈l,-9223372036854775808≤z∧z≤9223372036854775807):((l.map intB).flatten).length≤10 * l.length:=by
 induction l with
 |nil=>simp
 |cons a r ih=>
  have h1:=intB_len a (h a (by simp)).1 (h a (by simp)).2
  have h2:=ih (fun z hz=>h z (by simp [hz]))
  simp only [List.map_cons,List.flatten_cons,List.length_append,List.length_cons]
  omega
theorem flat_take (l:List Int) (k:Nat) (a:Int) (h:l[k]? = some a):((l.take (k+1)).map intB).flatten=((l.take k).map intB).flatten ++ intB a:=by
 rw [List.take_add_one,h];simp
end
section
open Go.RowKit
theorem elemInt:Elem1 Tryd.prog 3 (.int .i64 0) 8:=⟨by kernel_rfl,rfl⟩
end
section
open Go
structure PAttr where
 name:ByteArray
 kind:Int
 n:Int
 s:ByteArray
structure PDef where
 name:ByteArray
 kind:Int
 lo:Int
 hi:Int
 words:List ByteArray
structure PSchema where
 dims:Int
 metric:Int
 defs:List PDef
structure PEntry where
 id:Int
 ver:Int
 owner:Int
 filed:Int
 frm:Int
 to:Int
 born:Int
 vec:List Int
 attrs:List PAttr
def lowI (c:Int):Bool:=decide (97≤c) && decide (c≤122)
end
end Go.Proofs.YtmeekbjhpidcgaaDoor
