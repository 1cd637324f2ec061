/- Out of: Wire, PlainX, RegionB. -/
import Derived.Test.YtmeekbjhpidcgaaGreatDoorG6
namespace Go.Proofs.YtmeekbjhpidcgaaGreatDoor
set_option linter.unusedSimpArgs false
set_option linter.unusedVariables false
set_option linter.unnecessarySimpa false
section
open Go.RowKit
set_option maxRecDepth 100000 in
set_option maxHeartbeats 400000 in
theorem refInt (n:Int) (w:World) (h1 : -9223372036854775808≤n) (h2:n≤9223372036854775807):Calls Tryz.prog 77 #[.int .i64 n] w (MadeBytes w (intB n)):=by
 have hz:=zig_lt n h1 h2
 have hlen:=leb64 _ hz
 by_cases hn:n < 0
 all_goals
  go_enter Tryz.func77,Tryz.ntmps77
  go_wp2
  go_loopw [3,4] (fun z o wr=>∃(q:Nat) (out:List Int),q < 18446744073709551616∧z = .int .u64 q∧out.length≤9∧Own w.heap.size 5 wr o (out.map (Value.int .u8))∧Below w.heap.size w wr∧Hid (intB n=out ++ leb q)) (fun z _ _=>(intOf z).toNat)
  case atStart=>exact ⟨zig n,[],hz,by congr 1;simp only [IntKind.wrap_u64,IntKind.wrap_i64,zig];split<;>omega,by simp,Own.nil _ _ _,Below.refl _ _,rfl⟩
  case round=>
   obtain ⟨q,out,hq,rfl,ho,hown,hb,hh⟩:=hrel
   have HB:=Hid.mk hb
   clear hb
   have hb2:=HB.out.size
   by_cases g:127 < q
   ·have H:=Hid.mk (leb_big q (by omega))
    have hl:out.length+1≤9:=by
     have e:=congrArg List.length hh.out
     rw [H.out] at e
     have:=leb_pos (q / 128)
     simp at e
     unfold intB at e
     omega
    go_wp2_with (at_builtin;refine wp_push (.tmp 17) (.tmp 22) 26 _ 5 1 _ elemByte rfl rfl Tryz.underlying26 w.heap.size _ _ _ rfl hown rfl rfl (by simp [maxLen];omega) (by simp;omega) hb2 ?_;intro v' w' hown' hb')
    go_roundw
    case rel=>exact ⟨q / 128,out ++ [((q % 128+128:Nat):Int)],by omega,by go_num,by simpa using hl,by simpa using hown',HB.out.trans hb',by rw [Hid,hh.out,H.out];simp⟩
    case measure=>simp [intOf];omega
   ·have H:=Hid.mk (leb_small q (by omega))
    go_wp2_with (at_builtin;refine wp_push (.tmp 26) (.tmp 29) 26 _ 5 1 _ elemByte rfl rfl Tryz.underlying26 w.heap.size _ _ _ rfl hown rfl rfl (by simp [maxLen];omega) (by simp;omega) hb2 ?_;intro v' w' hown' hb')
    go_ret
    exact ⟨_,rfl,by rw [hh.out,H.out];simpa using hown',HB.out.trans hb'⟩
end
section
theorem val_snoc (c:Int):∀(l:List Int),val (l ++ [c])=val l+c % 128 * 2 ^ (7 * l.length)
 | []=>by simp [val]
 |d :: r=>by
  have:=val_snoc c r
  simp only [List.cons_append,val,this,List.length_cons,pow7]
  rw [Int.mul_add,←Int.mul_assoc,←Int.mul_assoc,Int.mul_comm 128 (c % 128)]
  omega
theorem val_take (bs:List Int) (k:Nat) (c:Int) (h:bs[k]? = some c):val (bs.take (k+1))=val (bs.take k)+c % 128 * 2 ^ (7 * k):=by
 obtain ⟨hk,_⟩:=List.getElem?_eq_some_iff.1 h
 rw [List.take_add_one,h,Option.toList,val_snoc,List.length_take,Nat.min_eq_left (by omega)]
theorem val_lt:∀(l:List Int),0≤val l∧val l < 2 ^ (7 * l.length)
 | []=>by simp [val]
 |d :: r=>by
  have:=val_lt r
  simp only [val,List.length_cons,pow7]
  omega
theorem val_last (l:List Int) (c:Int) (h:c % 128≤1):val (l ++ [c]) < 2 * 2 ^ (7 * l.length):=by
 rw [val_snoc]
 have h1:=val_lt l
 have hp:(0:Int) < 2 ^ (7 * l.length):=Int.pow_pos (by decide)
 have hm:c % 128 * 2 ^ (7 * l.length)≤1 * 2 ^ (7 * l.length):=Int.mul_le_mul_of_nonneg_right h (by omega)
 omega
theorem val_fits (bs:List Int) (k i:Nat) (c:Int) (h:bs[k]? = some c) (hk:k≤9) (hi:i≤k+1) (h9:k=9→c≤1) (hc:0≤c):0≤val ((bs.take (k+1)).drop i)∧val ((bs.take (k+1)).drop i) < 18446744073709551616:=by
 refine ⟨(val_lt _).1,?_⟩
 obtain ⟨hlt,_⟩:=List.getElem?_eq_some_iff.1 h
 by_cases g:k=9
 ·by_cases hik:i=k+1
  ·rw [List.drop_eq_nil_of_le (by simp;omega)];simp [val]
  ·have e:(bs.take (k+1)).drop i=(bs.take k).drop i ++ [c]:=by
    rw [List.take_add_one,h,Option.toList,List.drop_append_of_le_length (by simp;omega)]
   have hl:((bs.take k).drop i).length≤9:=by simp;omega
   rw [e]
   have h1:=val_last ((bs.take k).drop i) c (by have:=h9 g;omega)
   have hle:(2:Int) ^ (7 * ((bs.take k).drop i).length)≤2 ^ 63:=by
    have h:=Nat.pow_le_pow_right (n:=2) (by decide) (show 7 * ((bs.take k).drop i).length≤63 by omega)
    exact_mod_cast h
   have e2:(2:Int) ^ 63=9223372036854775808:=by decide
   omega
 ·have h1:=(val_lt ((bs.take (k+1)).drop i)).2
  have hl:((bs.take (k+1)).drop i).length≤9:=by simp;omega
  have hle:(2:Int) ^ (7 * ((bs.take (k+1)).drop i).length)≤2 ^ 63:=by
   have h:=Nat.pow_le_pow_right (n:=2) (by decide) (show 7 * ((bs.take (k+1)).drop i).length≤63 by omega)
   exact_mod_cast h
  have e2:(2:Int) ^ 63=9223372036854775808:=by decide
  omega
theorem val_step (bs:List Int) (k i:Nat) (c:Int) (hi:i≤k) (h:bs[i]? = some c):val ((bs.take (k+1)).drop i)=c % 128+128 * val ((bs.take (k+1)).drop (i+1)):=by
 obtain ⟨hlt,e⟩:=List.getElem?_eq_some_iff.1 h
 rw [List.drop_eq_getElem_cons (by simp;omega),val]
 simp [e]
theorem getI_lead (bs:List Int):∀k,k≤9→(∀(j:Nat) (c:Int),j < k→bs[j]? = some c→128≤c)→k≤bs.length→getI bs=getGo (bs.drop k) k (val (bs.take k))
 |0,_,_,_=>rfl
 |k+1,hk,hall,hl=>by
  obtain ⟨c,hc⟩:∃c,bs[k]? = some c:=⟨bs[k],by simp⟩
  have h1:=hall k c (by omega) hc
  rw [getI_lead bs k (by omega) (fun j d hj=>hall j d (by omega)) (by omega),getGo_drop bs k c _ hc,if_neg (by omega),if_neg (by omega),val_take bs k c hc]
theorem getI_ten (bs:List Int) (hall:∀(j:Nat) (c:Int),j < 10→bs[j]? = some c→128≤c) (hl:10≤bs.length):getI bs=(0,0,11):=by
 obtain ⟨c,hc⟩:∃c,bs[9]? = some c:=⟨bs[9],by simp⟩
 rw [getI_lead bs 9 (by omega) (fun j d hj=>hall j d (by omega)) (by omega),getGo_drop bs 9 c _ hc,if_pos]
 left;have:=hall 9 c (by omega) hc;omega
theorem getI_short (bs:List Int) (k:Nat) (hk:k≤9) (hall:∀(j:Nat) (c:Int),j < k→bs[j]? = some c→128≤c) (hl:bs.length=k):getI bs=(0,0,10):=by
 rw [getI_lead bs k hk hall (by omega),getGo_end _ _ _ (by omega)]
theorem getI_bad (bs:List Int) (k:Nat) (c:Int) (hk:k≤9) (hall:∀(j:Nat) (c:Int),j < k→bs[j]? = some c→128≤c) (hc:bs[k]? = some c) (h:(k=9∧1 < c)∨(0 < k∧c=0)):getI bs=(0,0,11):=by
 obtain ⟨hlt,_⟩:=List.getElem?_eq_some_iff.1 hc
 rw [getI_lead bs k hk hall (by omega),getGo_drop bs k c _ hc,if_pos h]
theorem getI_good (bs:List Int) (k:Nat) (c:Int) (hk:k≤9) (hall:∀(j:Nat) (c:Int),j < k→bs[j]? = some c→128≤c) (hc:bs[k]? = some c) (h:¬((k=9∧1 < c)∨(0 < k∧c=0))) (h1:c < 128) :
  getI bs=(unzig (val (bs.take (k+1))),(k:Int)+1,0):=by
 obtain ⟨hlt,_⟩:=List.getElem?_eq_some_iff.1 hc
 rw [getI_lead bs k hk hall (by omega),getGo_drop bs k c _ hc,if_neg h,if_pos h1,val_take bs k c hc]
end
section
open Go.RowKit
def Spec.is (x:Value):Spec:=⟨fun v _=>v=x,fun _ _ _ h _=>h⟩
end
end Go.Proofs.YtmeekbjhpidcgaaGreatDoor
