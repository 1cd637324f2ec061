/- Out of: PwCut, SlicesS. -/
import Derived.Test.YtoamkpgaaanafaaGreatRows
import Derived.WalkKit
import Derived.WalkSpells
import Derived.WalkLawsBesides
import Derived.Deep.QuietTactic
import Derived.BigQuiet
import Derived.RegionTactic
import Derived.Lib.AppendZeros
import Derived.Lib.AppendStr
import Derived.Lib.Hide
import Derived.OrdersIn
import Derived.Laws.BytesString
import Derived.WideLaws
import Derived.RangeFuncRecord
import Derived.Orders
import Derived.KernelRfl
import GoSem.Step
import Derived.Laws.RangeAny
import Derived.Lib.OthersKept
import Derived.Outline
import Derived.Laws.EntriesVeiled
import Derived.StillTailTactics
import Derived.Deep.Cut
import Derived.Test.YtoamkpgaaanafaaGreatG1
import Derived.Test.YtoamkpgaaanafaaGreatG2
import Derived.Test.YtoamkpgaaanafaaGreatG3
import Derived.Test.YtoamkpgaaanafaaGreatG6
import Derived.Test.YtoamkpgaaanafaaGreatG7
import Derived.Test.YtoamkpgaaanafaaGreatG8
import Derived.Test.YtoamkpgaaanafaaGreatG9
import Derived.Test.YtoamkpgaaanafaaGreatG10
import Derived.Test.YtoamkpgaaanafaaGreatG11
import Derived.Test.YtoamkpgaaanafaaGreatG12
import Derived.Test.YtoamkpgaaanafaaGreatG13
namespace Go.Proofs.YtoamkpgaaanafaaGreat
set_option linter.unusedSimpArgs false
set_option linter.unusedVariables false
set_option linter.unnecessarySimpa false
section
open Go.RowKit
variable {P:Program} {M:Nat} {Q:Exit→PS→Prop} {σ:PS}
theorem PW.cut {α:Type} {c y:Code} (st:α→PS) (I:α→Prop) (h1:PW P M c (MidP M st I Q) σ) (h2:∀x,I x→PW P M y Q (st x)):PW P M (.seq c y) Q σ:=by
 refine PW.seq (PW.conseq h1 fun e σ' h=>?_)
 cases e with
 |normal=>
  obtain ⟨x,hx,hs⟩:=h
  exact PW.sub (h2 x hx) hs
 |_=>exact h
end
section
open Go.RowKit
theorem zeroCells_sizeS (z:Value) (n:Nat):(Builtin.zeroCells #[z] n).size=n:=by simp [Builtin.zeroCells]
set_option maxRecDepth 100000 in
theorem slicesGrowS (n:Nat) (w:World) (hn:n≤1000000000) :
  Calls Tryz.prog 193 #[.slice none 0 0, .int .i64 n] w (MadeRow 9 w []):=by
 by_cases h0:n=0
 ·subst h0
  go_enter Tryz.func193,Tryz.ntmps193
  go_wp2
  go_ret
  exact ⟨_,rfl,Own.nil _ _ _,Below.refl _ _⟩
 ·obtain ⟨i0,hi,hz0,hz1,hz2⟩:=info_parts (elemStr).info
  have hg0:decide (0 < n)=true:=by simp;omega
  have HI:=Lib.hid hi
  have HZ0:=Lib.hid hz0
  have HZ1:=Lib.hid hz1
  have HZ2:=Lib.hid hz2
  clear hi hz0 hz1 hz2
  go_enter Tryz.func193,Tryz.ntmps193
  go_wp2_with (at_builtin;refine Lib.wpList_append_run w rfl (.tmp 20) (.tmp 21) 75 3 rfl (.slice none 0 0) (.int .i64 n) rfl rfl _ _ (Lib.run_append_nil_zeros w 75 3 _ 9 i0 _ .i64 .i64 Tryz.underlying75 Tryz.underlying3 HI.out HZ0.out n (by omega) (by rw [HZ1.out];omega) (by omega) (by rw [HZ2.out];omega)) ?_)
  go_ret
  refine ⟨_,rfl,?_,(Below.refl _ _).drew.alloc (Nat.le_refl _) _⟩
  have hge:=grownCap_ge w n 0 9
  refine World.ownsRow_made w.drew _ _ (Nat.le_refl _) (grownCap_le_maxLen w n 0 _ (by unfold maxLen;omega)) ?_
  rw [Array.size_append,zeroCells_sizeS,zeroCells_sizeS]
  omega
theorem slotsS {w:World} {v:Value} {vs:List Value} (h:Rd w v vs):∃a cap b off,v = .slice a vs.length cap∧vs.length≤cap∧cap≤maxLen∧(0 < vs.length→a=some ⟨b,off,none⟩)∧Hid (∀j u,vs[j]? = some u→w.cell? ⟨b,off+j,none⟩=some u):=h
theorem flat_stepS (ls:List (List ByteArray)) (k:Nat) (l:List ByteArray) (h:ls[k]? = some l):(ls.take (k+1)).flatten=(ls.take k).flatten ++ l:=by
 rw [List.take_add_one,h];simp
theorem flat_bdS (ls:List (List ByteArray)) (k:Nat):(ls.take k).flatten.length≤ls.flatten.length:=by
 have h:ls.flatten=(ls.take k).flatten ++ (ls.drop k).flatten:=by rw [←List.flatten_append,List.take_append_drop]
 rw [h,List.length_append];omega
set_option maxRecDepth 100000 in
set_option maxHeartbeats 1000000 in
theorem slicesConcatS (v:Value) (vs:List Value) (ls:List (List ByteArray)) (w:World) (hv:Rd w v vs) (hln:vs.length=ls.length) (hvl:vs.length≤1000000)
  (hd:Hid (∀(i:Nat) (u:Value) (l:List ByteArray),vs[i]? = some u→ls[i]? = some l→Rd w u (l.map (Value.string)))) (hl:ls.flatten.length≤1000000000) :
  Calls Tryz.prog 111 #[v] w (MadeRow 9 w (ls.flatten.map (Value.string))):=by
 obtain ⟨a,cap,b,off,rfl,hcap,hm,ha,hc⟩:=slotsS hv
 clear hv
 go_enter Tryz.func111,Tryz.ntmps111
 go_wp2
 go_loop [3,11] (fun s i=>∃k:Nat,k≤vs.length∧i = .int .i64 k∧s = .int .i64 ((ls.take k).flatten.length:Nat)) (fun _ i=>vs.length - (intOf i).toNat)
 case atStart=>exact ⟨0,by omega,rfl,by simp⟩
 case round=>
  obtain ⟨k,hk,rfl,rfl⟩:=hrel
  by_cases hlt:k < vs.length
  ·obtain ⟨y,hy⟩:=ints_get vs k (by omega)
   obtain ⟨l,hl'⟩:=ints_get ls k (by omega)
   have c0:=hc.out k y hy
   obtain ⟨a2,cap2,b2,off2,rfl,-⟩:=hd.out k y l hy hl'
   rw [List.length_map] at *
   obtain rfl:=ha (by omega)
   have F:=Lib.hid (flat_stepS ls k l hl')
   have B:=flat_bdS ls (k+1)
   rw [F.out,List.length_append] at B
   clear hy hl' ha hc hd
   generalize (ls.take k).flatten=tk at *
   go_wp2
   go_round
   case rel=>exact ⟨k+1,by omega,by go_num,by rw [F.out,List.length_append];go_num⟩
   case measure=>simp [intOf];omega
  ·have e:ls.take k=ls:=List.take_of_length_le (by omega)
   rw [e]
   obtain ⟨N,hN⟩:∃N:Nat,ls.flatten.length=N:=⟨_,rfl⟩
   have HN:=Lib.hid hN
   rw [hN]
   have hl2:N≤1000000000:=by omega
   clear hN e
   go_wp2_with (go_at_call 193;refine (slicesGrowS N _ hl2).mono ?_;rintro e w1 ⟨v1,rfl,ho1,hb1⟩)
   go_loopw [6,27] (fun o i wr=>∃k:Nat,k≤vs.length∧i = .int .i64 k∧Own w.heap.size 9 wr o ((ls.take k).flatten.map (Value.string))∧Below w.heap.size w wr) (fun _ i _=>vs.length - (intOf i).toNat)
   case atStart=>exact ⟨0,by omega,rfl,by simpa using ho1,hb1⟩
   case round=>
    obtain ⟨k,hk,rfl,hown,hb⟩:=hrel
    have HB:=Hid.mk hb
    clear hb
    have hb2:=HB.out.size
    by_cases hlt:k < vs.length
    ·obtain ⟨y,hy⟩:=ints_get vs k (by omega)
     obtain ⟨l,hl'⟩:=ints_get ls k (by omega)
     have c0:=below_cell HB.out (hc.out k y hy)
     have D:=Lib.hid (Rd.below (hd.out k y l hy hl') HB.out)
     have hbl:=World.block_lt_of_cell? _ _ c0
     obtain ⟨a2,cap2,b2,off2,rfl,-⟩:=D.out
     rw [List.length_map] at *
     obtain rfl:=ha (by omega)
     have F:=Lib.hid (flat_stepS ls k l hl')
     have B:=flat_bdS ls (k+1)
     rw [F.out,List.length_append] at B
     clear hy hl' ha hc hd
     go_wp2_with (at_builtin;refine wp_appendR (.tmp 31) (.tmp 32) 75 9 16 _ (elemStr) rfl rfl Tryz.underlying75 w.heap.size _ _ _ _ rfl hown rfl D.out (fun c hc=>by obtain ⟨_,_,rfl⟩:=List.mem_map.1 hc;rfl) (by simp only [List.length_map,maxLen];omega) (by simp only [List.length_map];omega) hb2 ?_;intro v' w' hown' hb')
     go_roundw
     case rel=>exact ⟨k+1,by omega,by go_num,by rw [F.out,List.map_append];exact hown',HB.out.trans hb'⟩
     case measure=>simp [intOf];omega
    ·have e:ls.take k=ls:=List.take_of_length_le (by omega)
     rw [e] at hown
     clear hc hd ha
     go_wp2
     go_ret
     exact ⟨_,rfl,hown,HB.out⟩
theorem pc_concatS (a b:List ByteArray) (h:a.length+b.length≤1000000000):PCalls Tryz.prog 111 [.sl 2 1 [pstrs a,pstrs b] none] (· = pstrs (a ++ b)):=
 pcalls1 (by kernel_rfl) fun Φ μ w v himm hr=>by
  obtain ⟨a1,g,off,cap,us,rfl,h1,h2,h3,h4,h5,h6⟩:=hr.sl_inv
  have r0:=strs_of_rep himm (h6 0 (pstrs a) rfl)
  have r1:=strs_of_rep himm (h6 1 (pstrs b) rfl)
  have k0:=himm _ _ _ (h5 0 (by simp))
  have k1:=himm _ _ _ (h5 1 (by simp))
  have hrd:Rd w (.slice a1 2 cap) [us 0,us 1]:=⟨a1,cap,g,off,rfl,h1,h2,fun _=>h4 (by omega),fun j u hu=>by
   match j,hu with
   |0,hu=>cases hu;exact k0
   |1,hu=>cases hu;exact k1⟩
  refine (slicesConcatS _ [us 0,us 1] [a,b] w hrd rfl (by simp) (Hid.mk fun i u l hu hl=>?_) (by simp;omega)).mono ?_
  ·match i,hu,hl with
   |0,hu,hl=>cases hu;cases hl;exact r0
   |1,hu,hl=>cases hu;cases hl;exact r1
  ·rintro e w' ⟨u,rfl,ho,hb⟩
   obtain ⟨Φ',q1,q2,q3,-⟩:=own_rep himm (f:=Value.string) (fun _=>rfl) ho hb
   have e:([a,b]:List (List ByteArray)).flatten=a ++ b:=by simp
   rw [e] at q3
   exact ⟨_,u,Φ',rfl,rfl,q3.bare,q1,q2,hb,fun n k cs E' e=>by cases e⟩
end
end Go.Proofs.YtoamkpgaaanafaaGreat
