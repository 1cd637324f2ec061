/- Out of: Ut2. -/
import Derived.Test.YtmeekbjhpidcgaaDoorG30
import Derived.Test.YtmeekbjhpidcgaaDoorG47
namespace Go.Proofs.YtmeekbjhpidcgaaDoor
set_option linter.unusedSimpArgs false
set_option linter.unusedVariables false
set_option linter.unnecessarySimpa false
section
open Go.RowKit
theorem newD_readsAt {n at_ s:Nat} (h:at_+s * 256 < n):readT (newD n) at_ s=none:=by
 refine readT_none (.inr ?_)
 have hr:=(newD_ok n).read (q:=((at_+s * 256:Nat):Int)) (by omega) (by omega)
 unfold secD
 rw [hr]
 have hg:(newD n).get ((at_+s * 256:Nat):Int) = []:=by rw [get_find];rfl
 have hc:(newD n).cell ((at_+s * 256:Nat):Int)=⟨zeroSec,false⟩:=by
  unfold DM.cell newD
  simp only [List.getD_eq_getElem?_getD]
  rw [List.getElem?_replicate,if_pos (by omega)]
  rfl
 rw [hg,hc]
 rfl
set_option maxRecDepth 10000 in
set_option maxHeartbeats 1000000 in
theorem dc_OpenE (D:DM) (z:Int) (h:D.cells.length≤1000000000) (ha:z < 0∨(D.cells.length:Int) < z∨(D.cells.length:Int) < z+1024):DCalls 6 [pint z] D (.tup [.val (.pointer none),pint 1]) D:=by
 have c1:=dC_low D
 have c2:=dM_low D
 have hsz:=dc_Size D 1000001 1000002 1000003 (by decide)
 refine dcalls_of_pw Tryd.func6 rfl rfl (by intro p hp;rcases List.mem_cons.1 hp with rfl|hp;exact .val _;cases hp) (by simp [pint,PV.ownB]) (Nat.le_of_ble_eq_true rfl) (low_tup.2 (by intro x hx;simp only [List.mem_cons,List.not_mem_nil,or_false] at hx;rcases hx with rfl|rfl<;>exact .val _)) ?_
 by_cases h1:z < 0
 ·refine wk ?_
  exact RetH.mk rfl (Weak.refl _) ⟨⟨_,rfl,WeakL.refl _⟩,⟨_,rfl,WeakL.refl _⟩,trivial⟩ ⟨⟨rfl,rfl⟩,trivial⟩
 by_cases h2:(D.cells.length:Int) < z
 ·refine wk ?_
  exact RetH.mk rfl (Weak.refl _) ⟨⟨_,rfl,WeakL.refl _⟩,⟨_,rfl,WeakL.refl _⟩,trivial⟩ ⟨⟨rfl,rfl⟩,trivial⟩
 refine wk ?_
 exact RetH.mk rfl (Weak.refl _) ⟨⟨_,rfl,WeakL.refl _⟩,⟨_,rfl,WeakL.refl _⟩,trivial⟩ ⟨⟨rfl,rfl⟩,trivial⟩
set_option maxRecDepth 10000 in
set_option maxHeartbeats 4000000 in
theorem pw_lOpens (sc z:Int) (m:PMan) (hs:0≤sc∧sc < 256) (hz:Fit64 z) (hd:DigsOK m) (hl1:m.notes.length≤1000000000000000) (hl2:m.refs.length≤1000000000000000) :
  PCalls Tryd.prog 3 [pbyte sc,pint z,pman m] (· = pbool true):=by
 have hsan:=pw_sanity32
 have hfew:=pw_few32 m hl1 hl2
 have hlm:=low_pmanL m
 refine pcalls_of_pw typeTab_ok Tryd.func3 rfl (by kernel_rfl) (by intro p hp;simp only [List.mem_cons,List.not_mem_nil,or_false] at hp;rcases hp with rfl|rfl|rfl;exact .val _;exact .val _;exact (low_pman m).2 trivial) (by simp [pman,pbyte,pint,PV.ownB]) (Nat.le_of_ble_eq_true rfl) ?_
 by_cases g1:few32C m=true
 case neg=>
  rw [show few32C m=false by simpa using g1] at hfew
  refine wk ?_
  exact retP rfl (.val _) rfl
 rw [g1] at hfew
 unfold few32C at g1
 simp only [Bool.and_eq_true,Bool.or_eq_true,decide_eq_true_eq] at g1
 obtain ⟨n,hn⟩:∃n:Nat,(n:Int)=1000+sc % 101:=⟨(1000+sc % 101).toNat,by omega⟩
 have hnl:(newD n).cells.length=n:=by simp [newD]
 have hnn:n≤1100∧1000≤n:=by omega
 have kN:=dc_New n (by omega) 900001 900002 900003 (by decide)
 rw [Int.toNat_natCast,hn] at kN
 by_cases g2:z < 0∨(n:Int) < z∨(n:Int) < z+1024
 ·have kO:=dc_OpenE (newD n) z (by omega) (by rw [hnl];omega) 900001 900002 900003 (by decide)
  have z3:=dC_low (newD n)
  have z4:=dM_low (newD n)
  generalize newD n=D at *
  clear hnl
  rw [hn] at g2
  by_cases h1:z < 0
  ·refine wk ?_
   exact retP rfl (.val _) rfl
  by_cases h2:1000+sc % 101 < z
  ·refine wk ?_
   exact retP rfl (.val _) rfl
  refine wk ?_
  exact retP rfl (.val _) rfl
 obtain ⟨a,ha⟩:∃a:Nat,(a:Int)=z:=⟨z.toNat,by omega⟩
 have kO:=tc_Open (newD n) a (by omega) rfl (by omega) rfl 900004 900001 900002 900003 (by decide)
 rw [show bestM (readT (newD n) a)=zeroM from best_zero (fun k hk=>newD_readsAt (by omega)),ha] at kO
 have kNow0:=tc_Now (t:=900004) (d:=900001) (c:=900002) (m':=900003) (by decide) (newD n) a zeroM ⟨by decide,by decide⟩
 have kC0:=tc_Copies0 (t:=900004) (d:=900001) (c:=900002) (m':=900003) (by decide) (newD n) a zeroM rfl rfl rfl
 have kRC:=pw_rCheck ⟨1,m.notes,m.refs⟩ (by simp only;omega) (by simp only;omega)
 have z3:=dC_low (newD n)
 have z4:=dM_low (newD n)
 by_cases hc:checkM 2 3 ⟨1,m.notes,m.refs⟩=0
 ·obtain ⟨e1,e2,-⟩:=okM (m:=⟨1,m.notes,m.refs⟩) hc hd
  obtain ⟨k1,-⟩:=slotM_ok (m:=⟨1,m.notes,m.refs⟩) hc hd
  have kT:=tc_Turn (t:=900004) (d:=900001) (c:=900002) (m':=900003) (by decide) (newD_ok n) a zeroM ⟨1,m.notes,m.refs⟩ (by omega) (by omega) (by omega) rfl (by decide) hc e1 k1 e2
  have kNow1:=tc_Now (t:=900004) (d:=900001) (c:=900002) (m':=900003) (by decide) ((newD n).turn a ⟨1,m.notes,m.refs⟩) a ⟨1,m.notes,m.refs⟩ e2
  have kS:=pw_same ⟨1,m.notes,m.refs⟩ ⟨1,m.notes,m.refs⟩ (by simp only;omega) (by simp only;omega) (fun r hr=>(hd r hr).1) (fun r hr=>(hd r hr).1)
  rw [decide_eq_true rfl] at kS
  rw [hc] at kRC
  clear e1 e2 k1 hc
  generalize (newD n).turn a ⟨1,m.notes,m.refs⟩=D1 at *
  generalize newD n=D at *
  have kNow1u:=fun _:Unit=>kNow1
  clear kNow1 hd
  have kTu:=fun _:Unit=>kT
  clear kT
  refine wk ?_
  have kT:=kTu ()
  have kNow1:=kNow1u ()
  clear kNow0
  refine wg ?_
  refine PW.region typeTab_ok (by kernel_rfl) ?_
  refine wg ?_
  refine PW.drawF (fun i id=>Nat.beq i 8 && Nat.beq id 0) typeTab_ok (by kernel_rfl) (by kernel_rfl) (by kernel_rfl) ?_
  refine wk ?_
  exact retP rfl (.val _) rfl
 ·have kT:=tc_TurnE (t:=900004) (d:=900001) (c:=900002) (m':=900003) (by decide) (newD n) a zeroM ⟨1,m.notes,m.refs⟩ rfl (by decide) hc ⟨by simp only;omega,by simp only;omega⟩
  have hcp:checkM 2 3 ⟨1,m.notes,m.refs⟩=2∨checkM 2 3 ⟨1,m.notes,m.refs⟩=3:=by
   unfold checkM at hc ⊢
   split at hc
   ·rename_i h;rw [if_pos h];exact .inl rfl
   ·rename_i h;rw [if_neg h]
    split at hc
    ·exact absurd rfl hc
    ·rename_i h2;rw [if_neg h2];exact .inr rfl
  generalize checkM 2 3 ⟨1,m.notes,m.refs⟩=y at *
  generalize newD n=D at *
  clear hd
  have e1:(y == y)=true:=by simp
  refine wk ?_
  exact retP rfl (.val _) rfl
end
end Go.Proofs.YtmeekbjhpidcgaaDoor
