/- Merged: Slices, PwS, Tab, PwU, PwV, PwW, PwX, PwY. -/
import Derived.Lib.Hide
import Derived.KernelRfl
import Derived.Test.YtoamkpgaaanafaaGreatS1
import Derived.Test.YtoamkpgaaanafaaGreatS6
import Derived.Test.YtoamkpgaaanafaaGreatS7
import Derived.Test.YtoamkpgaaanafaaGreatS8
import Derived.Test.YtoamkpgaaanafaaGreatS10
/- The walks of slices.Grow, Concat. -/
namespace Go.Proofs.YtoamkpgaaanafaaGreat
set_option linter.unusedSimpArgs false
set_option linter.unusedVariables false
set_option linter.unnecessarySimpa false
open Go.RowKit
end Go.Proofs.YtoamkpgaaanafaaGreat

/- Walks: slices.Clone of ints. -/
namespace Go.Proofs.YtoamkpgaaanafaaGreat
set_option linter.unusedSimpArgs false
set_option linter.unusedVariables false
set_option linter.unnecessarySimpa false
open Go.RowKit
set_option maxRecDepth 100000 in
set_option maxHeartbeats 1000000 in
theorem slicesCloneI (v:Value) (zs:List Int) (w:World) (hv:Ints w v zs) (hl:zs.length≤1000000000):Calls Tryz.prog 137 #[v] w (MadeInts 3 w zs):=by
 have HV:=Lib.hid hv
 obtain ⟨a,cap,b,off,rfl,hcap,hm,ha,hc⟩:=hv.open
 clear hv hc
 cases a with
 |none=>
  have hz:zs = []:=List.eq_nil_of_length_eq_zero (by
   rcases Nat.eq_zero_or_pos zs.length with h|h
   ·exact h
   ·have:=ha h;cases this)
  subst hz
  clear ha
  have he:=fun (w:World)=>Lib.run_eql_slice_nil (P:=Tryz.prog) w 27 3 none 0 cap 0 0 (by kernel_rfl)
  go_enter Tryz.func137,Tryz.ntmps137
  simp only [Option.isNone_none] at he
  go_wp2
  go_ret
  exact ⟨_,rfl,Own.nil _ _ _,Below.refl _ _⟩
 |some ad=>
  clear ha
  have he:=fun (w:World)=>Lib.run_eql_slice_nil (P:=Tryz.prog) w 27 3 (some ad) zs.length cap 0 0 (by kernel_rfl)
  go_enter Tryz.func137,Tryz.ntmps137
  simp only [Option.isNone_some] at he
  have h0:=Lib.hid (show Own w.heap.size 3 (w.alloc (.cells #[] 3)) (.slice (some ⟨w.heap.size,0,none⟩) 0 0) [] from Own.lit w [] 3 w.heap.size (Nat.le_refl _) (by simp [maxLen]))
  have h1:=Lib.hid (show Rd (w.alloc (.cells #[] 3)) (.slice (some ad) zs.length cap) (zs.map (Value.int .i64)) from HV.out.below ((Below.refl _ _).alloc (Nat.le_refl _) _))
  go_wp2_with (at_builtin;refine wp_appendR _ _ 27 3 8 _ elemInt rfl rfl (by kernel_rfl) w.heap.size _ _ [] (zs.map (Value.int .i64)) rfl h0.out rfl h1.out (by intro c hc;obtain ⟨z,-,rfl⟩:=List.mem_map.1 hc;rfl) (by simp [maxLen];omega) (by simp;omega) (by simp) ?_;intro v' w' ho hb)
  go_ret
  exact ⟨_,rfl,by simpa using ho,((Below.refl _ _).alloc (Nat.le_refl _) _).trans hb⟩
end Go.Proofs.YtoamkpgaaanafaaGreat

/- The table of the program's types, as far as it matters. -/
namespace Go.Proofs.YtoamkpgaaanafaaGreat
open Go.RowKit
set_option linter.unusedSimpArgs false
def typeTab : Tab := [
 none,
 some { size:=1,agg:=false,kind:=.func,zero := [.val .nilFunc],eqs := [] },
 some { size:=1,agg:=false,kind:=.int .i64,zero := [.val (.int .i64 0)],eqs := [] },
 some { size:=1,agg:=false,kind:=.int .i64,zero := [.val (.int .i64 0)],eqs := [] },
 some { size:=1,agg:=false,kind:=.bool,zero := [.val (.bool false)],eqs := [] },
 some { size:=1,agg:=false,kind:=.int .u8,zero := [.val (.int .u8 0)],eqs := [] },
 some { size:=1,agg:=false,kind:=.int .u8,zero := [.val (.int .u8 0)],eqs := [] },
 some { size:=4,agg:=true,kind:=.struct [(0,1,false),(1,1,false),(2,1,false),(3,1,false)],zero := [.val (.int .i64 0), .val (.int .i64 0), .val (.bool false), .val (.int .u8 0)],eqs := [.int, .int, .bool, .int] },
 some { size:=4,agg:=true,kind:=.struct [(0,1,false),(1,1,false),(2,1,false),(3,1,false)],zero := [.val (.int .i64 0), .val (.int .i64 0), .val (.bool false), .val (.int .u8 0)],eqs := [.int, .int, .bool, .int] },
 some { size:=1,agg:=false,kind:=.str,zero := [.val (.string { data:={ toList := [] } })],eqs := [] },
 some { size:=1,agg:=false,kind:=.str,zero := [.val (.string { data:={ toList := [] } })],eqs := [] },
 some { size:=1,agg:=false,kind:=.str,zero := [.val (.string { data:={ toList := [] } })],eqs := [] },
 some { size:=1,agg:=false,kind:=.int .u64,zero := [.val (.int .u64 0)],eqs := [] },
 some { size:=2,agg:=true,kind:=.struct [(0,1,false),(1,1,false)],zero := [.val (.string { data:={ toList := [] } }), .val (.int .u64 0)],eqs := [] },
 some { size:=2,agg:=true,kind:=.struct [(0,1,false),(1,1,false)],zero := [.val (.string { data:={ toList := [] } }), .val (.int .u64 0)],eqs := [] },
 some { size:=1,agg:=false,kind:=.ptr,zero := [.val (.pointer none)],eqs := [] },
 some { size:=1,agg:=false,kind:=.ptr,zero := [.val (.pointer none)],eqs := [] },
 some { size:=1,agg:=false,kind:=.ptr,zero := [.val (.pointer none)],eqs := [] },
 some { size:=1,agg:=true,kind:=.struct [(0,1,false)],zero := [.val (.pointer none)],eqs := [] },
 some { size:=1,agg:=true,kind:=.struct [(0,1,false)],zero := [.val (.pointer none)],eqs := [] },
 some { size:=1,agg:=false,kind:=.other,zero := [.val .nilIface],eqs := [] },
 some { size:=1,agg:=false,kind:=.int .i32,zero := [.val (.int .i32 0)],eqs := [] },
 some { size:=1,agg:=false,kind:=.slice 77 5 64 [.val (.string { data:={ toList := [] } }), .val (.int .i64 0), .val (.int .i64 0), .val (.int .i64 0), .nilsl],zero := [.nilsl],eqs := [] },
 some { size:=3,agg:=true,kind:=.struct [(0,1,false),(1,1,false),(2,1,false)],zero := [.val (.int .i64 0), .val (.int .i64 0), .nilsl],eqs := [] },
 some { size:=3,agg:=true,kind:=.struct [(0,1,false),(1,1,false),(2,1,false)],zero := [.val (.int .i64 0), .val (.int .i64 0), .nilsl],eqs := [] },
 some { size:=1,agg:=false,kind:=.slice 27 1 24 [.nilsl],zero := [.nilsl],eqs := [] },
 some { size:=1,agg:=false,kind:=.slice 50 9 104 [.val (.int .i64 0), .val (.int .i64 0), .val (.int .i64 0), .val (.int .i64 0), .val (.int .i64 0), .val (.int .i64 0), .val (.int .i64 0), .nilsl, .nilsl],zero := [.nilsl],eqs := [] },
 some { size:=1,agg:=false,kind:=.slice 3 1 8 [.val (.int .i64 0)],zero := [.nilsl],eqs := [] },
 some { size:=2,agg:=true,kind:=.struct [(0,1,false),(1,1,false)],zero := [.nilsl, .nilsl],eqs := [] },
 some { size:=2,agg:=true,kind:=.struct [(0,1,false),(1,1,false)],zero := [.nilsl, .nilsl],eqs := [] },
 some { size:=1,agg:=false,kind:=.slice 119 2 16 [.val (.int .i64 0), .val (.int .i64 0)],zero := [.nilsl],eqs := [] },
 some { size:=1,agg:=false,kind:=.slice 100 4 48 [.val (.int .i64 0), .val (.int .i64 0), .val (.int .i64 0), .nilsl],zero := [.nilsl],eqs := [] },
 some { size:=10,agg:=true,kind:=.struct [(0,1,false),(1,2,true),(3,1,false),(4,1,false),(5,1,false),(6,1,false),(7,1,false),(8,1,false),(9,1,false)],zero := [.val (.int .i64 0), .nilsl, .nilsl, .nilsl, .val (.int .i64 0), .val (.int .i64 0), .val (.int .i64 0), .val (.int .i64 0), .val (.int .i64 0), .nilsl],eqs := [] },
 some { size:=10,agg:=true,kind:=.struct [(0,1,false),(1,2,true),(3,1,false),(4,1,false),(5,1,false),(6,1,false),(7,1,false),(8,1,false),(9,1,false)],zero := [.val (.int .i64 0), .nilsl, .nilsl, .nilsl, .val (.int .i64 0), .val (.int .i64 0), .val (.int .i64 0), .val (.int .i64 0), .val (.int .i64 0), .nilsl],eqs := [] },
 some { size:=1,agg:=false,kind:=.func,zero := [.val .nilFunc],eqs := [] },
 some { size:=1,agg:=false,kind:=.func,zero := [.val .nilFunc],eqs := [] },
 some { size:=1,agg:=false,kind:=.func,zero := [.val .nilFunc],eqs := [] },
 some { size:=1,agg:=false,kind:=.func,zero := [.val .nilFunc],eqs := [] },
 some { size:=1,agg:=false,kind:=.int .i64,zero := [.val (.int .i64 0)],eqs := [] },
 none,
 some { size:=1,agg:=false,kind:=.func,zero := [.val .nilFunc],eqs := [] },
 some { size:=11,agg:=true,kind:=.struct [(0,10,true),(10,1,false)],zero := [.val (.int .i64 0), .nilsl, .nilsl, .nilsl, .val (.int .i64 0), .val (.int .i64 0), .val (.int .i64 0), .val (.int .i64 0), .val (.int .i64 0), .nilsl, .val (.int .i64 0)],eqs := [] },
 some { size:=11,agg:=true,kind:=.struct [(0,10,true),(10,1,false)],zero := [.val (.int .i64 0), .nilsl, .nilsl, .nilsl, .val (.int .i64 0), .val (.int .i64 0), .val (.int .i64 0), .val (.int .i64 0), .val (.int .i64 0), .nilsl, .val (.int .i64 0)],eqs := [] },
 some { size:=1,agg:=false,kind:=.func,zero := [.val .nilFunc],eqs := [] },
 some { size:=1,agg:=false,kind:=.func,zero := [.val .nilFunc],eqs := [] },
 some { size:=1,agg:=false,kind:=.func,zero := [.val .nilFunc],eqs := [] },
 some { size:=1,agg:=false,kind:=.func,zero := [.val .nilFunc],eqs := [] },
 some { size:=1,agg:=false,kind:=.func,zero := [.val .nilFunc],eqs := [] },
 some { size:=1,agg:=false,kind:=.slice 79 4 48 [.val (.string { data:={ toList := [] } }), .val (.int .i64 0), .val (.int .i64 0), .val (.string { data:={ toList := [] } })],zero := [.nilsl],eqs := [] },
 some { size:=9,agg:=true,kind:=.struct [(0,1,false),(1,1,false),(2,1,false),(3,1,false),(4,1,false),(5,1,false),(6,1,false),(7,1,false),(8,1,false)],zero := [.val (.int .i64 0), .val (.int .i64 0), .val (.int .i64 0), .val (.int .i64 0), .val (.int .i64 0), .val (.int .i64 0), .val (.int .i64 0), .nilsl, .nilsl],eqs := [] },
 some { size:=9,agg:=true,kind:=.struct [(0,1,false),(1,1,false),(2,1,false),(3,1,false),(4,1,false),(5,1,false),(6,1,false),(7,1,false),(8,1,false)],zero := [.val (.int .i64 0), .val (.int .i64 0), .val (.int .i64 0), .val (.int .i64 0), .val (.int .i64 0), .val (.int .i64 0), .val (.int .i64 0), .nilsl, .nilsl],eqs := [] },
 some { size:=1,agg:=false,kind:=.func,zero := [.val .nilFunc],eqs := [] },
 some { size:=1,agg:=false,kind:=.slice 54 6 80 [.val (.int .i64 0), .val (.string { data:={ toList := [] } }), .val (.int .i64 0), .val (.int .i64 0), .val (.string { data:={ toList := [] } }), .nilsl],zero := [.nilsl],eqs := [] },
 some { size:=6,agg:=true,kind:=.struct [(0,1,false),(1,1,false),(2,1,false),(3,1,false),(4,1,false),(5,1,false)],zero := [.val (.int .i64 0), .val (.string { data:={ toList := [] } }), .val (.int .i64 0), .val (.int .i64 0), .val (.string { data:={ toList := [] } }), .nilsl],eqs := [] },
 some { size:=6,agg:=true,kind:=.struct [(0,1,false),(1,1,false),(2,1,false),(3,1,false),(4,1,false),(5,1,false)],zero := [.val (.int .i64 0), .val (.string { data:={ toList := [] } }), .val (.int .i64 0), .val (.int .i64 0), .val (.string { data:={ toList := [] } }), .nilsl],eqs := [] },
 some { size:=2,agg:=true,kind:=.struct [(0,1,false),(1,1,false)],zero := [.val (.int .i64 0), .val (.int .i64 0)],eqs := [.int, .int] },
 some { size:=2,agg:=true,kind:=.struct [(0,1,false),(1,1,false)],zero := [.val (.int .i64 0), .val (.int .i64 0)],eqs := [.int, .int] },
 none,
 some { size:=1,agg:=false,kind:=.func,zero := [.val .nilFunc],eqs := [] },
 some { size:=2,agg:=true,kind:=.struct [(0,1,false),(1,1,false)],zero := [.val (.int .i64 0), .val (.int .i64 0)],eqs := [.int, .int] },
 some { size:=2,agg:=true,kind:=.struct [(0,1,false),(1,1,false)],zero := [.val (.int .i64 0), .val (.int .i64 0)],eqs := [.int, .int] },
 some { size:=1,agg:=false,kind:=.func,zero := [.val .nilFunc],eqs := [] },
 some { size:=1,agg:=false,kind:=.func,zero := [.val .nilFunc],eqs := [] },
 some { size:=1,agg:=false,kind:=.func,zero := [.val .nilFunc],eqs := [] },
 some { size:=1,agg:=false,kind:=.func,zero := [.val .nilFunc],eqs := [] },
 none,
 some { size:=1,agg:=false,kind:=.func,zero := [.val .nilFunc],eqs := [] },
 some { size:=2,agg:=true,kind:=.struct [(0,1,false),(1,1,false)],zero := [.val (.bool false), .val (.bool false)],eqs := [.bool, .bool] },
 some { size:=2,agg:=true,kind:=.struct [(0,1,false),(1,1,false)],zero := [.val (.bool false), .val (.bool false)],eqs := [.bool, .bool] },
 some { size:=1,agg:=false,kind:=.func,zero := [.val .nilFunc],eqs := [] },
 some { size:=1,agg:=false,kind:=.func,zero := [.val .nilFunc],eqs := [] },
 some { size:=1,agg:=false,kind:=.func,zero := [.val .nilFunc],eqs := [] },
 some { size:=1,agg:=false,kind:=.func,zero := [.val .nilFunc],eqs := [] },
 some { size:=1,agg:=false,kind:=.func,zero := [.val .nilFunc],eqs := [] },
 some { size:=1,agg:=false,kind:=.func,zero := [.val .nilFunc],eqs := [] },
 some { size:=1,agg:=false,kind:=.slice 9 1 16 [.val (.string { data:={ toList := [] } })],zero := [.nilsl],eqs := [] },
 some { size:=5,agg:=true,kind:=.struct [(0,1,false),(1,1,false),(2,1,false),(3,1,false),(4,1,false)],zero := [.val (.string { data:={ toList := [] } }), .val (.int .i64 0), .val (.int .i64 0), .val (.int .i64 0), .nilsl],eqs := [] },
 some { size:=5,agg:=true,kind:=.struct [(0,1,false),(1,1,false),(2,1,false),(3,1,false),(4,1,false)],zero := [.val (.string { data:={ toList := [] } }), .val (.int .i64 0), .val (.int .i64 0), .val (.int .i64 0), .nilsl],eqs := [] },
 some { size:=4,agg:=true,kind:=.struct [(0,1,false),(1,1,false),(2,1,false),(3,1,false)],zero := [.val (.string { data:={ toList := [] } }), .val (.int .i64 0), .val (.int .i64 0), .val (.string { data:={ toList := [] } })],eqs := [.str, .int, .int, .str] },
 some { size:=4,agg:=true,kind:=.struct [(0,1,false),(1,1,false),(2,1,false),(3,1,false)],zero := [.val (.string { data:={ toList := [] } }), .val (.int .i64 0), .val (.int .i64 0), .val (.string { data:={ toList := [] } })],eqs := [.str, .int, .int, .str] },
 none,
 some { size:=1,agg:=false,kind:=.func,zero := [.val .nilFunc],eqs := [] },
 some { size:=1,agg:=false,kind:=.func,zero := [.val .nilFunc],eqs := [] },
 some { size:=1,agg:=false,kind:=.func,zero := [.val .nilFunc],eqs := [] },
 some { size:=1,agg:=false,kind:=.func,zero := [.val .nilFunc],eqs := [] },
 some { size:=1,agg:=false,kind:=.int .u32,zero := [.val (.int .u32 0)],eqs := [] },
 some { size:=1,agg:=false,kind:=.func,zero := [.val .nilFunc],eqs := [] },
 some { size:=1,agg:=false,kind:=.func,zero := [.val .nilFunc],eqs := [] },
 some { size:=1,agg:=false,kind:=.func,zero := [.val .nilFunc],eqs := [] },
 some { size:=1,agg:=false,kind:=.func,zero := [.val .nilFunc],eqs := [] },
 some { size:=1,agg:=false,kind:=.func,zero := [.val .nilFunc],eqs := [] },
 some { size:=1,agg:=false,kind:=.func,zero := [.val .nilFunc],eqs := [] },
 some { size:=1,agg:=false,kind:=.slice 5 1 1 [.val (.int .u8 0)],zero := [.nilsl],eqs := [] },
 some { size:=1,agg:=false,kind:=.func,zero := [.val .nilFunc],eqs := [] },
 some { size:=1,agg:=false,kind:=.func,zero := [.val .nilFunc],eqs := [] },
 some { size:=1,agg:=false,kind:=.func,zero := [.val .nilFunc],eqs := [] },
 some { size:=1,agg:=false,kind:=.func,zero := [.val .nilFunc],eqs := [] },
 some { size:=1,agg:=false,kind:=.func,zero := [.val .nilFunc],eqs := [] },
 some { size:=1,agg:=false,kind:=.func,zero := [.val .nilFunc],eqs := [] },
 some { size:=4,agg:=true,kind:=.struct [(0,1,false),(1,1,false),(2,1,false),(3,1,false)],zero := [.val (.int .i64 0), .val (.int .i64 0), .val (.int .i64 0), .nilsl],eqs := [] },
 some { size:=4,agg:=true,kind:=.struct [(0,1,false),(1,1,false),(2,1,false),(3,1,false)],zero := [.val (.int .i64 0), .val (.int .i64 0), .val (.int .i64 0), .nilsl],eqs := [] },
 none,
 some { size:=1,agg:=false,kind:=.func,zero := [.val .nilFunc],eqs := [] },
 some { size:=1,agg:=false,kind:=.func,zero := [.val .nilFunc],eqs := [] },
 some { size:=1,agg:=false,kind:=.func,zero := [.val .nilFunc],eqs := [] },
 none,
 some { size:=1,agg:=false,kind:=.func,zero := [.val .nilFunc],eqs := [] },
 none,
 some { size:=1,agg:=false,kind:=.func,zero := [.val .nilFunc],eqs := [] },
 some { size:=1,agg:=false,kind:=.func,zero := [.val .nilFunc],eqs := [] },
 some { size:=1,agg:=false,kind:=.func,zero := [.val .nilFunc],eqs := [] },
 some { size:=1,agg:=false,kind:=.func,zero := [.val .nilFunc],eqs := [] },
 some { size:=1,agg:=false,kind:=.func,zero := [.val .nilFunc],eqs := [] },
 some { size:=1,agg:=false,kind:=.func,zero := [.val .nilFunc],eqs := [] },
 some { size:=1,agg:=false,kind:=.func,zero := [.val .nilFunc],eqs := [] },
 some { size:=1,agg:=false,kind:=.func,zero := [.val .nilFunc],eqs := [] },
 some { size:=1,agg:=false,kind:=.func,zero := [.val .nilFunc],eqs := [] },
 some { size:=1,agg:=false,kind:=.func,zero := [.val .nilFunc],eqs := [] },
 some { size:=2,agg:=true,kind:=.struct [(0,1,false),(1,1,false)],zero := [.val (.int .i64 0), .val (.int .i64 0)],eqs := [.int, .int] },
 some { size:=2,agg:=true,kind:=.struct [(0,1,false),(1,1,false)],zero := [.val (.int .i64 0), .val (.int .i64 0)],eqs := [.int, .int] },
 some { size:=1,agg:=false,kind:=.func,zero := [.val .nilFunc],eqs := [] },
 some { size:=1,agg:=false,kind:=.func,zero := [.val .nilFunc],eqs := [] },
 some { size:=1,agg:=false,kind:=.func,zero := [.val .nilFunc],eqs := [] },
 some { size:=1,agg:=false,kind:=.func,zero := [.val .nilFunc],eqs := [] },
 some { size:=2,agg:=true,kind:=.struct [(0,1,false),(1,1,false)],zero := [.val (.int .i64 0), .val (.int .i64 0)],eqs := [.int, .int] },
 some { size:=1,agg:=false,kind:=.func,zero := [.val .nilFunc],eqs := [] },
 some { size:=3,agg:=true,kind:=.struct [(0,1,false),(1,1,false),(2,1,false)],zero := [.val (.int .i64 0), .val (.int .i64 0), .val (.int .i64 0)],eqs := [.int, .int, .int] },
 some { size:=3,agg:=true,kind:=.struct [(0,1,false),(1,1,false),(2,1,false)],zero := [.val (.int .i64 0), .val (.int .i64 0), .val (.int .i64 0)],eqs := [.int, .int, .int] },
 some { size:=1,agg:=false,kind:=.func,zero := [.val .nilFunc],eqs := [] },
 some { size:=1,agg:=false,kind:=.func,zero := [.val .nilFunc],eqs := [] },
 some { size:=1,agg:=false,kind:=.func,zero := [.val .nilFunc],eqs := [] },
 some { size:=1,agg:=false,kind:=.func,zero := [.val .nilFunc],eqs := [] },
 some { size:=1,agg:=false,kind:=.func,zero := [.val .nilFunc],eqs := [] },
 some { size:=2,agg:=true,kind:=.struct [(0,1,false),(1,1,false)],zero := [.val (.bool false), .val (.bool false)],eqs := [.bool, .bool] },
 some { size:=2,agg:=true,kind:=.struct [(0,1,false),(1,1,false)],zero := [.val (.bool false), .val (.bool false)],eqs := [.bool, .bool] },
 some { size:=1,agg:=false,kind:=.ptr,zero := [.val (.pointer none)],eqs := [] },
 some { size:=1,agg:=false,kind:=.map 3 214,zero := [.val (.map none)],eqs := [] },
 some { size:=1,agg:=false,kind:=.func,zero := [.val .nilFunc],eqs := [] },
 some { size:=14,agg:=true,kind:=.struct [(0,3,true),(3,10,true),(13,1,false)],zero:=([.val (.int .i64 0), .val (.int .i64 0), .nilsl, .val (.int .i64 0), .nilsl, .nilsl, .nilsl, .val (.int .i64 0), .val (.int .i64 0), .val (.int .i64 0), .val (.int .i64 0), .val (.int .i64 0), .nilsl, .val (.map none)]),eqs := [] },
 some { size:=14,agg:=true,kind:=.struct [(0,3,true),(3,10,true),(13,1,false)],zero:=([.val (.int .i64 0), .val (.int .i64 0), .nilsl, .val (.int .i64 0), .nilsl, .nilsl, .nilsl, .val (.int .i64 0), .val (.int .i64 0), .val (.int .i64 0), .val (.int .i64 0), .val (.int .i64 0), .nilsl, .val (.map none)]),eqs := [] },
 some { size:=1,agg:=false,kind:=.func,zero := [.val .nilFunc],eqs := [] },
 some { size:=1,agg:=false,kind:=.func,zero := [.val .nilFunc],eqs := [] },
 some { size:=2,agg:=true,kind:=.struct [(0,1,false),(1,1,false)],zero := [.val .nilFunc, .val (.int .i64 0)],eqs := [] },
 some { size:=2,agg:=true,kind:=.struct [(0,1,false),(1,1,false)],zero := [.val .nilFunc, .val (.int .i64 0)],eqs := [] },
 some { size:=1,agg:=false,kind:=.func,zero := [.val .nilFunc],eqs := [] },
 some { size:=2,agg:=true,kind:=.struct [(0,1,false),(1,1,false)],zero := [.val (.int .i64 0), .val (.int .i64 0)],eqs := [.int, .int] },
 some { size:=2,agg:=true,kind:=.struct [(0,1,false),(1,1,false)],zero := [.val (.int .i64 0), .val (.int .i64 0)],eqs := [.int, .int] },
 some { size:=1,agg:=false,kind:=.func,zero := [.val .nilFunc],eqs := [] },
 some { size:=1,agg:=false,kind:=.func,zero := [.val .nilFunc],eqs := [] },
 some { size:=1,agg:=false,kind:=.func,zero := [.val .nilFunc],eqs := [] },
 some { size:=1,agg:=false,kind:=.func,zero := [.val .nilFunc],eqs := [] },
 some { size:=1,agg:=false,kind:=.func,zero := [.val .nilFunc],eqs := [] },
 some { size:=1,agg:=false,kind:=.func,zero := [.val .nilFunc],eqs := [] },
 some { size:=1,agg:=false,kind:=.func,zero := [.val .nilFunc],eqs := [] },
 some { size:=1,agg:=false,kind:=.func,zero := [.val .nilFunc],eqs := [] },
 some { size:=1,agg:=false,kind:=.func,zero := [.val .nilFunc],eqs := [] },
 some { size:=8,agg:=true,kind:=.arr 2 100 4 true,zero := [.val (.int .i64 0), .val (.int .i64 0), .val (.int .i64 0), .nilsl, .val (.int .i64 0), .val (.int .i64 0), .val (.int .i64 0), .nilsl],eqs := [] },
 some { size:=1,agg:=false,kind:=.func,zero := [.val .nilFunc],eqs := [] },
 some { size:=1,agg:=false,kind:=.func,zero := [.val .nilFunc],eqs := [] },
 some { size:=1,agg:=false,kind:=.func,zero := [.val .nilFunc],eqs := [] },
 some { size:=1,agg:=false,kind:=.func,zero := [.val .nilFunc],eqs := [] },
 some { size:=1,agg:=false,kind:=.func,zero := [.val .nilFunc],eqs := [] },
 some { size:=1,agg:=false,kind:=.func,zero := [.val .nilFunc],eqs := [] },
 some { size:=1,agg:=false,kind:=.func,zero := [.val .nilFunc],eqs := [] },
 some { size:=1,agg:=false,kind:=.map 9 4,zero := [.val (.map none)],eqs := [] },
 some { size:=1,agg:=false,kind:=.func,zero := [.val .nilFunc],eqs := [] },
 some { size:=1,agg:=false,kind:=.func,zero := [.val .nilFunc],eqs := [] },
 some { size:=4,agg:=true,kind:=.struct [(0,2,true),(2,1,false),(3,1,false)],zero := [.nilsl, .nilsl, .val (.bool false), .val (.int .i64 0)],eqs := [] },
 some { size:=4,agg:=true,kind:=.struct [(0,2,true),(2,1,false),(3,1,false)],zero := [.nilsl, .nilsl, .val (.bool false), .val (.int .i64 0)],eqs := [] },
 some { size:=1,agg:=false,kind:=.func,zero := [.val .nilFunc],eqs := [] },
 some { size:=2,agg:=true,kind:=.struct [(0,1,false),(1,1,false)],zero := [.nilsl, .val (.int .i64 0)],eqs := [] },
 some { size:=2,agg:=true,kind:=.struct [(0,1,false),(1,1,false)],zero := [.nilsl, .val (.int .i64 0)],eqs := [] },
 some { size:=1,agg:=false,kind:=.func,zero := [.val .nilFunc],eqs := [] },
 some { size:=1,agg:=false,kind:=.func,zero := [.val .nilFunc],eqs := [] },
 some { size:=1,agg:=false,kind:=.func,zero := [.val .nilFunc],eqs := [] },
 some { size:=1,agg:=false,kind:=.func,zero := [.val .nilFunc],eqs := [] },
 none,
 some { size:=1,agg:=false,kind:=.func,zero := [.val .nilFunc],eqs := [] },
 none,
 some { size:=1,agg:=false,kind:=.func,zero := [.val .nilFunc],eqs := [] },
 some { size:=1,agg:=false,kind:=.ptr,zero := [.val (.pointer none)],eqs := [] },
 some { size:=3,agg:=true,kind:=.struct [(0,1,false),(1,1,false),(2,1,false)],zero := [.nilsl, .nilsl, .val (.bool false)],eqs := [] },
 some { size:=3,agg:=true,kind:=.struct [(0,1,false),(1,1,false),(2,1,false)],zero := [.nilsl, .nilsl, .val (.bool false)],eqs := [] },
 some { size:=1,agg:=false,kind:=.func,zero := [.val .nilFunc],eqs := [] },
 some { size:=1,agg:=false,kind:=.func,zero := [.val .nilFunc],eqs := [] },
 some { size:=1,agg:=false,kind:=.func,zero := [.val .nilFunc],eqs := [] },
 some { size:=1,agg:=false,kind:=.func,zero := [.val .nilFunc],eqs := [] },
 some { size:=1,agg:=false,kind:=.func,zero := [.val .nilFunc],eqs := [] },
 some { size:=1,agg:=false,kind:=.func,zero := [.val .nilFunc],eqs := [] },
 some { size:=1,agg:=false,kind:=.func,zero := [.val .nilFunc],eqs := [] },
 some { size:=1,agg:=false,kind:=.func,zero := [.val .nilFunc],eqs := [] },
 some { size:=1,agg:=false,kind:=.func,zero := [.val .nilFunc],eqs := [] },
 some { size:=1,agg:=false,kind:=.func,zero := [.val .nilFunc],eqs := [] },
 none,
 some { size:=1,agg:=false,kind:=.func,zero := [.val .nilFunc],eqs := [] },
 some { size:=1,agg:=false,kind:=.func,zero := [.val .nilFunc],eqs := [] },
 some { size:=5,agg:=true,kind:=.struct [(0,4,true),(4,1,false)],zero := [.val (.string { data:={ toList := [] } }), .val (.int .i64 0), .val (.int .i64 0), .val (.string { data:={ toList := [] } }), .val (.bool false)],eqs := [.str, .int, .int, .str, .bool] },
 some { size:=5,agg:=true,kind:=.struct [(0,4,true),(4,1,false)],zero := [.val (.string { data:={ toList := [] } }), .val (.int .i64 0), .val (.int .i64 0), .val (.string { data:={ toList := [] } }), .val (.bool false)],eqs := [.str, .int, .int, .str, .bool] },
 some { size:=1,agg:=false,kind:=.func,zero := [.val .nilFunc],eqs := [] },
 some { size:=1,agg:=false,kind:=.func,zero := [.val .nilFunc],eqs := [] },
 some { size:=1,agg:=false,kind:=.func,zero := [.val .nilFunc],eqs := [] },
 some { size:=1,agg:=false,kind:=.func,zero := [.val .nilFunc],eqs := [] },
 some { size:=1,agg:=false,kind:=.func,zero := [.val .nilFunc],eqs := [] },
 some { size:=1,agg:=false,kind:=.func,zero := [.val .nilFunc],eqs := [] },
 some { size:=1,agg:=false,kind:=.func,zero := [.val .nilFunc],eqs := [] },
 some { size:=1,agg:=false,kind:=.func,zero := [.val .nilFunc],eqs := [] },
 some { size:=1,agg:=false,kind:=.func,zero := [.val .nilFunc],eqs := [] },
 some { size:=1,agg:=false,kind:=.func,zero := [.val .nilFunc],eqs := [] },
 some { size:=1,agg:=false,kind:=.func,zero := [.val .nilFunc],eqs := [] },
 some { size:=1,agg:=false,kind:=.func,zero := [.val .nilFunc],eqs := [] },
 some { size:=1,agg:=false,kind:=.func,zero := [.val .nilFunc],eqs := [] },
 some { size:=1,agg:=false,kind:=.func,zero := [.val .nilFunc],eqs := [] },
 some { size:=1,agg:=false,kind:=.func,zero := [.val .nilFunc],eqs := [] },
 some { size:=1,agg:=false,kind:=.func,zero := [.val .nilFunc],eqs := [] },
 some { size:=1,agg:=false,kind:=.func,zero := [.val .nilFunc],eqs := [] },
 some { size:=1,agg:=false,kind:=.slice 134 2 2 [.val (.bool false), .val (.bool false)],zero := [.nilsl],eqs := [] },
 some { size:=1,agg:=false,kind:=.func,zero := [.val .nilFunc],eqs := [] },
 some { size:=1,agg:=false,kind:=.func,zero := [.val .nilFunc],eqs := [] },
 some { size:=1,agg:=false,kind:=.func,zero := [.val .nilFunc],eqs := [] },
 some { size:=1,agg:=false,kind:=.slice 143 2 16 [.val .nilFunc, .val (.int .i64 0)],zero := [.nilsl],eqs := [] },
 some { size:=1,agg:=false,kind:=.func,zero := [.val .nilFunc],eqs := [] },
 some { size:=1,agg:=false,kind:=.func,zero := [.val .nilFunc],eqs := [] },
 some { size:=1,agg:=false,kind:=.func,zero := [.val .nilFunc],eqs := [] },
 some { size:=1,agg:=false,kind:=.func,zero := [.val .nilFunc],eqs := [] },
 some { size:=1,agg:=false,kind:=.func,zero := [.val .nilFunc],eqs := [] },
 some { size:=1,agg:=false,kind:=.map 3 192,zero := [.val (.map none)],eqs := [] },
 some { size:=1,agg:=false,kind:=.func,zero := [.val .nilFunc],eqs := [] },
 some { size:=1,agg:=false,kind:=.slice 79 4 48 [.val (.string { data:={ toList := [] } }), .val (.int .i64 0), .val (.int .i64 0), .val (.string { data:={ toList := [] } })],zero := [.nilsl],eqs := [] },
 some { size:=1,agg:=false,kind:=.slice 75 1 24 [.nilsl],zero := [.nilsl],eqs := [] },
 some { size:=1,agg:=false,kind:=.func,zero := [.val .nilFunc],eqs := [] },
 some { size:=1,agg:=false,kind:=.func,zero := [.val .nilFunc],eqs := [] },
 some { size:=1,agg:=false,kind:=.func,zero := [.val .nilFunc],eqs := [] },
 some { size:=1,agg:=false,kind:=.func,zero := [.val .nilFunc],eqs := [] },
 some { size:=1,agg:=false,kind:=.func,zero := [.val .nilFunc],eqs := [] },
 some { size:=1,agg:=false,kind:=.func,zero := [.val .nilFunc],eqs := [] },
 some { size:=1,agg:=false,kind:=.func,zero := [.val .nilFunc],eqs := [] },
 some { size:=1,agg:=false,kind:=.func,zero := [.val .nilFunc],eqs := [] },
 some { size:=1,agg:=false,kind:=.func,zero := [.val .nilFunc],eqs := [] },
 some { size:=1,agg:=false,kind:=.func,zero := [.val .nilFunc],eqs := [] },
 some { size:=1,agg:=false,kind:=.func,zero := [.val .nilFunc],eqs := [] },
 some { size:=1,agg:=false,kind:=.func,zero := [.val .nilFunc],eqs := [] },
 some { size:=1,agg:=false,kind:=.func,zero := [.val .nilFunc],eqs := [] },
 some { size:=1,agg:=false,kind:=.func,zero := [.val .nilFunc],eqs := [] },
 some { size:=1,agg:=false,kind:=.func,zero := [.val .nilFunc],eqs := [] },
 none,
 some { size:=1,agg:=false,kind:=.func,zero := [.val .nilFunc],eqs := [] },
 none,
 none,
 some { size:=1,agg:=false,kind:=.func,zero := [.val .nilFunc],eqs := [] },
 some { size:=1,agg:=false,kind:=.func,zero := [.val .nilFunc],eqs := [] },
 some { size:=1,agg:=false,kind:=.func,zero := [.val .nilFunc],eqs := [] },
 some { size:=1,agg:=false,kind:=.func,zero := [.val .nilFunc],eqs := [] },
 some { size:=1,agg:=false,kind:=.func,zero := [.val .nilFunc],eqs := [] },
 some { size:=1,agg:=false,kind:=.func,zero := [.val .nilFunc],eqs := [] },
 some { size:=1,agg:=false,kind:=.func,zero := [.val .nilFunc],eqs := [] },
 none,
 some { size:=1,agg:=false,kind:=.func,zero := [.val .nilFunc],eqs := [] },
 some { size:=1,agg:=false,kind:=.func,zero := [.val .nilFunc],eqs := [] },
 none,
 some { size:=1,agg:=false,kind:=.map 3 131,zero := [.val (.map none)],eqs := [] },
 some { size:=1,agg:=false,kind:=.func,zero := [.val .nilFunc],eqs := [] },
 some { size:=1,agg:=false,kind:=.int .u64,zero := [.val (.int .u64 0)],eqs := [] },
 some { size:=1,agg:=false,kind:=.int .u64,zero := [.val (.int .u64 0)],eqs := [] },
 some { size:=1,agg:=false,kind:=.func,zero := [.val .nilFunc],eqs := [] },
 some { size:=1,agg:=false,kind:=.func,zero := [.val .nilFunc],eqs := [] },
 some { size:=1,agg:=false,kind:=.func,zero := [.val .nilFunc],eqs := [] },
 some { size:=2,agg:=true,kind:=.struct [(0,1,false),(1,1,false)],zero := [.val .nilFunc, .val .nilFunc],eqs := [] },
 some { size:=2,agg:=true,kind:=.struct [(0,1,false),(1,1,false)],zero := [.val .nilFunc, .val .nilFunc],eqs := [] },
 some { size:=1,agg:=false,kind:=.func,zero := [.val .nilFunc],eqs := [] },
 some { size:=1,agg:=false,kind:=.func,zero := [.val .nilFunc],eqs := [] },
 some { size:=1,agg:=false,kind:=.func,zero := [.val .nilFunc],eqs := [] },
 some { size:=1,agg:=false,kind:=.func,zero := [.val .nilFunc],eqs := [] },
 some { size:=1,agg:=false,kind:=.func,zero := [.val .nilFunc],eqs := [] },
 some { size:=1,agg:=false,kind:=.func,zero := [.val .nilFunc],eqs := [] },
 some { size:=1,agg:=false,kind:=.func,zero := [.val .nilFunc],eqs := [] },
 some { size:=1,agg:=false,kind:=.func,zero := [.val .nilFunc],eqs := [] },
 some { size:=1,agg:=false,kind:=.func,zero := [.val .nilFunc],eqs := [] },
 some { size:=1,agg:=false,kind:=.int .i64,zero := [.val (.int .i64 0)],eqs := [] },
 none,
 some { size:=1,agg:=false,kind:=.func,zero := [.val .nilFunc],eqs := [] },
 some { size:=1,agg:=false,kind:=.func,zero := [.val .nilFunc],eqs := [] },
 some { size:=1,agg:=false,kind:=.func,zero := [.val .nilFunc],eqs := [] },
 some { size:=1,agg:=false,kind:=.func,zero := [.val .nilFunc],eqs := [] },
 some { size:=1,agg:=false,kind:=.func,zero := [.val .nilFunc],eqs := [] },
 some { size:=1,agg:=false,kind:=.func,zero := [.val .nilFunc],eqs := [] },
 some { size:=1,agg:=false,kind:=.func,zero := [.val .nilFunc],eqs := [] },
 some { size:=1,agg:=false,kind:=.func,zero := [.val .nilFunc],eqs := [] },
 some { size:=1,agg:=false,kind:=.int .u64,zero := [.val (.int .u64 0)],eqs := [] },
 some { size:=1,agg:=false,kind:=.func,zero := [.val .nilFunc],eqs := [] },
 some { size:=1,agg:=false,kind:=.func,zero := [.val .nilFunc],eqs := [] },
 some { size:=1,agg:=false,kind:=.func,zero := [.val .nilFunc],eqs := [] },
 some { size:=1,agg:=false,kind:=.ptr,zero := [.val (.pointer none)],eqs := [] },
 some { size:=1,agg:=false,kind:=.func,zero := [.val .nilFunc],eqs := [] },
 some { size:=1,agg:=false,kind:=.ptr,zero := [.val (.pointer none)],eqs := [] },
 none,
 some { size:=1,agg:=false,kind:=.func,zero := [.val .nilFunc],eqs := [] },
 some { size:=1,agg:=false,kind:=.func,zero := [.val .nilFunc],eqs := [] },
 some { size:=4,agg:=true,kind:=.struct [(0,1,false),(1,1,false),(2,1,false),(3,1,false)],zero := [.val (.pointer none), .val (.pointer none), .val (.pointer none), .val (.string { data:={ toList := [] } })],eqs := [] },
 some { size:=4,agg:=true,kind:=.struct [(0,1,false),(1,1,false),(2,1,false),(3,1,false)],zero := [.val (.pointer none), .val (.pointer none), .val (.pointer none), .val (.string { data:={ toList := [] } })],eqs := [] },
 some { size:=0,agg:=true,kind:=.arr 0 16 1 false,zero := [],eqs := [] },
 some { size:=0,agg:=true,kind:=.struct [(0,0,true)],zero := [],eqs := [] },
 some { size:=0,agg:=true,kind:=.struct [(0,0,true)],zero := [],eqs := [] },
 some { size:=1,agg:=false,kind:=.int .u8,zero := [.val (.int .u8 0)],eqs := [] },
 some { size:=1,agg:=false,kind:=.int .u8,zero := [.val (.int .u8 0)],eqs := [] },
 some { size:=1,agg:=false,kind:=.func,zero := [.val .nilFunc],eqs := [] },
 some { size:=1,agg:=false,kind:=.ptr,zero := [.val (.pointer none)],eqs := [] },
 some { size:=1,agg:=false,kind:=.int .i32,zero := [.val (.int .i32 0)],eqs := [] },
 some { size:=1,agg:=false,kind:=.int .i32,zero := [.val (.int .i32 0)],eqs := [] },
 some { size:=11,agg:=true,kind:=.struct [(0,1,false),(1,1,false),(2,1,false),(3,1,false),(4,1,false),(5,1,false),(6,1,false),(7,1,false),(8,1,false),(9,1,false),(10,1,false)],zero := [.val (.int .u64 0), .val (.int .u64 0), .val (.int .u32 0), .val (.int .u8 0), .val (.int .u8 0), .val (.int .u8 0), .val (.int .u8 0), .val .nilFunc, .val (.pointer none), .val (.int .i32 0), .val (.int .i32 0)],eqs := [] },
 some { size:=11,agg:=true,kind:=.struct [(0,1,false),(1,1,false),(2,1,false),(3,1,false),(4,1,false),(5,1,false),(6,1,false),(7,1,false),(8,1,false),(9,1,false),(10,1,false)],zero := [.val (.int .u64 0), .val (.int .u64 0), .val (.int .u32 0), .val (.int .u8 0), .val (.int .u8 0), .val (.int .u8 0), .val (.int .u8 0), .val .nilFunc, .val (.pointer none), .val (.int .i32 0), .val (.int .i32 0)],eqs := [] },
 some { size:=1,agg:=false,kind:=.other,zero := [.val (.pointer none)],eqs := [] }]
theorem typeTab_ok:typeTab=tabOf Tryz.prog:=by kernel_rfl
end Go.Proofs.YtoamkpgaaanafaaGreat

/- Pure walks: a result told weaker than it is. -/
namespace Go.Proofs.YtoamkpgaaanafaaGreat
set_option linter.unusedSimpArgs false
set_option linter.unusedVariables false
set_option linter.unnecessarySimpa false
open Go.RowKit
theorem PCalls.weak {P:Program} {f:FuncId} {args:List PV} {q:PV} (h:PCalls P f args (fun r=>Weak r q)):PCalls P f args (· = q):=by
 refine ⟨h.1,fun Φ μ w vs h1 hgl h2=>(h.2 Φ μ w vs h1 hgl h2).mono ?_⟩
 rintro e w' ⟨r,v,Φ',k1,k2,k3,k4,k5,k6,k7⟩
 refine ⟨q,v,Φ',k1,rfl,k2.1 _ _ _ k3,k4,k5,k6,fun n k cs E e=>?_⟩
 have:=k2.2 (by rw [e];rfl)
 exact k7 n k cs E (by rw [←this,e])
section
variable {P:Program} {T:Tab} {σ:PS} {o:Oper} {i base:Nat} {ops:Array Oper} {ok:Nat→Nat→Bool} {rest:List (Nat×Oper)} {K:PS→Prop}
end
end Go.Proofs.YtoamkpgaaanafaaGreat

/- Pure states: steps at lists of values, tests that are not decided. -/
namespace Go.Proofs.YtoamkpgaaanafaaGreat
set_option linter.unusedSimpArgs false
set_option linter.unusedVariables false
set_option linter.unnecessarySimpa false
open Go.RowKit
section
variable {P:Program} {T:Tab} {σ:PS} {o:Oper} {i base:Nat} {ops:Array Oper} {ok:Nat→Nat→Bool} {rest:List (Nat×Oper)} {K:PS→Prop}
theorem PWops.boolS {d:Nat} {b:Bool} (hk:isCmp o.op=true) (hg:pguard ops σ o=some true) (hd:o.dst=some d) (hE:feff (presE T (headB ops o.dst) (base+i) (σ.only (ok i)) o.op)=some (.val (.bool b))) (hb:σ.freeB (base+i)=true)
  (kt:b=true→PWops P T ops base ok rest K (σ.put d (.val (.bool true)))) (kf:b=false→PWops P T ops base ok rest K (σ.put d (.val (.bool false)))):PWops P T ops base ok ((i,o) :: rest) K σ:=by
 cases b with
 |true=>exact PWops.bool true hg hd hE rfl hb (kt rfl)
 |false=>exact PWops.bool false hg hd hE rfl hb (kf rfl)
theorem PWops.mvC {d:Nat} {x:Operand} {p:PV} (hop:o.op = .move x) (hg:pguard ops σ o=some true) (hd:o.dst=some d) (hx' : ownPV σ x=p) (hn:p.ownB=false) (hb:σ.freeB (base+i)=true) (k:PWops P T ops base ok rest K (σ.put d p)):PWops P T ops base ok ((i,o) :: rest) K σ:=by
 refine PWops.valEq hg hd (p:=p) ?_ rfl hb k
 have hp:pev σ x=p:=by
  cases x with
  |tmp s=>simp only [ownPV] at hx'; simp only [pev,hx'];exact PV.bare_of _ hn
  |_=>exact hx'
 simp only [hop,presE]
 split
 ·cases x with
  |tmp s=>
   simp only [ownPV] at hx'
   have:(σ.only (ok i)).t s=p:=hx'
   simp only [takeE,this,hn]
   simp only [Bool.false_eq_true,if_false,PV.bare_of _ hn]
  |_=>simp only [takeE,pev_only,hp]
 ·simp only [pev_only,hp]
theorem PWops.ldV {d id off:Nat} {x:Operand} {t:TypeId} {ti:TyI} {bs:List PV} {c p:PV} (hop:o.op = .load t x) (hg:pguard ops σ o=some true) (hd:o.dst=some d) (hx:pev σ x = .ptr id off) (hbs:(σ.only (ok i)).b id=some bs) (hc:bs[off]? = some c) (ht:T.at t=some ti) (ha:ti.agg=false) (hq:fval c=some p) (hn:p.ownB=false) (hb:σ.freeB (base+i)=true) (k:PWops P T ops base ok rest K (σ.put d p)):PWops P T ops base ok ((i,o) :: rest) K σ:=by
 have hq':=fval_eq hq
 subst hq'
 refine PWops.valEq hg hd (p:=c) ?_ rfl hb k
 have h1:ploadO T (headB ops o.dst) (σ.only (ok i)).b t (.ptr id off)=none:=by
  simp only [ploadO]
  split
  ·rw [hbs]
   simp only [hc]
   cases c with
   |sl n k cs own=>cases own with
    |none=>rfl
    |some E=>simp [PV.ownB] at hn
   |_=>rfl
  ·rfl
 simp only [hop,presE,pev_only,hx,h1,pvalA,pval,ht,ploadAt,hbs,asVal,ha,hc,Bool.false_eq_true,if_false,Option.map_some,PV.bare_of _ hn]
theorem getD_get {α:Type} {l:List α} {j:Nat} (x:α) (h:j < l.length):l[j]? = some (l.getD j x):=by
 rw [List.getD_eq_getElem?_getD,List.getElem?_eq_getElem h];rfl
theorem PWops.idxZ {d n k e by_:Nat} {z:Int} {cs zr:List PV} {own:Option TypeId} {kk:IntKind} {x ix:Operand} {t:TypeId} {ti:TyI} (hg:pguard ops σ o=some true) (hd:o.dst=some d) (hop:o.op = .indexAddr t x ix) (hx:pev σ x = .sl n k cs own) (hi:pev σ ix = .val (.int kk z)) (ht:T.at t=some ti) (hk:ti.kind = .slice e k by_ zr) (hb:σ.freeB (base+i)=true) (h0:0≤z∧z < n)
  (kn:PWops P T ops base ok rest K (σ.put d (.ep cs (z.toNat * k)))):PWops P T ops base ok ((i,o) :: rest) K σ:=
 PWops.idx (j:=z.toNat) hg hd hop hx (by rw [hi,Int.toNat_of_nonneg h0.1]) ht hk hb (by omega) kn
theorem PWops.idxZ1 {d n e by_:Nat} {z:Int} {cs zr:List PV} {own:Option TypeId} {kk:IntKind} {x ix:Operand} {t:TypeId} {ti:TyI} (hg:pguard ops σ o=some true) (hd:o.dst=some d) (hop:o.op = .indexAddr t x ix) (hx:pev σ x = .sl n 1 cs own) (hi:pev σ ix = .val (.int kk z)) (ht:T.at t=some ti) (hk:ti.kind = .slice e 1 by_ zr) (hb:σ.freeB (base+i)=true) (h0:0≤z∧z < n)
  (kn:PWops P T ops base ok rest K (σ.put d (.ep cs z.toNat))):PWops P T ops base ok ((i,o) :: rest) K σ:=
 PWops.idx1 (j:=z.toNat) hg hd hop hx (by rw [hi,Int.toNat_of_nonneg h0.1]) ht hk hb (by omega) kn
theorem PWops.ldM {α:Type} [Inhabited α] {d off:Nat} {f:α→PV} {l:List α} {q:PV} {x:Operand} {t:TypeId} {ti:TyI} (hg:pguard ops σ o=some true) (hd:o.dst=some d) (hop:o.op = .load t x) (hx:pev σ x = .ep (l.map f) off) (ht:T.at t=some ti) (ha:ti.agg=false) (hb:σ.freeB (base+i)=true) (hl:off < l.length) (hq:fval (f (l.getD off default)).bare=some q)
  (kn:PWops P T ops base ok rest K (σ.put d q)):PWops P T ops base ok ((i,o) :: rest) K σ:=
 PWops.ld hg hd hop hx ht ha hb (map_get (getD_get default hl)) hq kn
theorem PWops.ldR {α:Type} [Inhabited α] {d j k r:Nat} {f:α→List PV} {l:List α} {c q:PV} {x:Operand} {t:TypeId} {ti:TyI} (hg:pguard ops σ o=some true) (hd:o.dst=some d) (hop:o.op = .load t x) (hx:pev σ x = .ep (l.flatMap f) (j * k+r)) (ht:T.at t=some ti) (ha:ti.agg=false) (hb:σ.freeB (base+i)=true) (hk:∀x,(f x).length=k) (hl:j < l.length) (hc:(f (l.getD j default))[r]? = some c) (hq:fval c.bare=some q)
  (kn:PWops P T ops base ok rest K (σ.put d q)):PWops P T ops base ok ((i,o) :: rest) K σ:=
 PWops.ld hg hd hop hx ht ha hb (flatMap_get hk (getD_get default hl) hc) hq kn
theorem PWops.ldRA {α:Type} [Inhabited α] {d j k:Nat} {f:α→List PV} {l:List α} {row:List PV} {x:Operand} {t:TypeId} {kd:TD} {zr:List PV} {es:List SK} (hg:pguard ops σ o=some true) (hd:o.dst=some d) (hop:o.op = .load t x) (hx:pev σ x = .ep (l.flatMap f) (j * k)) (ht:T.at t=some ⟨k,true,kd,zr,es⟩) (hb:σ.freeB (base+i)=true) (hk:∀x,(f x).length=k) (hl:j < l.length) (hr:flist ((f (l.getD j default)).map PV.bare)=some row)
  (kn:PWops P T ops base ok rest K (σ.put d (.agg row))):PWops P T ops base ok ((i,o) :: rest) K σ:=by
 refine PWops.ldA hg hd hop hx ht hb ?_ ?_ kn
 ·rw [flatMap_len hk]
  have:=Nat.mul_le_mul_right k (show j+1≤l.length from hl)
  rw [Nat.succ_mul] at this;exact this
 ·rw [flatMap_row hk (getD_get default hl)];exact flist_eq hr
theorem PWops.slcM {α:Type} {d e by_ n:Nat} {zl zh:Int} {kl kh:IntKind} {f:α→PV} {L:List α} {zr:List PV} {own:Option TypeId} {x lo hi:Operand} {t:TypeId} {ti:TyI} (hg:pguard ops σ o=some true) (hd:o.dst=some d) (hop:o.op = .slice t x (some lo) (some hi) none) (hx:pev σ x = .sl n 1 (L.map f) own) (hlo:pev σ lo = .val (.int kl zl)) (hhi:pev σ hi = .val (.int kh zh)) (ht:T.at t=some ti) (hk:ti.kind = .slice e 1 by_ zr) (hb:σ.freeB (base+i)=true)
  (h1:0≤zl∧zl≤zh∧zh≤n∧n=L.length) (kn:PWops P T ops base ok rest K (σ.put d (.sl ((L.drop zl.toNat).take (zh.toNat - zl.toNat)).length 1 (((L.drop zl.toNat).take (zh.toNat - zl.toNat)).map f) none))):PWops P T ops base ok ((i,o) :: rest) K σ:=by
 refine PWops.slc zl.toNat zh.toNat hg hd hop hx ht hk hb ?_ ?_ ?_
 ·simp only [Option.map_some,hhi,pbound];rw [if_pos ⟨by omega,h1.2.2.1⟩]
 ·simp only [Option.map_some,hlo,pbound];rw [if_pos ⟨h1.1,by omega⟩]
 ·have:PV.sl (zh.toNat - zl.toNat) 1 (((L.map f).drop (zl.toNat * 1)).take ((zh.toNat - zl.toNat) * 1)) none = .sl ((L.drop zl.toNat).take (zh.toNat - zl.toNat)).length 1 (((L.drop zl.toNat).take (zh.toNat - zl.toNat)).map f) none:=
   sl_eq (by rw [List.length_take,List.length_drop];omega) (by rw [Nat.mul_one,Nat.mul_one,List.map_take,List.map_drop])
  rw [this];exact kn
theorem PWops.slcL {α:Type} {d e by_ n:Nat} {zl:Int} {kl:IntKind} {f:α→PV} {L:List α} {zr:List PV} {own:Option TypeId} {x lo:Operand} {t:TypeId} {ti:TyI} (hg:pguard ops σ o=some true) (hd:o.dst=some d) (hop:o.op = .slice t x (some lo) none none) (hx:pev σ x = .sl n 1 (L.map f) own) (hlo:pev σ lo = .val (.int kl zl)) (ht:T.at t=some ti) (hk:ti.kind = .slice e 1 by_ zr) (hb:σ.freeB (base+i)=true)
  (h1:0≤zl∧zl≤n∧n=L.length) (kn:PWops P T ops base ok rest K (σ.put d (.sl (L.drop zl.toNat).length 1 ((L.drop zl.toNat).map f) none))):PWops P T ops base ok ((i,o) :: rest) K σ:=by
 refine PWops.slc zl.toNat n hg hd hop hx ht hk hb rfl ?_ ?_
 ·simp only [Option.map_some,hlo,pbound];rw [if_pos ⟨h1.1,by omega⟩]
 ·have:PV.sl (n - zl.toNat) 1 (((L.map f).drop (zl.toNat * 1)).take ((n - zl.toNat) * 1)) none = .sl (L.drop zl.toNat).length 1 ((L.drop zl.toNat).map f) none:=
   sl_eq (by rw [List.length_drop];omega) (by rw [Nat.mul_one,Nat.mul_one,List.take_of_length_le (by rw [List.length_drop,List.length_map];omega),List.map_drop])
  rw [this];exact kn
theorem PWops.slcH {α:Type} {d e by_ n:Nat} {zh:Int} {kh:IntKind} {f:α→PV} {L:List α} {zr:List PV} {own:Option TypeId} {x hi:Operand} {t:TypeId} {ti:TyI} (hg:pguard ops σ o=some true) (hd:o.dst=some d) (hop:o.op = .slice t x none (some hi) none) (hx:pev σ x = .sl n 1 (L.map f) own) (hhi:pev σ hi = .val (.int kh zh)) (ht:T.at t=some ti) (hk:ti.kind = .slice e 1 by_ zr) (hb:σ.freeB (base+i)=true)
  (h1:0≤zh∧zh≤n∧n=L.length) (kn:PWops P T ops base ok rest K (σ.put d (.sl (L.take zh.toNat).length 1 ((L.take zh.toNat).map f) none))):PWops P T ops base ok ((i,o) :: rest) K σ:=by
 refine PWops.slc 0 zh.toNat hg hd hop hx ht hk hb ?_ rfl ?_
 ·simp only [Option.map_some,hhi,pbound];rw [if_pos ⟨h1.1,h1.2.1⟩]
 ·have:PV.sl (zh.toNat - 0) 1 (((L.map f).drop (0 * 1)).take ((zh.toNat - 0) * 1)) none = .sl (L.take zh.toNat).length 1 ((L.take zh.toNat).map f) none:=
   sl_eq (by rw [List.length_take];omega) (by rw [Nat.mul_one,Nat.zero_mul,List.drop_zero,Nat.sub_zero,List.map_take])
  rw [this];exact kn
end
instance:Inhabited ByteArray:=⟨ByteArray.empty⟩
end Go.Proofs.YtoamkpgaaanafaaGreat

/- Pure states: whole operations in one step, whole regions in one step. -/
namespace Go.Proofs.YtoamkpgaaanafaaGreat
set_option linter.unusedSimpArgs false
set_option linter.unusedVariables false
set_option linter.unnecessarySimpa false
open Go.RowKit
def isStop:Op→Bool
 | .binOp op _ _ _ _=>match op with
  | .eql | .neq | .lss | .leq | .gtr | .geq | .add | .sub | .mul | .quo | .rem=>true
  |_=>false
 | .indexAddr .. => true
 | .slice .. => true
 | .call c=>match c.callee with
  | .builtin .len | .builtin .max | .builtin .min=>false
  |_=>true
 |_=>false
def applyE (σ:PS):Option Nat→Option Eff→Option PS
 |some d,some ⟨v,[],none,[]⟩=>match v with
  | .sl n k cs (some e)=>match flist cs with
   |some l=>some (σ.put d (.sl n k l (some e)))
   |none=>none
  |v=>match fval v with
   |some p=>some (σ.put d p)
   |none=>none
 |some d,some ⟨v,[],some s,[]⟩=>match fval v,fval (σ.t s).bare with
  |some p,some q=>some ((σ.put s q).put d p)
  |_,_=>none
 |some d,some ⟨v,[(id,cs)],none,[]⟩=>match fval v,flist cs with
  |some p,some l=>some ((σ.setb id l).put d p)
  |_,_=>none
 |none,some ⟨_,[(id,cs)],none,[]⟩=>match flist cs with
  |some l=>some (σ.setb id l)
  |none=>none
 |none,some ⟨_,[(id,cs)],some s,[]⟩=>match flist cs,fval (σ.t s).bare with
  |some l,some q=>some ((σ.put s q).setb id l)
  |_,_=>none
 |_,_=>none
def quick (T:Tab) (σ:PS) (ok:Nat→Bool):Op→Option PV
 | .move x=>match fcell (ownPV σ x) with
  |some p=>if p.ownB then none else some p
  |none=>none
 | .extract x i=>match pev σ x with
  | .tup vs=>match vs[i]? with
   |some c=>match fcell c with
    |some p=>if p.ownB then none else some p
    |none=>none
   |none=>none
  |_=>none
 | .load t x=>match pev σ x with
  | .ptr id off=>match ok id,σ.b id,T.at t with
   |true,some bs,some ti=>if ti.agg then none else match bs[off]? with
    |some c=>match fval c with
     |some p=>if p.ownB then none else some p
     |none=>none
    |none=>none
   |_,_,_=>none
  |_=>none
 |_=>none
noncomputable def stepF (T:Tab) (ops:Array Oper) (base:Nat) (ok:Nat→Nat→Bool) (i:Nat) (o:Oper) (σ:PS):Option PS:=
 match pguard ops σ o with
 |some false=>match o.dst with
  |some d=>some (σ.put d (.tup []))
  |none=>none
 |some true=>
  if isStop o.op then none
  else match σ.freeB (base+i) with
   |false=>none
   |true=>match o.dst,quick T σ (ok i) o.op with
    |some d,some p=>some (σ.put d p)
    |_,_=>applyE σ o.dst (presE T (headB ops o.dst) (base+i) (σ.only (ok i)) o.op)
 |none=>none
theorem flatMap_drop {α:Type} {f:α→List PV} {k:Nat} (hk:∀x,(f x).length=k):∀(l:List α) (j:Nat),(l.flatMap f).drop (j * k)=(l.drop j).flatMap f
 |l,0=>by simp
 | [],j+1=>by simp
 |y :: l,j+1=>by
  rw [List.flatMap_cons,List.drop_succ_cons,←flatMap_drop hk l j,Nat.succ_mul,Nat.add_comm,←List.drop_drop,List.drop_left' (hk y)]
theorem flatMap_take {α:Type} {f:α→List PV} {k:Nat} (hk:∀x,(f x).length=k):∀(l:List α) (j:Nat),(l.flatMap f).take (j * k)=(l.take j).flatMap f
 |l,0=>by simp
 | [],j+1=>by simp
 |y :: l,j+1=>by
  rw [List.flatMap_cons,List.take_succ_cons,List.flatMap_cons,←flatMap_take hk l j,Nat.succ_mul,Nat.add_comm,List.take_add,List.take_left' (hk y),List.drop_left' (hk y)]
section
variable {P:Program} {T:Tab} {σ σ' : PS} {o:Oper} {i base:Nat} {ops:Array Oper} {ok:Nat→Nat→Bool} {rest:List (Nat×Oper)} {K:PS→Prop}
theorem PWops.applyE {E:Option Eff} (hg:pguard ops σ o=some true) (hE:presE T (headB ops o.dst) (base+i) (σ.only (ok i)) o.op=E) (hb:σ.freeB (base+i)=true) (h:Go.Proofs.YtoamkpgaaanafaaGreat.applyE σ o.dst E=some σ') (k:PWops P T ops base ok rest K σ'):PWops P T ops base ok ((i,o) :: rest) K σ:=by
 have fin:∀e,E=some e→σ.app o.dst e=σ'→PWops P T ops base ok ((i,o) :: rest) K σ:=fun e he h=>PWops.step hg (hE.trans he) hb (by rw [h];exact k)
 unfold Go.Proofs.YtoamkpgaaanafaaGreat.applyE at h
 split at h
 ·rename_i d v hd
  split at h
  ·rename_i n k' cs e
   split at h
   ·rename_i l hl
    cases h
    exact fin _ rfl (by rw [hd,flist_eq hl];rfl)
   ·cases h
  ·split at h
   ·rename_i p hp
    cases h
    exact fin _ rfl (by rw [hd,fval_eq hp];rfl)
   ·cases h
 ·rename_i d v s hd
  split at h
  ·rename_i p q hp hq
   cases h
   exact fin _ rfl (by rw [hd,fval_eq hp];simp only [PS.app,fval_eq hq];rfl)
  ·cases h
 ·rename_i d v id cs hd
  split at h
  ·rename_i p l hp hl
   cases h
   exact fin _ rfl (by rw [hd,fval_eq hp,flist_eq hl];rfl)
  ·cases h
 ·rename_i v id cs hd
  split at h
  ·rename_i l hl
   cases h
   exact fin _ rfl (by rw [hd,flist_eq hl];rfl)
  ·cases h
 ·rename_i v id cs s hd
  split at h
  ·rename_i l q hl hq
   cases h
   exact fin _ rfl (by rw [hd,flist_eq hl];simp only [PS.app,fval_eq hq];rfl)
  ·cases h
 ·cases h
theorem PWops.stepA (h:stepF T ops base ok i o σ=some σ') (k:PWops P T ops base ok rest K σ'):PWops P T ops base ok ((i,o) :: rest) K σ:=by
 unfold stepF at h
 split at h
 ·rename_i hg
  split at h
  ·rename_i d hd
   cases h
   exact PWops.pass hg hd k
  ·cases h
 ·rename_i hg
  split at h
  ·cases h
  ·split at h
   ·cases h
   ·rename_i hb
    split at h
    ·rename_i d p hd hq
     cases h
     unfold quick at hq
     split at hq
     ·rename_i x hop
      split at hq
      ·rename_i p' hp
       split at hq
       ·cases hq
       ·rename_i hn
        cases hq
        exact PWops.mvC hop hg hd (fcell_eq hp) (by simpa using hn) hb k
      ·cases hq
     ·rename_i x ix hop
      split at hq
      ·rename_i vs hx
       split at hq
       ·rename_i c hc
        split at hq
        ·rename_i p' hp
         split at hq
         ·cases hq
         ·rename_i hn
          cases hq
          have hcp:=fcell_eq hp
          subst hcp
          exact PWops.valEq hg hd (p:=c) (by simp only [hop,presE,pvalA,pval,pev_only,hx,hc,Option.map_some,PV.bare_of _ (by simpa using hn:c.ownB=false)]) rfl hb k
        ·cases hq
       ·cases hq
      ·cases hq
     ·rename_i t x hop
      split at hq
      ·rename_i id off hx
       split at hq
       ·rename_i bs ti h1 h2 h3
        split at hq
        ·cases hq
        ·rename_i ha
         split at hq
         ·rename_i c hc
          split at hq
          ·rename_i p' hp
           split at hq
           ·cases hq
           ·rename_i hn
            cases hq
            exact PWops.ldV hop hg hd hx (by simp only [PS.only,h1,if_true];exact h2) hc h3 (by simpa using ha) hp (by simpa using hn) hb k
          ·cases hq
         ·cases hq
       ·cases hq
      ·cases hq
     ·cases hq
    ·exact PWops.applyE hg rfl hb h k
 ·cases h
theorem PWops.doneI {l:List (Nat×Oper)} (h:l.isEmpty=true) (k:K σ):PWops P T ops base ok l K σ:=by
 cases l with
 |nil=>exact k
 |cons x l=>cases h
def isQuo:Op→Bool
 | .binOp .quo _ _ _ _=>true
 |_=>false
def isRem:Op→Bool
 | .binOp .rem _ _ _ _=>true
 |_=>false
theorem PWops.remK {d:Nat} {x y:Int} (hk:isRem o.op=true) (hg:pguard ops σ o=some true) (hd:o.dst=some d) (hE:feff (presE T (headB ops o.dst) (base+i) (σ.only (ok i)) o.op)=some (.val (.int .i64 (x.tmod y)))) (h:0≤x∧0≤y) (hb:σ.freeB (base+i)=true) (k:PWops P T ops base ok rest K (σ.put d (.val (.int .i64 (x % y))))):PWops P T ops base ok ((i,o) :: rest) K σ:=
 PWops.int _ hg hd hE (Int.tmod_eq_emod_of_nonneg h.1) hb k
theorem PWops.quoK {d:Nat} {x y:Int} (hk:isQuo o.op=true) (hg:pguard ops σ o=some true) (hd:o.dst=some d) (hE:feff (presE T (headB ops o.dst) (base+i) (σ.only (ok i)) o.op)=some (.val (.int .i64 (IntKind.i64.wrap (x.tdiv y))))) (h:0≤x∧0 < y∧x≤9223372036854775807) (hb:σ.freeB (base+i)=true) (k:PWops P T ops base ok rest K (σ.put d (.val (.int .i64 (x / y))))):PWops P T ops base ok ((i,o) :: rest) K σ:=by
 have h1:x.tdiv y=x / y:=Int.tdiv_eq_ediv_of_nonneg h.1
 have h2:0≤x / y:=Int.ediv_nonneg h.1 (by omega)
 have h3:x / y≤x:=Int.ediv_le_self _ h.1
 exact PWops.int _ hg hd hE (by rw [h1,wrap64_id (by omega) (by omega)]) hb k
theorem PWops.idd {l:List (Nat×Oper)} (h:PWops P T ops base ok l K σ):PWops P T ops base ok l K σ:=h
theorem PW.idd {M:Nat} {c:Code} {Q:Exit→PS→Prop} (h:PW P M c Q σ):PW P M c Q σ:=h
theorem PWops.slcRL {α:Type} {d e by_ n k:Nat} {zl:Int} {kl:IntKind} {f:α→List PV} {L:List α} {zr:List PV} {own:Option TypeId} {x lo:Operand} {t:TypeId} {ti:TyI} (hg:pguard ops σ o=some true) (hd:o.dst=some d) (hop:o.op = .slice t x (some lo) none none) (hx:pev σ x = .sl n k (L.flatMap f) own) (hlo:pev σ lo = .val (.int kl zl)) (ht:T.at t=some ti) (hk:ti.kind = .slice e k by_ zr) (hb:σ.freeB (base+i)=true)
  (hf:∀x,(f x).length=k) (h1:0≤zl∧zl≤n∧n=L.length) (kn:PWops P T ops base ok rest K (σ.put d (.sl (L.drop zl.toNat).length k ((L.drop zl.toNat).flatMap f) none))):PWops P T ops base ok ((i,o) :: rest) K σ:=by
 refine PWops.slc zl.toNat n hg hd hop hx ht hk hb rfl ?_ ?_
 ·simp only [Option.map_some,hlo,pbound];rw [if_pos ⟨h1.1,by omega⟩]
 ·have:PV.sl (n - zl.toNat) k (((L.flatMap f).drop (zl.toNat * k)).take ((n - zl.toNat) * k)) none = .sl (L.drop zl.toNat).length k ((L.drop zl.toNat).flatMap f) none:=by
   refine sl_eq (by rw [List.length_drop];omega) ?_
   rw [flatMap_drop hf,List.take_of_length_le (by rw [flatMap_len hf,List.length_drop,h1.2.2];exact Nat.le_refl _)]
  rw [this];exact kn
theorem PWops.slcRH {α:Type} {d e by_ n k:Nat} {zh:Int} {kh:IntKind} {f:α→List PV} {L:List α} {zr:List PV} {own:Option TypeId} {x hi:Operand} {t:TypeId} {ti:TyI} (hg:pguard ops σ o=some true) (hd:o.dst=some d) (hop:o.op = .slice t x none (some hi) none) (hx:pev σ x = .sl n k (L.flatMap f) own) (hhi:pev σ hi = .val (.int kh zh)) (ht:T.at t=some ti) (hk:ti.kind = .slice e k by_ zr) (hb:σ.freeB (base+i)=true)
  (hf:∀x,(f x).length=k) (h1:0≤zh∧zh≤n∧n=L.length) (kn:PWops P T ops base ok rest K (σ.put d (.sl (L.take zh.toNat).length k ((L.take zh.toNat).flatMap f) none))):PWops P T ops base ok ((i,o) :: rest) K σ:=by
 refine PWops.slc 0 zh.toNat hg hd hop hx ht hk hb ?_ rfl ?_
 ·simp only [Option.map_some,hhi,pbound];rw [if_pos ⟨h1.1,h1.2.1⟩]
 ·have:PV.sl (zh.toNat - 0) k (((L.flatMap f).drop (0 * k)).take ((zh.toNat - 0) * k)) none = .sl (L.take zh.toNat).length k ((L.take zh.toNat).flatMap f) none:=by
   refine sl_eq (by rw [List.length_take];omega) ?_
   rw [Nat.zero_mul,List.drop_zero,Nat.sub_zero,flatMap_take hf]
  rw [this];exact kn
end
theorem Weak.sl {n k:Nat} {own:Option TypeId} {ps qs:List PV} (h:WeakL ps qs):Weak (.sl n k ps own) (.sl n k qs none):=by
 refine ⟨fun Φ μ v hr=>?_,fun e=>by simp [PV.ownB] at e⟩
 cases hr with
 |sl0 _ _ a cap hc=>
  cases h
  exact .sl0 _ _ _ _ hc
 |sl _ _ _ _ b off cap us h1 h2 h3 hp hr=>
  have hl:=h.len
  refine .sl n k qs none b off cap us (by rw [←hl];exact h1) h2 h3 (fun j hj=>hp j (by rw [hl];exact hj)) (fun j c hj=>?_)
  obtain ⟨p,hpj,hw⟩:=h.get j c hj
  exact hw.1 _ _ _ (hr j p hpj)
theorem WeakL.refl:∀(ps:List PV),WeakL ps ps
 | []=>.nil
 |p :: ps=>.cons (.refl p) (WeakL.refl ps)
theorem PCalls.args {P:Program} {f:FuncId} {ps qs:List PV} {post:PV→Prop} (h:PCalls P f qs post) (hw:WeakL ps qs):PCalls P f ps post:=by
 refine ⟨h.1,fun Φ μ w vs himm hgl hr=>h.2 Φ μ w vs himm hgl ⟨by rw [hr.1,hw.len],fun j c u hc hu=>?_⟩⟩
 obtain ⟨p,hp,hw'⟩:=hw.get j c hc
 exact hw'.1 _ _ _ (hr.2 j p u hp hu)
end Go.Proofs.YtoamkpgaaanafaaGreat

/- Pure states: a region that draws its order, in which different variables are told apart by what the slots point to when it begins. -/
namespace Go.Proofs.YtoamkpgaaanafaaGreat
set_option linter.unusedSimpArgs false
set_option linter.unusedVariables false
set_option linter.unnecessarySimpa false
open Go.RowKit
def defOf (a:Nat):List Oper→Nat→Option (Nat×Op)
 | [],_=>none
 |o :: r,k=>match o.dst with
  |some d=>if Nat.beq d a then some (k,o.op) else defOf a r (k+1)
  |none=>defOf a r (k+1)
def tgtGo (env:Nat→Option Nat) (base:Nat) (ops:List Oper):Nat→Nat→Option Nat
 |0,_=>none
 |n+1,a=>match defOf a ops 0 with
  |some (k, .alloc _)=>some (base+k)
  |some (k, .box _ _)=>some (base+k)
  |some (_, .fieldAddr _ (.tmp b) _)=>tgtGo env base ops n b
  |some (_, .move (.tmp b))=>tgtGo env base ops n b
  |some (_, .nilCheck (.tmp b))=>tgtGo env base ops n b
  |some (_, .indexAddr _ (.tmp b) _)=>tgtGo env base ops n b
  |some (_, .slice _ (.tmp b) _ _ _)=>tgtGo env base ops n b
  |some _=>none
  |none=>env a
def tgtOf (env:Nat→Option Nat) (base:Nat) (ops:List Oper) (o:Oper):Option Nat:=match o.op with
 | .store _ (.tmp a) _=>tgtGo env base ops 6 a
 | .load _ (.tmp a)=>tgtGo env base ops 6 a
 |_=>none
def envOf (σ:PS) (a:Nat):Option Nat:=match σ.t a with
 | .ptr id _=>some id
 | .msl id _ _ _=>some id
 |_=>none
def okE (env:Nat→Option Nat) (ops:List Oper) (base i id:Nat):Bool:=okD (clos ops) base ops.length i id && (match (ops[i]?).bind (tgtOf env base ops) with|some k=>Nat.beq id k|none=>true)
def sepE (env:Nat→Option Nat) (base:Nat) (ops:List Oper) (iy ix:Nat) (y x:Oper):Bool:=
 (match tgtOf env base ops y with|some k => !okE env ops base ix k|none=>false) || (match tgtOf env base ops x with|some k => !okE env ops base iy k|none=>false)
theorem sepE_ok {env:Nat→Option Nat} {ops:List Oper} {base iy ix:Nat} {y x:Oper} (hy:ops[iy]? = some y) (hx:ops[ix]? = some x) (hs:sepE env base ops iy ix y x=true) (j:Nat) (h1:okE env ops base iy j=true) (h2:okE env ops base ix j=true):False:=by
 have res:∀(i:Nat) o k,ops[i]? = some o→okE env ops base i j=true→tgtOf env base ops o=some k→j=k:=by
  intro i o k ho h hr
  simp only [okE,ho,Option.bind_some,hr,Bool.and_eq_true] at h
  exact Nat.eq_of_beq_eq_true h.2
 simp only [sepE,Bool.or_eq_true] at hs
 rcases hs with hs|hs
 ·cases hr:tgtOf env base ops y with
  |none=>rw [hr] at hs;cases hs
  |some k=>
   rw [hr] at hs
   have e:=res iy y k hy h1 hr
   subst e
   simp [h2] at hs
 ·cases hr:tgtOf env base ops x with
  |none=>rw [hr] at hs;cases hs
  |some k=>
   rw [hr] at hs
   have e:=res ix x k hx h2 hr
   subst e
   simp [h1] at hs
def indE (env:Nat→Option Nat) (base:Nat) (ops:Array Oper) (iy ix:Nat) (y x:Oper):Bool:=
 (match y.dst,x.dst with|some a,some b=>a != b|_,_=>true) &&
 (match y.dst with|some a => !(tmpsOf x.op.operands.toList).contains a && !(guardT ops x).contains a|none=>true) &&
 (match x.dst with|some b => !(tmpsOf y.op.operands.toList).contains b && !(guardT ops y).contains b|none=>true) &&
 (takesB (headB ops y.dst) y).all (fun s => !(takesB (headB ops x.dst) x).contains s) &&
 (!(mapW (headB ops y.dst) y && mapU x) && !(mapW (headB ops x.dst) x && mapU y)) &&
 ((!(storeB y && usesBox x) && !(storeB x && usesBox y) && !(isStore (headB ops y.dst) y && isStore (headB ops x.dst) x)) || sepE env base ops.toList iy ix y x)
def drawE (env:Nat→Option Nat) (base:Nat) (ops:List Oper):Bool:=
 let cl:=clos ops
 (indexed 0 ops).all fun x=>x.2.after.toList.all (fun e => !Region.binds .any e || decide (e.on < x.1)) &&
  (indexed 0 ops).all fun y => !decide (y.1 < x.1) || (cl.getD x.1 []).contains y.1 || indE env base ops.toArray y.1 x.1 y.2 x.2
section
variable {P:Program} {T:Tab} {σ:PS} {ops:Array Oper} {base:Nat} {ok:Nat→Nat→Bool}
theorem ind_partsE {env:Nat→Option Nat} {eb:Nat} {iy ix:Nat} {y x:Oper} (h:indE env eb ops iy ix y x=true):Ind ops (sepE env eb ops.toList iy ix y x=true) y x:=by
 simp only [indE,Bool.and_eq_true,Bool.not_eq_true',Bool.or_eq_true (_ && _) (sepE _ _ _ _ _ _ _)] at h
 obtain ⟨⟨⟨⟨⟨h1,h2⟩,h3⟩,h4⟩,h6⟩,h5⟩:=h
 refine ⟨?_,?_,?_,?_,?_,?_,?_,?_,?_⟩
 ·intro a b ea eb
  rw [ea,eb] at h1
  simpa using h1
 ·intro a ea
  rw [ea] at h2
  simpa using h2
 ·intro a ea
  rw [ea] at h3
  simpa using h3
 ·intro s hs
  have:=List.all_eq_true.1 h4 s hs
  simpa using this
 ·intro e1 e2
  rcases h5 with h5|h5
  ·simp only [e1,e2,Bool.and_eq_true,Bool.not_eq_true',Bool.and_true,Bool.true_and] at h5
   simp at h5
  ·exact h5
 ·intro e1 e2
  rcases h5 with h5|h5
  ·simp only [e1,e2,Bool.and_eq_true,Bool.not_eq_true',Bool.and_true,Bool.true_and] at h5
   simp at h5
  ·exact h5
 ·intro e1 e2
  rcases h5 with h5|h5
  ·simp only [e1,e2,Bool.and_eq_true,Bool.not_eq_true',Bool.and_true,Bool.true_and] at h5
   simp at h5
  ·exact h5
 ·intro e1 e2
  have:=h6.1
  rw [e1,e2] at this;cases this
 ·intro e1 e2
  have:=h6.2
  rw [e1,e2] at this;cases this
end
theorem PWops.bubbleE {P:Program} {T:Tab} {ops:Array Oper} {base:Nat} {ok:Nat→Nat→Bool} {env:Nat→Option Nat} {eb:Nat} {ix:Nat} {x:Oper} {post:List (Nat×Oper)} {Q:PS→Prop} : ∀(pre:List (Nat×Oper)) (σ:PS),(∀y∈pre,(indE env eb ops y.1 ix y.2 x=true∧(sepE env eb ops.toList y.1 ix y.2 x=true→∀j,ok y.1 j=true→ok ix j=true→False))∧y.1≠ix∧ok ix (base+y.1)=false∧ok y.1 (base+ix)=false) →
  PWops P T ops base ok (pre ++ (ix,x) :: post) Q σ→PWops P T ops base ok ((ix,x) :: (pre ++ post)) Q σ
 | [],σ,_,h=>h
 |(iy,y) :: pre,σ,hall,h=>by
  obtain ⟨h1,h2,h3,h4⟩:=hall (iy,y) (by simp)
  have ih:=PWops.bubbleE (P:=P) (T:=T) (ops:=ops) (base:=base) (ok:=ok) (env:=env) (eb:=eb) (ix:=ix) (x:=x) (post:=post) (Q:=Q) pre
  have:PWop P T ops base ok iy y (PWop P T ops base ok ix x (PWops P T ops base ok (pre ++ post) Q)) σ:=
   PWop.mono (fun σ' h' => ih σ' (fun z hz=>hall z (by simp [hz])) h') h
  exact PWop.swap (ind_partsE h1.1) h1.2 h2 h3 h4 this
theorem draw_partsE {env:Nat→Option Nat} {eb:Nat} {ops:List Oper} (h:drawE env eb ops=true):(∀(i:Nat) o,ops[i]? = some o→∀e∈o.after.toList,Region.binds .any e=true→e.on < i) ∧
  (∀(i j:Nat) x y,ops[i]? = some x→ops[j]? = some y→j < i→j∈(clos ops).getD i []∨indE env eb ops.toArray j i y x=true):=by
 have hm:∀(i:Nat) o,ops[i]? = some o→(i,o)∈indexed 0 ops:=by
  have:∀(l:List Oper) (k i:Nat) o,l[i]? = some o→(k+i,o)∈indexed k l:=by
   intro l
   induction l with
   |nil=>intro k i o h;simp at h
   |cons p l ih=>
    intro k i o h
    cases i with
    |zero=>simp at h;subst h;simp [indexed]
    |succ i=>
     simp at h
     have:=ih (k+1) i o h
     simp only [indexed,List.mem_cons]
     right
     rw [show k+(i+1)=k+1+i by omega];exact this
  intro i o h
  have:=this ops 0 i o h
  rwa [Nat.zero_add] at this
 simp only [drawE] at h
 have h':=List.all_eq_true.1 h
 refine ⟨fun i o ho e he hb=>?_,fun i j x y hx hy hji=>?_⟩
 ·have:=h' _ (hm i o ho)
  simp only [Bool.and_eq_true] at this
  have:=List.all_eq_true.1 this.1 e he
  simpa [hb] using this
 ·have:=h' _ (hm i x hx)
  simp only [Bool.and_eq_true] at this
  have:=List.all_eq_true.1 this.2 _ (hm j y hy)
  simp only [hji,decide_true,Bool.not_true,Bool.false_or,Bool.or_eq_true,List.contains_iff_mem] at this
  exact this
section
variable {Φ0:Ent} {W:World} {M:Nat} {P:Program} {T:Tab} {ops:List Oper} {base:Nat} {env:Nat→Option Nat}
theorem any_soundE (hT:T=tabOf P) (hbase:base+ops.toArray.size≤1000000) (hall:∀(j:Nat) o,ops.toArray[j]? = some o→dstB M o=true) (hdraw:drawE env base ops=true) {Q:PS→Prop} {Q' : Exit→Act→World→Prop} (hQ:∀σ a w,Q σ→Rel Φ0 W M σ a w→Q' .normal a w) {r:Option Nat} :
  ∀(fuel:Nat) (listed:Array Bool) (σ:PS) (a:Act) (w:World),unlisted listed≤fuel→listed.size=ops.length→(∀(i:Nat) o,ops[i]? = some o→listed.getD i false=true→∀j,depO o j=true→listed.getD j false=true) →
   PWops P T ops.toArray base (okE env ops base) ((indexed 0 ops).filter fun x => !listed.getD x.1 false) Q σ→Rel Φ0 W M σ a w→wpAnyIn (FW r) 0 P .any ops.toArray Q' fuel listed a w:=by
 obtain ⟨hE,hI⟩:=draw_partsE hdraw
 have hsz:∀listed:Array Bool,listed.size=ops.length→listed.size=ops.toArray.size:=fun l h=>by simpa using h
 have fin:∀(listed:Array Bool) (σ:PS) (a:Act) (w:World),listed.size=ops.length→(∀i,i < ops.length→listed.getD i false=true) →
   PWops P T ops.toArray base (okE env ops base) ((indexed 0 ops).filter fun x => !listed.getD x.1 false) Q σ→Rel Φ0 W M σ a w→Q' .normal a w:=by
  intro listed σ a w hs hl h hr
  have:((indexed 0 ops).filter fun x => !listed.getD x.1 false) = []:=by
   rw [List.filter_eq_nil_iff]
   intro x hx
   obtain ⟨-,h2⟩:=indexed_mem 0 ops x hx
   have:x.1 < ops.length:=by have:=(List.getElem?_eq_some_iff.1 h2).1;omega
   simp [hl x.1 this]
  rw [this] at h
  exact hQ σ a w h hr
 have alls:∀listed:Array Bool,listed.size=ops.length→Region.ready .any ops.toArray listed = []→∀i,i < ops.length→listed.getD i false=true:=by
  intro listed hs hr i
  induction i using Nat.strongRecOn with
  |_ i ih=>
   intro hi
   have ho:ops.toArray[i]? = some ops[i]:=by simp [hi]
   cases hl:listed.getD i false with
   |true=>rfl
   |false=>
    have:i∈Region.ready .any ops.toArray listed:=(mem_ready (hsz listed hs)).2 ⟨ops[i],ho,hl,fun j hj=>by
     obtain ⟨e,he,hb,rfl⟩:=depO_iff.1 hj
     have:=hE i ops[i] (by simp [hi]) e he hb
     exact ih e.on this (by omega)⟩
    rw [hr] at this;cases this
 intro fuel
 induction fuel with
 |zero=>
  intro listed σ a w hu hs hcl h hr
  have hl:=unlisted_zero (Nat.le_zero.1 hu)
  rw [hs] at hl
  refine ⟨?_,fin listed σ a w hs hl h hr⟩
  apply List.eq_nil_iff_forall_not_mem.2
  intro i hi
  obtain ⟨o,ho,h1,_⟩:=(mem_ready (hsz listed hs)).1 hi
  rw [hl i (by have:=(Array.getElem?_eq_some_iff.1 ho).1;simpa using this)] at h1
  cases h1
 |succ fuel ih=>
  intro listed σ a w hu hs hcl h hr
  refine ⟨fun hrd=>fin listed σ a w hs (alls listed hs hrd) h hr,fun i hi=>?_⟩
  obtain ⟨o,ho,h1,h2⟩:=(mem_ready (hsz listed hs)).1 hi
  have ho' : ops[i]? = some o:=by simpa using ho
  have hil:i < ops.length:=(List.getElem?_eq_some_iff.1 ho').1
  have hmem:(i,o)∈(indexed 0 ops).filter fun x => !listed.getD x.1 false:=by
   rw [List.mem_filter]
   refine ⟨?_,by simp [h1]⟩
   have:∀(l:List Oper) (k i:Nat) o,l[i]? = some o→(k+i,o)∈indexed k l:=by
    intro l
    induction l with
    |nil=>intro k i o h;simp at h
    |cons p l ih=>
     intro k i o h
     cases i with
     |zero=>simp at h;subst h;simp [indexed]
     |succ i=>
      simp at h
      have:=ih (k+1) i o h
      simp only [indexed,List.mem_cons]
      right
      rw [show k+(i+1)=k+1+i by omega];exact this
   have:=this ops 0 i o ho'
   rwa [Nat.zero_add] at this
  obtain ⟨pre,post,hL⟩:=List.append_of_mem hmem
  have hsort:((indexed 0 ops).filter fun x => !listed.getD x.1 false).Pairwise (fun a b=>a.1 < b.1):=(indexed_sorted 0 ops).filter _
  rw [hL] at h hsort
  rw [List.pairwise_append] at hsort
  obtain ⟨-,hs2,hs3⟩:=hsort
  rw [List.pairwise_cons] at hs2
  have hpre:∀y∈pre,y.1 < i:=fun y hy=>hs3 y hy (i,o) (by simp)
  have hpost:∀y∈post,i < y.1:=fun y hy=>hs2.1 y hy
  have hprem:∀y∈pre,ops[y.1]? = some y.2∧listed.getD y.1 false=false:=by
   intro y hy
   have:y∈(indexed 0 ops).filter fun x => !listed.getD x.1 false:=by rw [hL];simp [hy]
   rw [List.mem_filter] at this
   obtain ⟨-,q⟩:=indexed_mem 0 ops y this.1
   exact ⟨by simpa using q,by simpa using this.2⟩
  have hb:=PWops.bubbleE (P:=P) (T:=T) (base:=base) (ok:=okE env ops base) (env:=env) (eb:=base) (ix:=i) (x:=o) (post:=post) (Q:=Q) pre σ (by
   intro y hy
   obtain ⟨q1,q2⟩:=hprem y hy
   have hlt:=hpre y hy
   have hnc:y.1∉(clos ops).getD i []:=fun hc=>by
    rw [clos_listed hE hcl i o ho' h2 y.1 hc] at q2;cases q2
   have hyl:y.1 < ops.length:=(List.getElem?_eq_some_iff.1 q1).1
   refine ⟨⟨by simpa using (hI i y.1 o y.2 ho' q1 hlt).resolve_left hnc,fun hs j hj1 hj2=>sepE_ok (ops:=ops) q1 ho' (by simpa using hs) j hj1 hj2⟩,by omega,?_,?_⟩
   ·rw [okE,Bool.and_eq_false_iff];left
    simp only [okD,Bool.or_eq_false_iff,decide_eq_false_iff_not]
    refine ⟨⟨by omega,by omega⟩,?_⟩
    rw [Nat.add_sub_cancel_left]
    simpa using hnc
   ·rw [okE,Bool.and_eq_false_iff];left
    simp only [okD,Bool.or_eq_false_iff,decide_eq_false_iff_not]
    refine ⟨⟨by omega,by omega⟩,?_⟩
    rw [Nat.add_sub_cancel_left]
    have:i∉(clos ops).getD y.1 []:=fun hc=>by have:=clos_lt hE y.1 y.2 q1 i hc;omega
    simpa using this) h
  have hset:listed.getD i false=false:=h1
  have hlt:i < listed.size:=by rw [hs];exact hil
  have hrem:pre ++ post=(indexed 0 ops).filter fun x => !(listed.setIfInBounds i true).getD x.1 false:=by
   have e1:((indexed 0 ops).filter fun x => !(listed.setIfInBounds i true).getD x.1 false)=((indexed 0 ops).filter fun x => !listed.getD x.1 false).filter (fun x => !decide (x.1=i)):=by
    rw [List.filter_filter]
    congr 1
    funext x
    rw [getD_set _ _ _ hlt]
    cases listed.getD x.1 false<;>simp
   rw [e1,hL,List.filter_append,List.filter_cons]
   have e2:pre.filter (fun x => !decide (x.1=i))=pre:=List.filter_eq_self.2 (fun y hy=>by have:=hpre y hy;simp;omega)
   have e3:post.filter (fun x => !decide (x.1=i))=post:=List.filter_eq_self.2 (fun y hy=>by have:=hpost y hy;simp;omega)
   rw [e2,e3]
   simp
  have hcl' : ∀(k:Nat) p,ops[k]? = some p→(listed.setIfInBounds i true).getD k false=true→∀j,depO p j=true→(listed.setIfInBounds i true).getD j false=true:=by
   intro k p hp hk j hj
   rw [getD_set _ _ _ hlt] at hk ⊢
   simp only [Bool.or_eq_true,decide_eq_true_eq] at hk ⊢
   rcases hk with rfl|hk
   ·rw [ho'] at hp;cases hp;exact .inr (h2 j hj)
   ·exact .inr (hcl k p hp hk j hj)
  have hstep:=op_sound (Φ0:=Φ0) (W:=W) (M:=M) hT hall (base:=base) hbase ho (K':=wpAnyIn (FW r) 0 P .any ops.toArray Q' fuel (listed.setIfInBounds i true)) (Q':=Q') (fun σ' a' w' hk hr' => ih (listed.setIfInBounds i true) σ' a' w' (by have:=unlisted_set listed i hlt hset;omega) (by simpa using hs) hcl' (by rw [←hrem];exact hk) hr') hb hr
  unfold wpOpIn
  rw [ho]
  simp only
  split
  ·rename_i hw;rw [if_pos hw] at hstep;exact wpIn_of_wp (dstB_defer (hall i o ho)) hstep
  ·rename_i hw;rw [if_neg hw] at hstep;exact ⟨fun _ _=>trivial,hstep⟩
theorem PW.drawE {Q:Exit→PS→Prop} {σ:PS} (hT:T=tabOf P) (hm:P.follows .mixedOrders=true) {id:Nat} (hall2:(ops.all (dstB M) && Nat.ble (1000 * id+ops.length) 1000000)=true) (hd:drawE (envOf σ) (1000 * id) ops=true)
  (h:PWops P T ops.toArray (1000 * id) (okE (envOf σ) ops (1000 * id)) (indexed 0 ops) (Q .normal) σ):PW P M (.region id ops.toArray true) Q σ:=by
 intro Φ0 W a w hr
 have hall2':=hall2
 simp only [Bool.and_eq_true] at hall2'
 obtain ⟨hall,hb0⟩:=hall2'
 have hbase:=Nat.le_of_ble_eq_true hb0
 refine wpIn_region_any hm ?_
 obtain ⟨Φ,μ,ω,hg⟩:=hr
 refine any_soundE (Φ0:=Φ0) (W:=W) (M:=M) (base:=1000 * id) (env:=envOf σ) (Q:=Q .normal) hT (by simpa using hbase) (by
  intro j o hj
  exact List.all_eq_true.1 hall o (mem_of_get (by simpa using hj))) hd (fun σ a w hq hrel=>⟨_,Φ0,W,hq,Later.refl _ _,hrel⟩) _ _ σ a _ ?_ (by simp) ?_ ?_ ⟨Φ,μ,ω,hg.drew⟩
 ·unfold unlisted
  exact Nat.le_trans List.countP_le_length (by simp)
 ·intro i o ho hl
  simp [Array.getD_eq_getD_getElem?,Array.getElem?_replicate] at hl
  split at hl<;>simp_all
 ·have:((indexed 0 ops).filter fun x => !(Array.replicate ops.toArray.size false).getD x.1 false)=indexed 0 ops:=by
   rw [List.filter_eq_self]
   intro x _
   simp [Array.getD_eq_getD_getElem?,Array.getElem?_replicate]
   split<;>rfl
  rw [this]
  exact h
end
end Go.Proofs.YtoamkpgaaanafaaGreat

/- Pure states: steps at variables in memory whose cells are lists that are not written out; maps; the entries of a map one after the other. -/
namespace Go.Proofs.YtoamkpgaaanafaaGreat
set_option linter.unusedSimpArgs false
set_option linter.unusedVariables false
set_option linter.unnecessarySimpa false
open Go.RowKit
section
variable {P:Program} {T:Tab} {σ:PS} {o:Oper} {i base:Nat} {ops:Array Oper} {ok:Nat→Nat→Bool} {rest:List (Nat×Oper)} {K:PS→Prop}
theorem pres_pval {d:Nat} {p:PV} (hg:pguard ops σ o=some true) (hd:o.dst=some d) (hE:presE T (headB ops o.dst) (base+i) (σ.only (ok i)) o.op=some ⟨p,[],none,[]⟩) (hb:σ.freeB (base+i)=true) (k:PWops P T ops base ok rest K (σ.put d p)):PWops P T ops base ok ((i,o) :: rest) K σ:=
 PWops.valEq hg hd hE rfl hb k
theorem PWops.idxM {d n k m e by_ o' : Nat} {z:Int} {zr:List PV} {kk:IntKind} {x ix:Operand} {t:TypeId} {ti:TyI} (hg:pguard ops σ o=some true) (hd:o.dst=some d) (hop:o.op = .indexAddr t x ix) (hx:pev σ x = .msl m o' n k) (hi:pev σ ix = .val (.int kk z)) (ht:T.at t=some ti) (hk:ti.kind = .slice e k by_ zr) (hb:σ.freeB (base+i)=true) (h0:0≤z∧z < n)
  (kn:PWops P T ops base ok rest K (σ.put d (.ptr m (o' + z.toNat * k)))):PWops P T ops base ok ((i,o) :: rest) K σ:=by
 refine pres_pval hg hd ?_ hb kn
 have h1:k=k∧(0:Int)≤z∧z < (n:Int):=⟨rfl,h0.1,h0.2⟩
 simp [hop,presE,pvalA,pval,pev_only,hx,hi,ht,hk,pindexAt,h1]
theorem PWops.idxP {d n k m o' : Nat} {e:TypeId} {ag:Bool} {z:Int} {kk:IntKind} {x ix:Operand} {t:TypeId} {ti:TyI} (hg:pguard ops σ o=some true) (hd:o.dst=some d) (hop:o.op = .indexAddr t x ix) (hx:pev σ x = .ptr m o') (hi:pev σ ix = .val (.int kk z)) (ht:T.at t=some ti) (hk:ti.kind = .arr n e k ag) (hb:σ.freeB (base+i)=true) (h0:0≤z∧z < n)
  (kn:PWops P T ops base ok rest K (σ.put d (.ptr m (o' + z.toNat * k)))):PWops P T ops base ok ((i,o) :: rest) K σ:=by
 refine pres_pval hg hd ?_ hb kn
 have h1:(0:Int)≤z∧z < (n:Int):=h0
 simp [hop,presE,pvalA,pval,pev_only,hx,hi,ht,hk,pindexAt,h1]
theorem ploadO_ptr {hd:Bool} {b:Nat→Option (List PV)} {t:TypeId} {id off:Nat} {bs:List PV} {ti:TyI} (hb:b id=some bs) (ht:T.at t=some ti) (h:ti.agg=true∨∃c,bs[off]? = some c∧c.ownB=false):ploadO T hd b t (.ptr id off)=none:=by
 simp only [ploadO]
 split
 ·rw [hb]
  simp only
  rcases h with h|⟨c,hc,h⟩
  ·split
   ·rw [ht];simp [h]
   ·rfl
  ·rw [hc]
   cases c with
   |sl n k cs own=>cases own with
    |none=>rfl
    |some E=>simp [PV.ownB] at h
   |_=>rfl
 ·rfl
theorem PWops.ldBA {d off m id:Nat} {bs row:List PV} {x:Operand} {t:TypeId} {kd:TD} {zr:List PV} {es:List SK} (hg:pguard ops σ o=some true) (hd:o.dst=some d) (hop:o.op = .load t x) (hx:pev σ x = .ptr id off) (ht:T.at t=some ⟨m,true,kd,zr,es⟩) (hb:σ.freeB (base+i)=true) (hbs:(σ.only (ok i)).b id=some bs) (hl:off+m≤bs.length) (hr:((bs.drop off).take m).map PV.bare=row)
  (kn:PWops P T ops base ok rest K (σ.put d (.agg row))):PWops P T ops base ok ((i,o) :: rest) K σ:=by
 refine PWops.valEq hg hd (p:=.agg (((bs.drop off).take m).map PV.bare)) ?_ (by rw [hr]) hb kn
 have h1:=ploadO_ptr (T:=T) (hd:=headB ops o.dst) (off:=off) hbs ht (.inl rfl)
 simp only [hop,presE,pev_only,hx,h1,pvalA,pval,ht,ploadAt,hbs,asVal,if_true,hl,Option.map_some]
theorem PWops.ldB {d off id:Nat} {bs:List PV} {c:PV} {x:Operand} {t:TypeId} {ti:TyI} (hg:pguard ops σ o=some true) (hd:o.dst=some d) (hop:o.op = .load t x) (hx:pev σ x = .ptr id off) (ht:T.at t=some ti) (ha:ti.agg=false) (hb:σ.freeB (base+i)=true) (hbs:(σ.only (ok i)).b id=some bs) (hc:bs[off]? = some c) (hn:c.ownB=false)
  (kn:PWops P T ops base ok rest K (σ.put d c)):PWops P T ops base ok ((i,o) :: rest) K σ:=by
 refine PWops.valEq hg hd (p:=c) ?_ rfl hb kn
 have h1:=ploadO_ptr (T:=T) (hd:=headB ops o.dst) (off:=off) hbs ht (.inr ⟨c,hc,hn⟩)
 simp only [hop,presE,pev_only,hx,h1,pvalA,pval,ht,ploadAt,hbs,asVal,ha,hc,Bool.false_eq_true,if_false,Option.map_some,PV.bare_of _ hn]
theorem PWops.stB {off id:Nat} {bs new out:List PV} {x y:Operand} {t:TypeId} {ti:TyI} (hg:pguard ops σ o=some true) (hd:o.dst=none) (hop:o.op = .store t x y) (hx:pev σ x = .ptr id off) (hn:(ownPV σ y).ownB=false) (hp:pcells (pev σ y)=some new) (ht:T.at t=some ti) (hb:σ.freeB (base+i)=true) (hbs:(σ.only (ok i)).b id=some bs) (hl:new.length=ti.size∧off+new.length≤bs.length) (hout:splice bs off new=out)
  (kn:PWops P T ops base ok rest K (σ.setb id out)):PWops P T ops base ok ((i,o) :: rest) K σ:=by
 refine PWops.step hg (E:=⟨.tup [],[(id,out)],none,[]⟩) ?_ hb ?_
 ·have hn' : (ownPV (σ.only (ok i)) y).ownB=false:=by cases y<;>exact hn
  have hl1:=hl.1
  have hl2:=hl.2
  have hsp:=splF_eq _ _ _ hl2
  rw [hout] at hsp
  simp only [hop,presE,pev_only,hx,hn',hbs,ht,hp,Bool.false_eq_true,if_false]
  rw [if_pos ⟨hl1,hl2⟩,hsp]
 ·rw [hd];exact kn
theorem PWops.ldAll {d m id:Nat} {cs:List PV} {x:Operand} {t:TypeId} {kd:TD} {zr:List PV} {es:List SK} (hg:pguard ops σ o=some true) (hd:o.dst=some d) (hop:o.op = .load t x) (hx:pev σ x = .ptr id 0) (ht:T.at t=some ⟨m,true,kd,zr,es⟩) (hb:σ.freeB (base+i)=true) (hbs:(σ.only (ok i)).b id=some cs) (hl:cs.length=m) (hr:cs.map PV.bare=cs)
  (kn:PWops P T ops base ok rest K (σ.put d (.agg cs))):PWops P T ops base ok ((i,o) :: rest) K σ:=
 PWops.ldBA hg hd hop hx ht hb hbs (by omega) (by rw [List.drop_zero,List.take_of_length_le (by omega)];exact hr) kn
theorem PWops.stAll {id:Nat} {bs new:List PV} {x y:Operand} {t:TypeId} {ti:TyI} (hg:pguard ops σ o=some true) (hd:o.dst=none) (hop:o.op = .store t x y) (hx:pev σ x = .ptr id 0) (hn:(ownPV σ y).ownB=false) (hv:pev σ y = .agg new) (ht:T.at t=some ti) (hb:σ.freeB (base+i)=true) (hbs:(σ.only (ok i)).b id=some bs) (hl:new.length=ti.size) (hl2:bs.length=ti.size) (ho:new.all PV.one=true) (hr:new.map PV.bare=new)
  (kn:PWops P T ops base ok rest K (σ.setb id new)):PWops P T ops base ok ((i,o) :: rest) K σ:=
 PWops.stB hg hd hop hx hn (new:=new) (by rw [hv];simp only [pcells,ho,if_true,hr]) ht hb hbs ⟨hl,by omega⟩ (by
  have:splice bs 0 new=new:=by unfold splice;simp;omega
  exact this) kn
theorem PWops.boxA {d:Nat} {cs:List PV} {x:Operand} {t:TypeId} (hg:pguard ops σ o=some true) (hd:o.dst=some d) (hop:o.op = .box t x) (hx:pev σ x = .agg cs) (hb:σ.freeB (base+i)=true) (ho:cs.all PV.one=true) (hr:cs.map PV.bare=cs)
  (kn:PWops P T ops base ok rest K ((σ.setb (base+i) cs).put d (.ptr (base+i) 0))):PWops P T ops base ok ((i,o) :: rest) K σ:=by
 refine PWops.step hg (E:=⟨.ptr (base+i) 0,[(base+i,cs)],none,[]⟩) ?_ hb (by rw [hd];exact kn)
 have h1:(σ.only (ok i)).b (base+i)=none∧(σ.only (ok i)).m (base+i)=none:=by
  obtain ⟨q1,q2⟩:=PS.freeB_spec hb
  simp only [PS.only,q1,q2]
  constructor<;>split<;>rfl
 simp only [hop,presE,pev_only,hx,pcells,ho,if_true,hr,h1.1,h1.2]
theorem PWops.ldRB {α:Type} [Inhabited α] {d j k:Nat} {f:α→List PV} {l:List α} {x:Operand} {t:TypeId} {kd:TD} {zr:List PV} {es:List SK} (hg:pguard ops σ o=some true) (hd:o.dst=some d) (hop:o.op = .load t x) (hx:pev σ x = .ep (l.flatMap f) (j * k)) (ht:T.at t=some ⟨k,true,kd,zr,es⟩) (hb:σ.freeB (base+i)=true) (hk:∀x,(f x).length=k) (hl:j < l.length) (hr:∀x,(f x).map PV.bare=f x)
  (kn:PWops P T ops base ok rest K (σ.put d (.agg (f (l.getD j default))))):PWops P T ops base ok ((i,o) :: rest) K σ:=by
 refine PWops.ldA hg hd hop hx ht hb ?_ ?_ kn
 ·rw [flatMap_len hk]
  have:=Nat.mul_le_mul_right k (show j+1≤l.length from hl)
  rw [Nat.succ_mul] at this;exact this
 ·rw [flatMap_row hk (getD_get default hl)];exact hr _
theorem PWops.ldBR {α:Type} [Inhabited α] {d j k id:Nat} {f:α→List PV} {l:List α} {row:List PV} {x:Operand} {t:TypeId} {kd:TD} {zr:List PV} {es:List SK} (hg:pguard ops σ o=some true) (hd:o.dst=some d) (hop:o.op = .load t x) (hx:pev σ x = .ptr id (0+j * k)) (ht:T.at t=some ⟨k,true,kd,zr,es⟩) (hb:σ.freeB (base+i)=true) (hbs:(σ.only (ok i)).b id=some (l.flatMap f)) (hk:∀x,(f x).length=k) (hl:j < l.length) (hr:(f (l.getD j default)).map PV.bare=row)
  (kn:PWops P T ops base ok rest K (σ.put d (.agg row))):PWops P T ops base ok ((i,o) :: rest) K σ:=by
 refine PWops.ldBA hg hd hop hx ht hb hbs ?_ ?_ kn
 ·rw [flatMap_len hk]
  have:=Nat.mul_le_mul_right k (show j+1≤l.length from hl)
  rw [Nat.succ_mul] at this;omega
 ·rw [Nat.zero_add,flatMap_row hk (getD_get default hl)];exact hr
theorem PWops.ldBC {α:Type} [Inhabited α] {d j k r id:Nat} {f:α→List PV} {l:List α} {c:PV} {x:Operand} {t:TypeId} {ti:TyI} (hg:pguard ops σ o=some true) (hd:o.dst=some d) (hop:o.op = .load t x) (hx:pev σ x = .ptr id (0+j * k+r)) (ht:T.at t=some ti) (ha:ti.agg=false) (hb:σ.freeB (base+i)=true) (hbs:(σ.only (ok i)).b id=some (l.flatMap f)) (hk:∀x,(f x).length=k) (hl:j < l.length) (hc:(f (l.getD j default))[r]? = some c) (hn:c.ownB=false)
  (kn:PWops P T ops base ok rest K (σ.put d c)):PWops P T ops base ok ((i,o) :: rest) K σ:=
 PWops.ldB hg hd hop hx ht ha hb hbs (by rw [Nat.zero_add];exact flatMap_get hk (getD_get default hl) hc) hn kn
theorem PWops.lkp {d mid clock kt et:Nat} {x k:Operand} {t:TypeId} {okk:Bool} {es:List (Nat×PV×PV)} {kv:Value} {ti ki ei:TyI} {c:PV} {b:Bool} (hg:pguard ops σ o=some true) (hd:o.dst=some d) (hop:o.op = .lookup t x k okk) (hx:pev σ x = .mref mid) (hm:(σ.only (ok i)).m mid=some (.map es clock)) (hkv:pev σ k = .val kv) (ht:T.at t=some ti) (hk:ti.kind = .map kt et) (hki:T.at kt=some ki) (hei:T.at et=some ei) (hb:σ.freeB (base+i)=true)
  (hget:mget ki ei es kv=some (c,b)) (kn:PWops P T ops base ok rest K (σ.put d (if okk then .tup [c, .val (.bool b)] else c))):PWops P T ops base ok ((i,o) :: rest) K σ:=by
 refine PWops.valEq hg hd (p:=if okk then .tup [c, .val (.bool b)] else c) ?_ rfl hb kn
 simp only [hop,presE,pvalA,pval,pvalX,ht,hk,plookup,pev_only,hx,hkv,hki,hei,pents,hm,hget,Option.map_some]
theorem PWops.mput {mid clock kt et:Nat} {x k v:Operand} {t:TypeId} {es:List (Nat×PV×PV)} {kv:Value} {ti ki:TyI} {X:PMap} {p:PV} (hg:pguard ops σ o=some true) (hd:o.dst=none) (hop:o.op = .mapUpdate t x k v) (hx:pev σ x = .mref mid) (hm:(σ.only (ok i)).m mid=some (.map es clock)) (hkv:pev σ k = .val kv) (ht:T.at t=some ti) (hk:ti.kind = .map kt et) (hki:T.at kt=some ki) (hb:σ.freeB (base+i)=true)
  (hn:(ownPV σ v).ownB=false) (hv:pev σ v=p) (hput:Go.Proofs.YtoamkpgaaanafaaGreat.mput ki es clock kv p=some X) (kn:PWops P T ops base ok rest K (σ.setm mid X)):PWops P T ops base ok ((i,o) :: rest) K σ:=by
 refine PWops.stepM hg (E:=⟨.tup [],[],none,[(mid,X)]⟩) ?_ hb ?_
 ·have hn' : (ownPV (σ.only (ok i)) v).ownB=false:=by cases v<;>exact hn
  simp only [hop,presM,pput,ht,hk,hki,pev_only,hx,mapOf,hm,hkv,ownArg,hn',Bool.false_eq_true,if_false,hv,hput,Option.map_some]
 ·rw [hd];exact kn
theorem PWops.mdel {mid clock kt et:Nat} {x k:Operand} {t:TypeId} {tl:List TypeId} {es:List (Nat×PV×PV)} {kv:Value} {ti ki:TyI} {X:PMap} (hg:pguard ops σ o=some true) (hd:o.dst=none) (hop:o.op = .call { callee:=.builtin .delete,args := #[x,k],argTypes:=(t :: tl).toArray }) (hx:pev σ x = .mref mid) (hm:(σ.only (ok i)).m mid=some (.map es clock)) (hkv:pev σ k = .val kv) (ht:T.at t=some ti) (hk:ti.kind = .map kt et) (hki:T.at kt=some ki) (hb:σ.freeB (base+i)=true)
  (hdel:Go.Proofs.YtoamkpgaaanafaaGreat.mdel ki es clock kv=some X) (kn:PWops P T ops base ok rest K (σ.setm mid X)):PWops P T ops base ok ((i,o) :: rest) K σ:=by
 refine PWops.stepM hg (E:=⟨.tup [],[],none,[(mid,X)]⟩) ?_ hb ?_
 ·simp only [hop,presM,pdel,ht,hk,hki,pev_only,hx,mapOf,hm,hkv,hdel,Option.map_some]
 ·rw [hd];exact kn
theorem PWops.copy {d n k e by_ id o' n2:Nat} {bs cs out zr:List PV} {x y:Operand} {t:TypeId} {tl:List TypeId} {ti:TyI} (hg:pguard ops σ o=some true) (hop:o.op = .call { callee:=.builtin .copy,args := #[x,y],argTypes:=(t :: tl).toArray }) (hd:o.dst=some d) (hx:pev σ x = .msl id o' n k) (hbs:(σ.only (ok i)).b id=some bs) (hy:copySrc (σ.only (ok i)).b k (pev σ y)=some (n2,cs)) (ht:T.at t=some ti) (hk:ti.kind = .slice e k by_ zr) (hb:σ.freeB (base+i)=true)
  (hl:o' + min n2 n * k≤bs.length) (hcl:min n2 n * k≤cs.length) (hout:splice bs o' (cs.take (min n2 n * k))=out) (kn:PWops P T ops base ok rest K ((σ.setb id out).put d (.val (.int .i64 (min n2 n:Nat))))):PWops P T ops base ok ((i,o) :: rest) K σ:=by
 refine PWops.stepM hg (E:=⟨.val (.int .i64 (min n2 n:Nat)),[(id,out)],none,[]⟩) ?_ hb ?_
 ·have e1:o' + (cs.take (min n2 n * k)).length≤bs.length:=by rw [List.length_take,Nat.min_eq_left hcl];exact hl
  simp only [hop,presM,ht,pcopy,hk,pev_only,hx,hbs,hy,hl,and_self,if_true,splF_eq _ _ _ e1,hout]
 ·rw [hd];exact kn
theorem PWops.eqA {d:Nat} {op:BinOp} {xs ys:List PV} {x y:Operand} {t yt:TypeId} {ti:TyI} {b:Bool} (hg:pguard ops σ o=some true) (hd:o.dst=some d) (hop:o.op = .binOp op t x y yt) (hx:pev σ x = .agg xs) (hy:pev σ y = .agg ys) (ht:T.at t=some ti) (hb:σ.freeB (base+i)=true) (hne:ti.eqs.isEmpty=false) (h:peqs ti.eqs xs ys=some b) (ho:op = .eql∨op = .neq) (kn:PWops P T ops base ok rest K (σ.put d (.val (.bool (if op = .eql then b else !b))))):PWops P T ops base ok ((i,o) :: rest) K σ:=by
 refine PWops.valEq hg hd (p:=.val (.bool (if op = .eql then b else !b))) ?_ rfl hb kn
 have:pbinA op ti.eqs xs ys=some (.bool (if op = .eql then b else !b)):=by
  unfold pbinA
  cases he:ti.eqs with
  |nil=>rw [he] at hne;cases hne
  |cons k ks=>
   rw [he] at h
   rcases ho with rfl|rfl
   ·simp [h]
   ·simp [h]
 simp only [hop,presE,pvalA,pval,pev_only,hx,hy,ht,this,Option.map_some]
theorem peqs_ints {k:IntKind} : ∀(xs ys:List Int),xs.length=ys.length→peqs (List.replicate xs.length .int) (xs.map fun x=>.val (.int k x)) (ys.map fun x=>.val (.int k x))=some (xs == ys)
 | [],[],_=>rfl
 |x :: xs,y :: ys,h=>by
  have ih:=peqs_ints (k:=k) xs ys (by simpa using h)
  simp only [List.length_cons,List.replicate_succ,List.map_cons,peqs,veq,if_true,ih]
  rfl
 | [],y :: ys,h=>by simp at h
 |x :: xs,[],h=>by simp at h
theorem PWops.shlK {d:Nat} {k k' : IntKind} {x y:Int} {X Y:Operand} {t yt:TypeId} (hg:pguard ops σ o=some true) (hd:o.dst=some d) (hop:o.op = .binOp .shl t X Y yt) (hx:pev σ X = .val (.int k x)) (hy:pev σ Y = .val (.int k' y)) (hb:σ.freeB (base+i)=true) (h0:0≤y) (kn:PWops P T ops base ok rest K (σ.put d (.val (.int k (k.wrap (x * 2 ^ (min y.toNat k.bits))))))):PWops P T ops base ok ((i,o) :: rest) K σ:=by
 refine PWops.valEq hg hd (p:=.val (.int k (k.wrap (x * 2 ^ (min y.toNat k.bits))))) ?_ rfl hb kn
 simp only [hop,presE,pvalA,pval,pev_only,hx,hy,pbin,h0,if_true]
 rfl
theorem PWops.shrK {d:Nat} {k k' : IntKind} {x y:Int} {X Y:Operand} {t yt:TypeId} (hg:pguard ops σ o=some true) (hd:o.dst=some d) (hop:o.op = .binOp .shr t X Y yt) (hx:pev σ X = .val (.int k x)) (hy:pev σ Y = .val (.int k' y)) (hb:σ.freeB (base+i)=true) (h0:0≤y) (kn:PWops P T ops base ok rest K (σ.put d (.val (.int k (x.fdiv (2 ^ (min y.toNat k.bits))))))):PWops P T ops base ok ((i,o) :: rest) K σ:=by
 refine PWops.valEq hg hd (p:=.val (.int k (x.fdiv (2 ^ (min y.toNat k.bits))))) ?_ rfl hb kn
 simp only [hop,presE,pvalA,pval,pev_only,hx,hy,pbin,h0,if_true]
 rfl
theorem PWops.litA {d k e by_:Nat} {cs zr:List PV} {x:Operand} {t:TypeId} {ti:TyI} (hg:pguard ops σ o=some true) (hd:o.dst=some d) (hop:o.op = .buildSlice t 1 #[(0,x)]) (hx:pev σ x = .agg cs) (ht:T.at t=some ti) (hk:ti.kind = .slice e k by_ zr) (hb:σ.freeB (base+i)=true) (hl:cs.length=k) (hz:zr.length=k) (hk2:Nat.ble k 16777216=true) (he:Nat.blt e 1000000=true) (ho:cs.all PV.one=true) (hr:cs.map PV.bare=cs) (kn:PWops P T ops base ok rest K (σ.put d (.sl 1 k cs (some e)))):PWops P T ops base ok ((i,o) :: rest) K σ:=by
 refine PWops.step hg (E:=⟨.sl 1 k cs (some e),[],none,[]⟩) ?_ hb (by rw [hd];exact kn)
 have e1:(List.replicate 1 zr).flatten=zr:=by simp
 have hle:1 * k≤16777216:=by have:=Nat.le_of_ble_eq_true hk2;omega
 have he' : e < 1000000:=by simpa [Nat.blt_eq] using he
 have hs:splF zr 0 cs=cs:=by
  rw [splF_eq _ _ _ (by omega)]
  unfold splice;simp;omega
 simp only [hop,presE,ht,hk,hle,he',and_self,if_true,e1,List.map_cons,List.map_nil,pev_only,hx,pfill,pcells,ho,hr,hl,hz,Nat.zero_mul,Nat.zero_add,Nat.le_refl,and_self,hs,Option.map_some]
theorem PW.stamps {M:Nat} {c:Code} {Q:Exit→PS→Prop} {id clock:Nat} {es:List (Nat×PV×PV)} (hm:σ.m id=some (.map es clock)) (h:StampsOK es clock→PW P M c Q σ):PW P M c Q σ:=by
 intro Φ0 W a w hr
 obtain ⟨Φ,μ,ω,hg⟩:=hr
 obtain ⟨g,-,-,-,-,hst,-⟩:=hg.map id _ hm
 exact h hst Φ0 W a w ⟨Φ,μ,ω,hg⟩
end
theorem PW.condTe {P:Program} {M:Nat} {Q:Exit→PS→Prop} {σ:PS} {c:Operand} {x y:Code} {b:Bool} (hc:pev σ c = .val (.bool b)) (hb:b=true) (h:PW P M x Q σ):PW P M (.cond c x y) Q σ:=PW.condT (by rw [hc,hb]) h
theorem PW.condFe {P:Program} {M:Nat} {Q:Exit→PS→Prop} {σ:PS} {c:Operand} {x y:Code} {b:Bool} (hc:pev σ c = .val (.bool b)) (hb:b=false) (h:PW P M y Q σ):PW P M (.cond c x y) Q σ:=PW.condF (by rw [hc,hb]) h
end Go.Proofs.YtoamkpgaaanafaaGreat
