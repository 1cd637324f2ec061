/- Out of: StrB, PwS. -/
import Derived.Laws.BytesString
import Derived.Test.YtoamkpgaaanafaaGreatM3
namespace Go.Proofs.YtoamkpgaaanafaaGreat
set_option linter.unusedSimpArgs false
set_option linter.unusedVariables false
set_option linter.unnecessarySimpa false
section
open Go.RowKit
def MadeStrsN (w:World) (r:List ByteArray×Int×Int) (e:Ending) (w' : World):Prop:=
 ∃v,e = .returned (.tuple #[v, .int .i64 r.2.1, .int .i64 r.2.2])∧Own w.heap.size 9 w' v (r.1.map Value.string)∧Below w.heap.size w w'
theorem MadeStrsN.mk {w w' : World} {r:List ByteArray×Int×Int} {l:List ByteArray} {x y:Int} {v:Value} (h:r=(l,x,y)) (ho:Own w.heap.size 9 w' v (l.map Value.string)) (hb:Below w.heap.size w w') :
  MadeStrsN w r (.returned (.tuple #[v, .int .i64 x, .int .i64 y])) w':=by
 subst h;exact ⟨v,rfl,ho,hb⟩
def RetS3 (w:World) (r:ByteArray×Int×Int) (e:Ending) (w' : World):Prop:=
 e = .returned (.tuple #[.string r.1, .int .i64 r.2.1, .int .i64 r.2.2])∧Still w w'
theorem RetS3.mk {w w' : World} {r:ByteArray×Int×Int} {x:ByteArray} {y z:Int} (h:r=(x,y,z)) (hs:Still w w'):RetS3 w r (.returned (.tuple #[.string x, .int .i64 y, .int .i64 z])) w':=by
 subst h;exact ⟨rfl,hs⟩
theorem Bytes.empty {w:World} {a:Option Addr} {c:Nat} (hc:c≤maxLen):Bytes w (.slice a 0 c) []:=
 ⟨a,c,0,0,rfl,by simp,hc,fun h=>by simp at h,fun j u hu=>by simp at hu⟩
set_option maxRecDepth 100000 in
set_option maxHeartbeats 1000000 in
theorem slicesCloneI (v:Value) (zs:List Int) (w:World) (hv:Ints w v zs) (hl:zs.length≤1000000000):Calls Tryz.prog 137 #[v] w (MadeInts 3 w zs):=by
 have HV:=Lib.hid hv
 obtain ⟨a,cap,b,off,rfl,hcap,hm,ha,hc⟩:=hv.open
 clear hv hc
 cases a with
 |none=>
  have hz:zs = []:=List.eq_nil_of_length_eq_zero (by
   rcases Nat.eq_zero_or_pos zs.length with h|h
   ·exact h
   ·have:=ha h;cases this)
  subst hz
  clear ha
  have he:=fun (w:World)=>Lib.run_eql_slice_nil (P:=Tryz.prog) w 27 3 none 0 cap 0 0 (by kernel_rfl)
  go_enter Tryz.func137,Tryz.ntmps137
  simp only [Option.isNone_none] at he
  go_wp2
  go_ret
  exact ⟨_,rfl,Own.nil _ _ _,Below.refl _ _⟩
 |some ad=>
  clear ha
  have he:=fun (w:World)=>Lib.run_eql_slice_nil (P:=Tryz.prog) w 27 3 (some ad) zs.length cap 0 0 (by kernel_rfl)
  go_enter Tryz.func137,Tryz.ntmps137
  simp only [Option.isNone_some] at he
  have h0:=Lib.hid (show Own w.heap.size 3 (w.alloc (.cells #[] 3)) (.slice (some ⟨w.heap.size,0,none⟩) 0 0) [] from Own.lit w [] 3 w.heap.size (Nat.le_refl _) (by simp [maxLen]))
  have h1:=Lib.hid (show Rd (w.alloc (.cells #[] 3)) (.slice (some ad) zs.length cap) (zs.map (Value.int .i64)) from HV.out.below ((Below.refl _ _).alloc (Nat.le_refl _) _))
  go_wp2_with (at_builtin;refine wp_appendR _ _ 27 3 8 _ elemInt rfl rfl (by kernel_rfl) w.heap.size _ _ [] (zs.map (Value.int .i64)) rfl h0.out rfl h1.out (by intro c hc;obtain ⟨z,-,rfl⟩:=List.mem_map.1 hc;rfl) (by simp [maxLen];omega) (by simp;omega) (by simp) ?_;intro v' w' ho hb)
  go_ret
  exact ⟨_,rfl,by simpa using ho,((Below.refl _ _).alloc (Nat.le_refl _) _).trans hb⟩
end
end Go.Proofs.YtoamkpgaaanafaaGreat
