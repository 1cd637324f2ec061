/- Out of: Zq. -/
import Derived.Test.YtoamkpgaaanafaaGreatM25
namespace Go.Proofs.YtoamkpgaaanafaaGreat
set_option linter.unusedSimpArgs false
set_option linter.unusedVariables false
set_option linter.unnecessarySimpa false
section
open Go.RowKit
def sumB (s:PSchema) (n:Int) (z:PSum):Bool:=
 withinB z.count 1 4096 && (boxB z.box && (decide ((z.box.lo.length:Int)=s.dims) && (decide ((z.shells.length:Int)=n) && (shellsB z.shells && (decide (z.fields.length=s.defs.length) &&
  (withinB z.fromLo 0 z.fromHi && (decide (z.fromHi≤1048576) && (withinB z.toHi (z.fromLo+1) 1048577 && (withinB z.bornLo 1 z.bornHi && (decide (z.bornHi≤1073741824) &&
   (List.range s.defs.length).all fun k=>fieldB (s.defs.getD k default) (z.fields.getD k default) z.count))))))))))
theorem withinB_iff {n lo hi:Int} : withinB n lo hi=true↔lo≤n∧n≤hi:=by simp [withinB]
def SmallZ (z:PSum):Prop:=z.box.lo.length≤1000000∧z.box.hi.length≤1000000∧z.shells.length≤1000000∧z.fields.length≤1000000∧∀k,(z.fields.getD k default).words.length≤1000000
set_option maxRecDepth 10000 in
set_option maxHeartbeats 8000000 in
theorem pw_sumValid (s:PSchema) (n:Int) (z:PSum) (hz:SmallZ z) (h1:s.defs.length≤1000000) (h2:∀k,(s.defs.getD k default).words.length≤1000000):PCalls Tryz.prog 19 [pschema s,pint n,psum z] (· = pbool (sumB s n z)):=by
 obtain ⟨z1,z2,z3,z4,z5⟩:=hz
 have c1:=pw_isWithin z.count 1 4096
 have c2:=pw_boxValid z.box (by omega) (by omega)
 have c3:=pw_shValid z.shells (by omega)
 have hlz:=low_psumL z
 have hls:=low_schCells s
 have f:∀b,sumB s n z=b→pbool b=pbool (sumB s n z):=fun b h=>by rw [h]
 refine pcalls_of_pw typeTab_ok Tryz.func19 rfl (by kernel_rfl) (by simp [low_pint,low_psum,low_pschema]) (by simp [psum,psumL,pschema,pint,PV.ownB]) (by rw [Tryz.ntmps19];simp) ?_
 rw [Tryz.ntmps19,Tryz.results19]
 unfold psum psumL at *
 unfold pbox pboxL at c2
 cases e0:withinB z.count 1 4096 with
 |false=>
  rw [e0] at c1
  refine wk ?_
  exact retP rfl (by exact lw) (f _ (by simp only [sumB,e0,Bool.false_and,Bool.and_false]))
 |true=>
  rw [e0] at c1
  cases e1:boxB z.box with
  |false=>
   rw [e1] at c2
   refine wk ?_
   exact retP rfl (by exact lw) (f _ (by simp only [sumB,e1,Bool.false_and,Bool.and_false]))
  |true=>
   rw [e1] at c2
   by_cases e2:(z.box.lo.length:Int)=s.dims
   rotate_left
   ·refine wk ?_
    exact retP rfl (by exact lw) (f _ (by simp only [sumB,decide_eq_false e2,Bool.false_and,Bool.and_false]))
   by_cases e3:(z.shells.length:Int)=n
   rotate_left
   ·refine wk ?_
    exact retP rfl (by exact lw) (f _ (by simp only [sumB,decide_eq_false e3,Bool.false_and,Bool.and_false]))
   cases e4:shellsB z.shells with
   |false=>
    rw [e4] at c3
    refine wk ?_
    exact retP rfl (by exact lw) (f _ (by simp only [sumB,e4,Bool.false_and,Bool.and_false]))
   |true=>
    rw [e4] at c3
    by_cases e5:z.fields.length=s.defs.length
    rotate_left
    ·refine wk ?_
     exact retP rfl (by exact lw) (f _ (by simp only [sumB,decide_eq_false e5,Bool.false_and,Bool.and_false]))
    have w6:=pw_isWithin z.fromLo 0 z.fromHi
    cases e6:withinB z.fromLo 0 z.fromHi with
    |false=>
     rw [e6] at w6
     refine wk ?_
     exact retP rfl (by exact lw) (f _ (by simp only [sumB,e6,Bool.false_and,Bool.and_false]))
    |true=>
     rw [e6] at w6
     obtain ⟨g1,g2⟩:=withinB_iff.1 e6
     by_cases e7:z.fromHi≤1048576
     rotate_left
     ·refine wk ?_
      exact retP rfl (by exact lw) (f _ (by simp only [sumB,decide_eq_false e7,Bool.false_and,Bool.and_false]))
     have w8:=pw_isWithin z.toHi (z.fromLo+1) 1048577
     cases e8:withinB z.toHi (z.fromLo+1) 1048577 with
     |false=>
      rw [e8] at w8
      refine wk ?_
      exact retP rfl (by exact lw) (f _ (by simp only [sumB,e8,Bool.false_and,Bool.and_false]))
     |true=>
      rw [e8] at w8
      have w9:=pw_isWithin z.bornLo 1 z.bornHi
      cases e9:withinB z.bornLo 1 z.bornHi with
      |false=>
       rw [e9] at w9
       refine wk ?_
       exact retP rfl (by exact lw) (f _ (by simp only [sumB,e9,Bool.false_and,Bool.and_false]))
      |true=>
       rw [e9] at w9
       by_cases e10:z.bornHi≤1073741824
       rotate_left
       ·refine wk ?_
        exact retP rfl (by exact lw) (f _ (by simp only [sumB,decide_eq_false e10,Bool.false_and,Bool.and_false]))
       have hall:∀k,fieldB (s.defs.getD k default) (z.fields.getD k default) z.count=false→k < s.defs.length→sumB s n z=false:=fun k h hk=>by
        have:((List.range s.defs.length).all fun k=>fieldB (s.defs.getD k default) (z.fields.getD k default) z.count)=false:=by
         rw [List.all_eq_false];exact ⟨k,by simp [hk],by rw [h];decide⟩
        simp only [sumB,this,Bool.and_false]
       refine wk ?_
       clear c1 c2 c3 w6 w8 w9
       refine PW.loop (fun k:Nat=>((((((bot.setb 0 (schCellsP s)).setb 1 (psumL z)).put 3 (.ptr 0 0)).put 5 (.ptr 1 0)).put 84 (pdefs s.defs)).put 85 (pint s.defs.length)).put 86 (pint k)) (fun k=>k≤s.defs.length∧∀j,j < k→fieldB (s.defs.getD j default) (z.fields.getD j default) z.count=true) (fun k=>s.defs.length - k) 0 ⟨by omega,by simp⟩ ?_ ?_
       ·exact sb
       ·rintro k ⟨hk,ha⟩
        by_cases hlt:k < s.defs.length
        ·have p1:=pw_isField (s.defs.getD k default) (z.fields.getD k default) z.count (h2 k) (z5 k)
         have hd1:=low_pdefL (s.defs.getD k default)
         cases e20:fieldB (s.defs.getD k default) (z.fields.getD k default) z.count with
         |false=>
          rw [e20] at p1
          refine wk ?_
          refine retP rfl (by exact lw) (f _ ?_)
          exact hall k e20 hlt
         |true=>
          rw [e20] at p1
          refine wk ?_
          have hI:k+1≤s.defs.length∧∀j,j < k+1→fieldB (s.defs.getD j default) (z.fields.getD j default) z.count=true:=⟨by omega,fun j hj=>by
           rcases Nat.lt_succ_iff_lt_or_eq.1 hj with h|h
           ·exact ha j h
           ·rw [h];exact e20⟩
          refine loopP (k+1) ?_ ?_ ?_
          ·exact hI
          ·omega
          ·exact sb
        ·refine wk ?_
         refine retP rfl (by exact lw) (f _ ?_)
         have:((List.range s.defs.length).all fun k=>fieldB (s.defs.getD k default) (z.fields.getD k default) z.count)=true:=by
          rw [List.all_eq_true];intro j hj;exact ha j (by simp at hj;omega)
         simp only [sumB,this,e0,e1,e2,e3,e4,e5,e6,e7,e8,e9,e10,decide_true,Bool.and_self]
end
end Go.Proofs.YtoamkpgaaanafaaGreat
