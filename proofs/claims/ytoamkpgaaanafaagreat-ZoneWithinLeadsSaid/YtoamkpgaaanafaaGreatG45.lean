/- Out of: Ve. -/
import Derived.Test.YtoamkpgaaanafaaGreatRows
import Derived.WalkKit
import Derived.WalkSpells
import Derived.WalkLawsBesides
import Derived.Deep.QuietTactic
import Derived.BigQuiet
import Derived.RegionTactic
import Derived.Lib.AppendZeros
import Derived.Lib.AppendStr
import Derived.Lib.Hide
import Derived.OrdersIn
import Derived.Laws.BytesString
import Derived.WideLaws
import Derived.RangeFuncRecord
import Derived.Orders
import GoSem.Step
import Derived.Laws.RangeAny
import Derived.Lib.OthersKept
import Derived.Outline
import Derived.Laws.EntriesVeiled
import Derived.KernelRfl
import Derived.StillTailTactics
import Derived.Deep.Cut
import Derived.RangeFuncCalls
import Derived.Lib.BitFns
import Derived.Test.YtoamkpgaaanafaaGreatShelf
import Derived.Test.YtoamkpgaaanafaaGreatIter
import Derived.Laws.Strings
import Derived.Test.YtoamkpgaaanafaaGreatG1
import Derived.Test.YtoamkpgaaanafaaGreatG3
import Derived.Test.YtoamkpgaaanafaaGreatG6
import Derived.Test.YtoamkpgaaanafaaGreatG7
import Derived.Test.YtoamkpgaaanafaaGreatG8
import Derived.Test.YtoamkpgaaanafaaGreatG10
import Derived.Test.YtoamkpgaaanafaaGreatG11
import Derived.Test.YtoamkpgaaanafaaGreatG12
import Derived.Test.YtoamkpgaaanafaaGreatG14
import Derived.Test.YtoamkpgaaanafaaGreatG15
import Derived.Test.YtoamkpgaaanafaaGreatG17
import Derived.Test.YtoamkpgaaanafaaGreatG18
import Derived.Test.YtoamkpgaaanafaaGreatG21
import Derived.Test.YtoamkpgaaanafaaGreatG24
import Derived.Test.YtoamkpgaaanafaaGreatG34
import Derived.Test.YtoamkpgaaanafaaGreatG39
import Derived.Test.YtoamkpgaaanafaaGreatG42
namespace Go.Proofs.YtoamkpgaaanafaaGreat
set_option linter.unusedSimpArgs false
set_option linter.unusedVariables false
set_option linter.unnecessarySimpa false
section
open Go.RowKit
set_option maxRecDepth 10000 in
set_option maxHeartbeats 4000000 in
theorem pw_rField (d:PDef) (f:PField) (count:Int) (h1:d.words.length≤1000000) (h2:f.words.length≤1000000):PCalls Tryz.prog 70 [.agg (pdefL d),pfld f,pint count] (· = pbool (fieldB d f count)):=by
 have hd1:=low_pdefL d
 have hf1:=low_pfldL f
 have g:∀w,fieldB d f count=w→pbool w=pbool (fieldB d f count):=fun v h=>by rw [h]
 refine pcalls_of_pw typeTab_ok Tryz.func70 rfl (by kernel_rfl) (by simp [low_pint,low_pints,low_pstr,low_pbool,low_pbox,low_pvecs,low_pentry,low_pentries,low_psum,low_pschema,low_pshells,low_pstrs,low_pfld,low_pdef]) (by simp [pint,pints,pstr,pbool,pbox,pvecs,pentry,pentries,psum,psumL,pschema,pshells,pstrs,pfld,pfldL,pdefL,PV.ownB]) (by rw [Tryz.ntmps70];simp) ?_
 rw [Tryz.ntmps70,Tryz.results70]
 unfold pfld pfldL pdefL at *
 by_cases e1:f.has < 0
 ·refine wk ?_
  exact retP rfl (by exact lw) (g _ (by rw [fieldB,if_pos (by simp [withinB];omega)]))
 by_cases e2:f.has > count
 ·refine wk ?_
  exact retP rfl (by exact lw) (g _ (by rw [fieldB,if_pos (by simp [withinB];omega)]))
 have hw:¬withinB f.has 0 count=false:=by simp [withinB];omega
 by_cases e3:f.has=0
 ·have hF:fieldB d f count=(decide (f.lo=0) && (decide (f.hi=0) && decide (f.words.length=0))):=by
   rw [fieldB,if_neg hw,if_neg (by omega)]
   by_cases q1:f.lo=0
   ·by_cases q2:f.hi=0
    ·by_cases q3:f.words.length=0
     ·rw [if_neg (by simp [q1,q2,q3,e3]),q3];simp [q1,q2]
     ·rw [if_pos (.inr (.inr (by rw [decide_eq_false (show ¬0 < f.has by omega),decide_eq_true (show 0 < f.words.length by omega)];decide))),decide_eq_false q3,Bool.and_false,Bool.and_false]
    ·rw [if_pos (.inr (.inl q2))];simp [q2]
   ·rw [if_pos (.inl q1)];simp [q1]
  by_cases q1:f.lo=0
  ·by_cases q2:f.hi=0
   ·by_cases q3:f.words.length=0
    ·refine wk ?_
     exact retP rfl (by exact lw) (g _ (by rw [hF];simp [q1,q2,q3]))
    ·refine wk ?_
     exact retP rfl (by exact lw) (g _ (by rw [hF];simp only [decide_eq_false q3,Bool.and_false]))
   ·refine wk ?_
    exact retP rfl (by exact lw) (g _ (by rw [hF];simp only [decide_eq_false q2,Bool.and_false,Bool.false_and]))
  ·refine wk ?_
   exact retP rfl (by exact lw) (g _ (by rw [hF];simp only [decide_eq_false q1,Bool.false_and]))
 by_cases e4:d.kind=1
 ·have hF:fieldB d f count=(withinB f.lo d.lo f.hi && (decide (f.hi≤d.hi) && decide (f.words.length=0))):=by
   rw [fieldB,if_neg hw,if_pos ⟨by omega,e4⟩]
  by_cases q1:f.lo≥d.lo
  ·by_cases q2:f.lo≤f.hi
   ·by_cases q3:f.hi≤d.hi
    ·by_cases q4:f.words.length=0
     ·refine wk ?_
      exact retP rfl (by exact lw) (g _ (by rw [hF];simp [withinB,q2,q3,q4];omega))
     ·refine wk ?_
      exact retP rfl (by exact lw) (g _ (by rw [hF];simp only [decide_eq_false q4,Bool.and_false]))
    ·refine wk ?_
     exact retP rfl (by exact lw) (g _ (by rw [hF];simp only [decide_eq_false q3,Bool.and_false,Bool.false_and]))
   ·refine wk ?_
    exact retP rfl (by exact lw) (g _ (by rw [hF];simp only [withinB,decide_eq_false q2,Bool.and_false,Bool.false_and]))
  ·refine wk ?_
   exact retP rfl (by exact lw) (g _ (by rw [hF];simp only [withinB,decide_eq_false (show ¬d.lo≤f.lo by omega),Bool.false_and]))
 have hF:fieldB d f count=if f.lo≠0∨f.hi≠0∨decide (0 < f.has)≠decide (0 < f.words.length) then false else (List.range f.words.length).all (wordOK d f.words):=by
  rw [fieldB,if_neg hw,if_neg (by omega)]
 have hbad:∀k,wordOK d f.words k=false→k < f.words.length→fieldB d f count=false:=fun k h hk=>by
  rw [hF]
  split
  ·rfl
  ·rw [List.all_eq_false];exact ⟨k,by simp [hk],by rw [h];decide⟩
 refine wk ?_
 refine PW.loop (fun k:Nat=>(bot.setb 0 (pdefL d) |>.setb 1 (pfldL f) |>.put 3 (.ptr 0 0) |>.put 4 (.ptr 1 0) |>.put 7 (pint k))) (fun k=>k≤f.words.length∧∀j,j < k→wordOK d f.words j=true) (fun k=>f.words.length - k) 0 ⟨by omega,by simp⟩ ?_ ?_
 ·exact sb
 rintro k ⟨hk,ha⟩
 by_cases hlt:k < f.words.length
 ·have hc:=pcRefHas d.words (f.words.getD k default) (by omega)
  cases c1:hasB d.words (f.words.getD k default) with
  |false=>
   rw [c1] at hc
   refine wk ?_
   exact retP rfl (by exact lw) (g _ (hbad k (by simp only [wordOK,c1,Bool.false_and]) hlt))
  |true=>
   rw [c1] at hc
   by_cases hk0:k=0
   ·refine wk ?_
    refine loopP (k+1) ⟨by omega,fun j hj=>?_⟩ (by omega) ?_
    ·obtain rfl:j=k:=by omega
     simp only [wordOK,c1,decide_eq_true hk0,Bool.true_or,Bool.and_self]
    ·exact sb
   ·have ek:((k:Int) - 1).toNat=k - 1:=by omega
    cases c2:leqB (f.words.getD k default) (f.words.getD (((k:Int) - 1).toNat) default) with
    |true=>
     refine wk ?_
     rw [ek] at c2
     exact retP rfl (by exact lw) (g _ (hbad k (by simp only [wordOK,c1,c2,decide_eq_false hk0];rfl) hlt))
    |false=>
     refine wk ?_
     rw [ek] at c2
     refine loopP (k+1) ⟨by omega,fun j hj=>?_⟩ (by omega) ?_
     ·rcases Nat.lt_succ_iff_lt_or_eq.1 hj with h|h
      ·exact ha j h
      ·rw [h];simp only [wordOK,c1,c2,Bool.not_false,Bool.or_true,Bool.and_self]
     ·exact sb
 ·have hall:(List.range f.words.length).all (wordOK d f.words)=true:=by
   rw [List.all_eq_true];intro j hj;exact ha j (by simp at hj;omega)
  have hd0:decide (0 < f.has)=true:=decide_eq_true (by omega)
  by_cases q1:f.lo=0
  ·by_cases q2:f.hi=0
   ·by_cases q3:f.words.length > 0
    ·refine wk ?_
     exact retP rfl (by exact lw) (g _ (by rw [hF,hall,if_neg (by rw [hd0,decide_eq_true q3];simp [q1,q2])]))
    ·refine wk ?_
     exact retP rfl (by exact lw) (g _ (by rw [hF,if_pos (.inr (.inr (by rw [hd0,decide_eq_false q3];decide)))]))
   ·refine wk ?_
    exact retP rfl (by exact lw) (g _ (by rw [hF,if_pos (.inr (.inl q2))]))
  ·refine wk ?_
   exact retP rfl (by exact lw) (g _ (by rw [hF,if_pos (.inl q1)]))
set_option maxRecDepth 10000 in
set_option maxHeartbeats 8000000 in
theorem pw_rValid (s:PSchema) (n:Int) (z:PSum) (hz:SmallZ z) (h1:s.defs.length≤1000000) (h2:∀k,(s.defs.getD k default).words.length≤1000000):PCalls Tryz.prog 20 [pschema s,pint n,psum z] (· = pbool (sumB s n z)):=by
 obtain ⟨z1,z2,z3,z4,z5⟩:=hz
 have c2:=pw_r6Valid z.box (by omega) (by omega)
 have c3:=pw_r9Valid z.shells (by omega)
 have hlz:=low_psumL z
 have hls:=low_schCells s
 have g:∀w,sumB s n z=w→pbool w=pbool (sumB s n z):=fun v h=>by rw [h]
 refine pcalls_of_pw typeTab_ok Tryz.func20 rfl (by kernel_rfl) (by simp [low_pint,low_pints,low_pstr,low_pbool,low_pbox,low_pvecs,low_pentry,low_pentries,low_psum,low_pschema,low_pshells,low_pstrs,low_pfld,low_pdef]) (by simp [pint,pints,pstr,pbool,pbox,pvecs,pentry,pentries,psum,psumL,pschema,pshells,pstrs,pfld,pfldL,pdefL,PV.ownB]) (by rw [Tryz.ntmps20];simp) ?_
 rw [Tryz.ntmps20,Tryz.results20]
 unfold psum psumL at *
 unfold pbox pboxL at c2
 by_cases e1:z.count < 1
 ·refine wk ?_
  exact retP rfl (by exact lw) (g _ (by simp only [sumB,withinB,decide_eq_false (show ¬1≤z.count by omega),Bool.false_and]))
 by_cases e2:z.count > 4096
 ·refine wk ?_
  exact retP rfl (by exact lw) (g _ (by simp only [sumB,withinB,decide_eq_false (show ¬z.count≤4096 by omega),Bool.false_and,Bool.and_false]))
 cases e3:boxB z.box with
 |false=>
  rw [e3] at c2
  refine wk ?_
  exact retP rfl (by exact lw) (g _ (by simp only [sumB,e3,Bool.false_and,Bool.and_false]))
 |true=>
 rw [e3] at c2
 by_cases e4:(z.box.lo.length:Int)=s.dims
 rotate_left
 ·refine wk ?_
  exact retP rfl (by exact lw) (g _ (by simp only [sumB,decide_eq_false e4,Bool.false_and,Bool.and_false]))
 by_cases e5:(z.shells.length:Int)=n
 rotate_left
 ·refine wk ?_
  exact retP rfl (by exact lw) (g _ (by simp only [sumB,decide_eq_false e5,Bool.false_and,Bool.and_false]))
 cases e6:shellsB z.shells with
 |false=>
  rw [e6] at c3
  refine wk ?_
  exact retP rfl (by exact lw) (g _ (by simp only [sumB,e6,Bool.false_and,Bool.and_false]))
 |true=>
 rw [e6] at c3
 by_cases e7:z.fields.length=s.defs.length
 rotate_left
 ·refine wk ?_
  exact retP rfl (by exact lw) (g _ (by simp only [sumB,decide_eq_false e7,Bool.false_and,Bool.and_false]))
 by_cases e8:z.fromLo < 0
 ·refine wk ?_
  exact retP rfl (by exact lw) (g _ (by simp only [sumB,withinB,decide_eq_false (show ¬0≤z.fromLo by omega),Bool.false_and,Bool.and_false]))
 by_cases e9:z.fromLo > z.fromHi
 ·refine wk ?_
  exact retP rfl (by exact lw) (g _ (by simp only [sumB,withinB,decide_eq_false (show ¬z.fromLo≤z.fromHi by omega),Bool.false_and,Bool.and_false]))
 by_cases e10:z.fromHi > 1048576
 ·refine wk ?_
  exact retP rfl (by exact lw) (g _ (by simp only [sumB,decide_eq_false (show ¬z.fromHi≤1048576 by omega),Bool.false_and,Bool.and_false]))
 by_cases e11:z.toHi≤z.fromLo
 ·refine wk ?_
  exact retP rfl (by exact lw) (g _ (by simp only [sumB,withinB,decide_eq_false (show ¬z.fromLo+1≤z.toHi by omega),Bool.false_and,Bool.and_false]))
 by_cases e12:z.toHi > 1048577
 ·refine wk ?_
  exact retP rfl (by exact lw) (g _ (by simp only [sumB,withinB,decide_eq_false (show ¬z.toHi≤1048577 by omega),Bool.false_and,Bool.and_false]))
 by_cases e13:z.bornLo < 1
 ·refine wk ?_
  exact retP rfl (by exact lw) (g _ (by simp only [sumB,withinB,decide_eq_false (show ¬1≤z.bornLo by omega),Bool.false_and,Bool.and_false]))
 by_cases e14:z.bornLo > z.bornHi
 ·refine wk ?_
  exact retP rfl (by exact lw) (g _ (by simp only [sumB,withinB,decide_eq_false (show ¬z.bornLo≤z.bornHi by omega),Bool.false_and,Bool.and_false]))
 by_cases e15:z.bornHi > 1073741824
 ·refine wk ?_
  exact retP rfl (by exact lw) (g _ (by simp only [sumB,decide_eq_false (show ¬z.bornHi≤1073741824 by omega),Bool.false_and,Bool.and_false]))
 refine wk ?_
 clear c2 c3
 have hsum:sumB s n z=(List.range s.defs.length).all fun k=>fieldB (s.defs.getD k default) (z.fields.getD k default) z.count:=by
  simp only [sumB,withinB,e3,e6,decide_eq_true e4,decide_eq_true e5,decide_eq_true e7,decide_eq_true (show 1≤z.count by omega),decide_eq_true (show z.count≤4096 by omega),decide_eq_true (show 0≤z.fromLo by omega),decide_eq_true (show z.fromLo≤z.fromHi by omega),decide_eq_true (show z.fromHi≤1048576 by omega),decide_eq_true (show z.fromLo+1≤z.toHi by omega),decide_eq_true (show z.toHi≤1048577 by omega),decide_eq_true (show 1≤z.bornLo by omega),decide_eq_true (show z.bornLo≤z.bornHi by omega),decide_eq_true (show z.bornHi≤1073741824 by omega),Bool.true_and]
 refine PW.loop (fun k:Nat=>(bot.setb 0 (schCellsP s) |>.setb 1 (psumL z) |>.put 3 (.ptr 0 0) |>.put 5 (.ptr 1 0) |>.put 7 (pint k))) (fun k=>k≤s.defs.length∧∀j,j < k→fieldB (s.defs.getD j default) (z.fields.getD j default) z.count=true) (fun k=>s.defs.length - k) 0 ⟨by omega,by simp⟩ ?_ ?_
 ·exact sb
 rintro k ⟨hk,ha⟩
 by_cases hlt:k < s.defs.length
 ·have cf:=pw_rField (s.defs.getD k default) (z.fields.getD k default) z.count (h2 k) (z5 k)
  have hd1:=low_pdefL (s.defs.getD k default)
  have hf1:=low_pfldL (z.fields.getD k default)
  cases ef:fieldB (s.defs.getD k default) (z.fields.getD k default) z.count with
  |false=>
   rw [ef] at cf
   refine wk ?_
   refine retP rfl (by exact lw) (g _ ?_)
   rw [hsum,List.all_eq_false]
   exact ⟨k,by simp [hlt],by simp only [ef];decide⟩
  |true=>
   rw [ef] at cf
   refine wk ?_
   refine loopP (k+1) ⟨by omega,fun j hj=>?_⟩ (by omega) ?_
   ·rcases Nat.lt_succ_iff_lt_or_eq.1 hj with h|h
    ·exact ha j h
    ·rw [h];exact ef
   ·exact sb
 ·refine wk ?_
  refine retP rfl (by exact lw) (g _ ?_)
  rw [hsum,List.all_eq_true]
  intro j hj
  exact ha j (by simp at hj;omega)
end
end Go.Proofs.YtoamkpgaaanafaaGreat
