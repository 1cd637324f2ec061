/- Out of: Vd. -/
import Derived.Test.YtoamkpgaaanafaaGreatRows
import Derived.WalkKit
import Derived.WalkSpells
import Derived.WalkLawsBesides
import Derived.Deep.QuietTactic
import Derived.BigQuiet
import Derived.RegionTactic
import Derived.Lib.AppendZeros
import Derived.Lib.AppendStr
import Derived.Lib.Hide
import Derived.OrdersIn
import Derived.Laws.BytesString
import Derived.WideLaws
import Derived.RangeFuncRecord
import Derived.Orders
import GoSem.Step
import Derived.Laws.RangeAny
import Derived.Lib.OthersKept
import Derived.Outline
import Derived.Laws.EntriesVeiled
import Derived.KernelRfl
import Derived.StillTailTactics
import Derived.Deep.Cut
import Derived.RangeFuncCalls
import Derived.Lib.BitFns
import Derived.Test.YtoamkpgaaanafaaGreatShelf
import Derived.Test.YtoamkpgaaanafaaGreatIter
import Derived.Laws.Strings
import Derived.Test.YtoamkpgaaanafaaGreatG1
import Derived.Test.YtoamkpgaaanafaaGreatG10
import Derived.Test.YtoamkpgaaanafaaGreatG11
import Derived.Test.YtoamkpgaaanafaaGreatG14
import Derived.Test.YtoamkpgaaanafaaGreatG15
import Derived.Test.YtoamkpgaaanafaaGreatG17
import Derived.Test.YtoamkpgaaanafaaGreatG21
import Derived.Test.YtoamkpgaaanafaaGreatG23
import Derived.Test.YtoamkpgaaanafaaGreatG29
import Derived.Test.YtoamkpgaaanafaaGreatG3
import Derived.Test.YtoamkpgaaanafaaGreatG32
import Derived.Test.YtoamkpgaaanafaaGreatG34
import Derived.Test.YtoamkpgaaanafaaGreatG39
import Derived.Test.YtoamkpgaaanafaaGreatG4
import Derived.Test.YtoamkpgaaanafaaGreatG6
import Derived.Test.YtoamkpgaaanafaaGreatG7
import Derived.Test.YtoamkpgaaanafaaGreatG8
import Derived.Test.YtoamkpgaaanafaaGreatH5
namespace Go.Proofs.YtoamkpgaaanafaaGreat
set_option linter.unusedSimpArgs false
set_option linter.unusedVariables false
set_option linter.unnecessarySimpa false
section
open Go.RowKit
theorem mul_bound {a b:Int} (ha:0≤a∧a≤134217728) (hb:0≤b∧b≤134217728):0≤4 * a * b∧4 * a * b≤72057594037927936:=by
 have h1:0≤a * b:=Int.mul_nonneg ha.1 hb.1
 have h2:a * b≤134217728 * 134217728:=Int.mul_le_mul ha.2 hb.2 hb.1 (by decide)
 have e:4 * a * b=4 * (a * b):=Int.mul_assoc _ _ _
 omega
set_option maxRecDepth 10000 in
set_option maxHeartbeats 1000000 in
theorem pw_r5Low (m a b:Int) (ha:0≤a∧a≤134217728) (hb:0≤b∧b≤134217728):PCalls Tryz.prog 239 [pint m,pint a,pint b] (· = pint (lowM m a b)):=by
 have hm:=mul_bound ha hb
 have c1:PCalls Tryz.prog 262 [pint (4 * a * b)] (· = pint (rootI (4 * a * b))):=by
  have:=pw_r5Isqrt (4 * a * b).toNat (by omega)
  rw [show (((4 * a * b).toNat:Nat):Int)=4 * a * b by omega] at this
  have e:rootI (4 * a * b)=(rootN (4 * a * b).toNat:Nat):=by
   unfold rootI
   rw [show clampI (4 * a * b) 0 1152921504606846976=4 * a * b by unfold clampI;omega]
  rw [e];exact this
 have hr:=rootI_bound (4 * a * b)
 refine pcalls_of_pw typeTab_ok Tryz.func239 rfl (by kernel_rfl) (by simp [low_pint,low_pints,low_pstr,low_pbool,low_pbox,low_pvecs,low_pentry,low_pentries,low_psum,low_pschema,low_pshells,low_pstrs,low_pfld,low_pdef]) (by simp [pint,pints,pstr,pbool,pbox,pvecs,pentry,pentries,psum,psumL,pschema,pshells,pstrs,pfld,pfldL,pdefL,PV.ownB]) (by rw [Tryz.ntmps239];simp) ?_
 rw [Tryz.ntmps239,Tryz.results239]
 unfold lowM
 generalize rootI (4 * a * b)=r at *
 by_cases h:m=2
 ·rw [if_pos h]
  refine wk ?_
  exact retP rfl (by exact lw) rfl
 ·rw [if_neg h]
  by_cases h2:a < b
  ·rw [show max a b - min a b=b - a by omega]
   refine wk ?_
   exact retP rfl (by exact lw) rfl
  ·rw [show max a b - min a b=a - b by omega]
   refine wk ?_
   exact retP rfl (by exact lw) rfl
set_option maxRecDepth 10000 in
set_option maxHeartbeats 1000000 in
theorem pw_r5Gap (m lo hi a:Int) (ha:0≤a∧a≤134217728) (h1:0≤lo∧lo≤hi∧hi≤134217728):PCalls Tryz.prog 159 [pint m,pint lo,pint hi,pint a] (· = pint (gapM m lo hi a)):=by
 have c1:=pw_r5Low m a lo ha ⟨by omega,by omega⟩
 have c2:=pw_r5Low m a hi ha ⟨by omega,by omega⟩
 refine pcalls_of_pw typeTab_ok Tryz.func159 rfl (by kernel_rfl) (by simp [low_pint,low_pints,low_pstr,low_pbool,low_pbox,low_pvecs,low_pentry,low_pentries,low_psum,low_pschema,low_pshells,low_pstrs,low_pfld,low_pdef]) (by simp [pint,pints,pstr,pbool,pbox,pvecs,pentry,pentries,psum,psumL,pschema,pshells,pstrs,pfld,pfldL,pdefL,PV.ownB]) (by rw [Tryz.ntmps159];simp) ?_
 rw [Tryz.ntmps159,Tryz.results159]
 unfold gapM
 by_cases h2:a < lo
 ·rw [show clampI a lo hi=lo by unfold clampI;omega]
  clear c2
  refine wk ?_
  exact retP rfl (by exact lw) rfl
 ·by_cases h3:a > hi
  ·rw [show clampI a lo hi=hi by unfold clampI;omega]
   clear c1
   refine wk ?_
   exact retP rfl (by exact lw) rfl
  ·rw [show clampI a lo hi=a by unfold clampI;omega,lowM_same m ha.1 ha.2]
   refine wk ?_
   exact retP rfl (by exact lw) rfl
set_option maxRecDepth 10000 in
set_option maxHeartbeats 2000000 in
theorem pw_r9asked (m:Int) (l:List PShell) (keys:List Int) (h1:l.length≤1000000) (h2:keys.length≤1000000):PCalls Tryz.prog 158 [pint m,pshells l,pints keys] (· = pbool (askB m l keys)):=by
 have c1:=pw_r9Metric m
 have c2:=pw_r9Valid l h1
 have hll:Low (pshells l):=(low_pshells _).2 trivial
 have f:∀w,askB m l keys=w→pbool w=pbool (askB m l keys):=fun v h=>by rw [h]
 refine pcalls_of_pw typeTab_ok Tryz.func158 rfl (by kernel_rfl) (by simp [low_pint,low_pints,low_pstr,low_pbool,low_pbox,low_pvecs,low_pentry,low_pentries,low_psum,low_pschema,low_pshells,low_pstrs,low_pfld,low_pdef]) (by simp [pint,pints,pstr,pbool,pbox,pvecs,pentry,pentries,psum,psumL,pschema,pshells,pstrs,pfld,pfldL,pdefL,PV.ownB]) (by rw [Tryz.ntmps158];simp) ?_
 rw [Tryz.ntmps158,Tryz.results158]
 refine wk ?_
 refine PW.loop (fun k:Nat=>(bot.put 0 (pint m) |>.put 1 (pshells l) |>.put 2 (pints keys) |>.put 7 (pint k))) (fun k=>k≤keys.length∧∀j,j < k→hasP allP (keys.getD j default)=true) (fun k=>keys.length - k) 0 ⟨by omega,by simp⟩ ?_ ?_
 ·exact sb
 rintro k ⟨hk,hn⟩
 have hall:∀x:Int,hasP allP x=(decide (0≤x) && decide (x≤134217728)):=fun x=>rfl
 by_cases hlt:k < keys.length
 ·have hbad:hasP allP (keys.getD k default)=false→askB m l keys=false:=fun h=>by
   have:keys.all (hasP allP)=false:=by
    rw [List.all_eq_false];exact ⟨_,getD_mem hlt,by rw [h];decide⟩
   simp only [askB,this,Bool.and_false]
  clear c1 c2
  by_cases g1:keys.getD k default < 0
  ·refine wk ?_
   exact retP rfl (by exact lw) (f _ (hbad (by rw [hall,decide_eq_false (show ¬0≤keys.getD k default by omega)];rfl)))
  by_cases g2:keys.getD k default > 134217728
  ·refine wk ?_
   exact retP rfl (by exact lw) (f _ (hbad (by rw [hall,decide_eq_false (show ¬keys.getD k default≤134217728 by omega),Bool.and_false])))
  refine wk ?_
  refine loopP (k+1) ⟨by omega,fun j hj=>?_⟩ (by omega) ?_
  ·rcases Nat.lt_succ_iff_lt_or_eq.1 hj with h|h
   ·exact hn j h
   ·rw [h,hall,decide_eq_true (show 0≤keys.getD k default by omega),decide_eq_true (show keys.getD k default≤134217728 by omega)];rfl
  ·exact sb
 ·have ha:keys.all (hasP allP)=true:=by
   rw [List.all_eq_true]
   intro x hx
   obtain ⟨j,hj,rfl⟩:=List.getElem_of_mem hx
   have:=hn j (by omega)
   rwa [getD_atW hj] at this
  cases e1:keyB m with
  |false=>
   rw [e1] at c1
   clear c2
   refine wk ?_
   exact retP rfl (by exact lw) (f _ (by simp [askB,e1]))
  |true=>
   rw [e1] at c1
   cases e2:shellsB l with
   |false=>
    rw [e2] at c2
    refine wk ?_
    exact retP rfl (by exact lw) (f _ (by simp [askB,e2]))
   |true=>
    rw [e2] at c2
    by_cases e3:keys.length=l.length
    ·refine wk ?_
     exact retP rfl (by exact lw) (f _ (by simp only [askB,e1,e2,ha,decide_eq_true e3,Bool.and_self]))
    ·refine wk ?_
     exact retP rfl (by exact lw) (f _ (by simp only [askB,decide_eq_false e3,Bool.false_and,Bool.and_false]))
set_option maxRecDepth 10000 in
set_option maxHeartbeats 2000000 in
theorem pw_r9Low (m:Int) (l:List PShell) (keys:List Int) (h1:l.length≤1000000) (h2:keys.length≤1000000):PCalls Tryz.prog 79 [pint m,pshells l,pints keys] (· = .agg [pint 0,pint (lowP m l keys).1,pint (lowP m l keys).2]):=by
 have c1:=pw_r9asked m l keys h1 h2
 have hll:Low (pshells l):=(low_pshells _).2 trivial
 refine pcalls_of_pw typeTab_ok Tryz.func79 rfl (by kernel_rfl) (by simp [low_pint,low_pints,low_pstr,low_pbool,low_pbox,low_pvecs,low_pentry,low_pentries,low_psum,low_pschema,low_pshells,low_pstrs,low_pfld,low_pdef]) (by simp [pint,pints,pstr,pbool,pbox,pvecs,pentry,pentries,psum,psumL,pschema,pshells,pstrs,pfld,pfldL,pdefL,PV.ownB]) (by rw [Tryz.ntmps79];simp) ?_
 rw [Tryz.ntmps79,Tryz.results79]
 unfold lowP
 cases e1:askB m l keys with
 |false=>
  rw [e1] at c1
  refine wk ?_
  exact retP (r:=.agg [pint 0,pint 0,pint 1]) rfl (by simp [low_agg,low_pint]) rfl
 |true=>
  rw [e1] at c1
  simp only [askB,Bool.and_eq_true,decide_eq_true_eq,List.all_eq_true] at e1
  obtain ⟨em,es,ek,ea⟩:=e1
  obtain ⟨-,hs⟩:=shellsB_get es
  refine wk ?_
  clear c1
  refine PW.loop (fun k:Nat=>(bot.setb 0 [pint 0,pint 0,pint 0] |>.put 0 (pint m) |>.put 1 (pshells l) |>.put 2 (pints keys) |>.put 6 (.ptr 0 0) |>.put 8 (pint (lowF m l keys k)) |>.put 9 (pint k))) (fun k=>k≤l.length) (fun k=>l.length - k) 0 (by omega) ?_ ?_
  ·exact sb
  intro k hk
  by_cases hlt:k < l.length
  ·have hsk:=shellB_iff.1 (hs k hlt)
   have hkk:0≤keys.getD k default∧keys.getD k default≤134217728:=by
    have:=ea _ (getD_mem (l:=keys) (k:=k) (by omega))
    simpa [hasP,allP] using this
   have c2:=pw_r5Gap m (l.getD k default).lo (l.getD k default).hi (keys.getD k default) hkk hsk
   have e:lowF m l keys (k+1)=mxI (lowF m l keys k) (gapM m (l.getD k default).lo (l.getD k default).hi (keys.getD k default)):=by rw [lowF_succ,mxI_eq]
   refine wk ?_
   refine loopP (k+1) (by omega) (by omega) ?_
   simp only [e]
   exact sb
  ·have hkk:k=l.length:=by omega
   subst hkk
   refine wk ?_
   exact retP (r:=.agg [pint 0,pint (lowF m l keys l.length),pint 0]) rfl (by simp [low_agg,low_pint]) rfl
end
end Go.Proofs.YtoamkpgaaanafaaGreat
