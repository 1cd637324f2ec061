/- Merged: Vc, PlainRt2, Vd. -/
import Derived.Test.YtoamkpgaaanafaaGreatS23
import Derived.Test.YtoamkpgaaanafaaGreatS37
/- The specification's keys of boxes; metrics; pivots. -/
namespace Go.Proofs.YtoamkpgaaanafaaGreat
set_option linter.unusedSimpArgs false
set_option linter.unusedVariables false
set_option linter.unnecessarySimpa false
open Go.RowKit
/- Metrics. -/
end Go.Proofs.YtoamkpgaaanafaaGreat

/- Roots of squares (no program). -/
namespace Go.Proofs.YtoamkpgaaanafaaGreat
set_option linter.unusedSimpArgs false
set_option linter.unusedVariables false
set_option linter.unnecessarySimpa false
end Go.Proofs.YtoamkpgaaanafaaGreat

/- The specification's gaps and pivots. -/
namespace Go.Proofs.YtoamkpgaaanafaaGreat
set_option linter.unusedSimpArgs false
set_option linter.unusedVariables false
set_option linter.unnecessarySimpa false
open Go.RowKit
set_option maxRecDepth 10000 in
set_option maxHeartbeats 2000000 in
theorem pw_r9Valid (l:List PShell) (hl:l.length≤1000000):PCalls Tryz.prog 69 [pshells l] (· = pbool (shellsB l)):=by
 have f:∀w,shellsB l=w→pbool w=pbool (shellsB l):=fun v h=>by rw [h]
 have hll:Low (pshells l):=(low_pshells _).2 trivial
 refine pcalls_of_pw typeTab_ok Tryz.func69 rfl (by kernel_rfl) (by simp [low_pint,low_pints,low_pstr,low_pbool,low_pbox,low_pvecs,low_pentry,low_pentries,low_psum,low_pschema,low_pshells,low_pstrs,low_pfld,low_pdef]) (by simp [pint,pints,pstr,pbool,pbox,pvecs,pentry,pentries,psum,psumL,pschema,pshells,pstrs,pfld,pfldL,pdefL,PV.ownB]) (by rw [Tryz.ntmps69];simp) ?_
 rw [Tryz.ntmps69,Tryz.results69]
 refine wk ?_
 refine PW.loop (fun k:Nat=>(bot.put 0 (pshells l) |>.put 3 (pint k))) (fun k=>k≤l.length∧∀j,j < k→shellB (l.getD j default)=true) (fun k=>l.length - k) 0 ⟨by omega,by simp⟩ ?_ ?_
 ·exact sb
 rintro k ⟨hk,hn⟩
 by_cases hlt:k < l.length
 ·have hbad:¬(0≤(l.getD k default).lo∧(l.getD k default).lo≤(l.getD k default).hi∧(l.getD k default).hi≤134217728)→shellsB l=false:=fun h=>by
   have h2:shellB (l.getD k default)=false:=by
    cases e:shellB (l.getD k default) with
    |false=>rfl
    |true=>exact absurd (shellB_iff.1 e) h
   have:l.all shellB=false:=by
    rw [List.all_eq_false];exact ⟨_,getD_mem hlt,by rw [h2];decide⟩
   simp only [shellsB,this,Bool.false_and]
  by_cases g1:(l.getD k default).lo < 0
  ·refine wk ?_
   exact retP rfl (by exact lw) (f _ (hbad (by omega)))
  by_cases g2:(l.getD k default).lo > (l.getD k default).hi
  ·refine wk ?_
   exact retP rfl (by exact lw) (f _ (hbad (by omega)))
  by_cases g3:(l.getD k default).hi > 134217728
  ·refine wk ?_
   exact retP rfl (by exact lw) (f _ (hbad (by omega)))
  refine wk ?_
  refine loopP (k+1) ⟨by omega,fun j hj=>?_⟩ (by omega) ?_
  ·rcases Nat.lt_succ_iff_lt_or_eq.1 hj with h|h
   ·exact hn j h
   ·rw [h,shellB_iff];omega
  ·exact sb
 ·have ha:l.all shellB=true:=by
   rw [List.all_eq_true]
   intro x hx
   obtain ⟨j,hj,rfl⟩:=List.getElem_of_mem hx
   have:=hn j (by omega)
   rwa [getD_atW hj] at this
  by_cases h8:l.length≤8
  ·refine wk ?_
   exact retP rfl (by exact lw) (f _ (by simp [shellsB,ha,h8]))
  ·refine wk ?_
   exact retP rfl (by exact lw) (f _ (by simp only [shellsB,decide_eq_false h8,Bool.and_false]))
def joinT (a b:List PShell):List PShell:=(List.range a.length).map fun k=>⟨mnI (a.getD k default).lo (b.getD k default).lo,mxI (a.getD k default).hi (b.getD k default).hi⟩
theorem joinT_len (a b:List PShell):(joinT a b).length=a.length:=by simp [joinT]
theorem joinT_take {a b:List PShell} {k:Nat} (h:k < a.length):((joinT a b).take (k+1)).flatMap pshL=((joinT a b).take k).flatMap pshL ++ pshL ⟨mnI (a.getD k default).lo (b.getD k default).lo,mxI (a.getD k default).hi (b.getD k default).hi⟩:=by
 rw [List.take_add_one,List.flatMap_append]
 congr 1
 simp [joinT,h]
theorem joinT_S {a b:List PShell} (hb:shellsB b=true) (hl:a.length=b.length):joinT a b=joinS a b:=by
 obtain ⟨-,h⟩:=shellsB_get hb
 refine List.map_congr_left fun k hk=>?_
 have hk' : k < b.length:=by rw [←hl];simpa using hk
 have h1:=shellB_iff.1 (h k hk')
 simp only [mnI_eq,mxI_eq,PShell.mk.injEq]
 omega
set_option maxRecDepth 10000 in
set_option maxHeartbeats 2000000 in
theorem pw_r9Join (a b:List PShell) (h1:a.length≤1000000) (h2:b.length≤1000000):PCalls Tryz.prog 114 [pshells a,pshells b] (· = .agg [pshells (shJoin a b).1,pint (shJoin a b).2]):=by
 have c1:=pw_r9Valid a h1
 have c2:=pw_r9Valid b h2
 have hla:Low (pshells a):=(low_pshells _).2 trivial
 have hlb:Low (pshells b):=(low_pshells _).2 trivial
 refine PCalls.weak ?_
 refine pcalls_of_pw typeTab_ok Tryz.func114 rfl (by kernel_rfl) (by simp [low_pint,low_pints,low_pstr,low_pbool,low_pbox,low_pvecs,low_pentry,low_pentries,low_psum,low_pschema,low_pshells,low_pstrs,low_pfld,low_pdef]) (by simp [pint,pints,pstr,pbool,pbox,pvecs,pentry,pentries,psum,psumL,pschema,pshells,pstrs,pfld,pfldL,pdefL,PV.ownB]) (by rw [Tryz.ntmps114];simp) ?_
 rw [Tryz.ntmps114,Tryz.results114]
 have hbad:shJoin a b=([],1)→Weak (.agg [.nilsl,pint 1]) (.agg [pshells (shJoin a b).1,pint (shJoin a b).2]):=fun h=>by
  rw [h];exact .agg (.cons (.nil 2) (.cons (.refl _) .nil))
 cases e1:shellsB a with
 |false=>
  rw [e1] at c1
  clear c2
  refine wk ?_
  exact retP (r:=.agg [.nilsl,pint 1]) rfl (by simp [low_agg,low_nilsl,low_pint]) (hbad (by simp [shJoin,e1]))
 |true=>
  rw [e1] at c1
  cases e2:shellsB b with
  |false=>
   rw [e2] at c2
   refine wk ?_
   exact retP (r:=.agg [.nilsl,pint 1]) rfl (by simp [low_agg,low_nilsl,low_pint]) (hbad (by simp [shJoin,e2]))
  |true=>
   rw [e2] at c2
   by_cases e3:a.length=b.length
   rotate_left
   ·refine wk ?_
    exact retP (r:=.agg [.nilsl,pint 1]) rfl (by simp [low_agg,low_nilsl,low_pint]) (hbad (by simp [shJoin,e3]))
   clear hbad
   refine wk ?_
   refine PW.loop (fun k:Nat=>(bot.setb 0 [.nilsl,pint 0] |>.put 0 (pshells a) |>.put 1 (pshells b) |>.put 4 (.ptr 0 0) |>.put 5 (.sl k 2 (((joinT a b).take k).flatMap pshL) (some 119)) |>.put 6 (pint k))) (fun k=>k≤a.length) (fun k=>a.length - k) 0 (by omega) ?_ ?_
   ·exact sb
   intro k hk
   by_cases hlt:k < a.length
   ·refine wk ?_
    refine loopP (k+1) (by omega) (by omega) ?_
    have hl:=low_shapp (k+1) ((joinT a b).take k) ⟨mnI (a.getD k default).lo (b.getD k default).lo,mxI (a.getD k default).hi (b.getD k default).hi⟩ (some 119)
    simp only [joinT_take hlt]
    exact sb
   ·have hkk:k=a.length:=by omega
    have e:(joinT a b).take k=joinT a b:=List.take_of_length_le (by rw [joinT_len];omega)
    simp only [e]
    refine wk ?_
    refine retP (r:=.agg [.sl k 2 ((joinT a b).flatMap pshL) none,pint 0]) rfl (by simp only [low_agg,List.mem_cons,List.not_mem_nil,or_false];rintro c (rfl|rfl);exact low_shown _ _ _;exact .val _) ?_
    rw [shJoin,if_pos (by simp [e1,e2,e3]),←joinT_S e2 e3,hkk,←joinT_len a b]
    exact Weak.refl _
def few9 (l:List (List Int)) (most:Int):Bool:=decide ((l.length:Int)≤most) && l.all fun v=>decide (v.length≤40)
set_option maxRecDepth 10000 in
set_option maxHeartbeats 1000000 in
theorem pw_r9Few (l:List (List Int)) (most:Int) (h1:l.length≤20000000000000):PCalls Tryz.prog 51 [pvecs l,pint most] (· = pbool (few9 l most)):=by
 have hll:Low (pvecs l):=(low_pvecs _).2 trivial
 have f:∀w,few9 l most=w→pbool w=pbool (few9 l most):=fun v h=>by rw [h]
 refine pcalls_of_pw typeTab_ok Tryz.func51 rfl (by kernel_rfl) (by simp [low_pint,low_pints,low_pstr,low_pbool,low_pbox,low_pvecs,low_pentry,low_pentries,low_psum,low_pschema,low_pshells,low_pstrs,low_pfld,low_pdef]) (by simp [pint,pints,pstr,pbool,pbox,pvecs,pentry,pentries,psum,psumL,pschema,pshells,pstrs,pfld,pfldL,pdefL,PV.ownB]) (by rw [Tryz.ntmps51];simp) ?_
 rw [Tryz.ntmps51,Tryz.results51]
 by_cases h0:(l.length:Int)≤most
 rotate_left
 ·refine wk ?_
  exact retP rfl (by exact lw) (f _ (by simp only [few9,decide_eq_false h0,Bool.false_and]))
 refine wk ?_
 refine PW.loop (fun k:Nat=>(bot.put 0 (pvecs l) |>.put 5 (pint k))) (fun k=>k≤l.length∧∀j,j < k→(l.getD j default).length≤40) (fun k=>l.length - k) 0 ⟨by omega,by simp⟩ ?_ ?_
 ·exact sb
 rintro k ⟨hk,hn⟩
 by_cases hlt:k < l.length
 ·by_cases g:(l.getD k default).length≤40
  ·refine wk ?_
   refine loopP (k+1) ⟨by omega,fun j hj=>?_⟩ (by omega) ?_
   ·rcases Nat.lt_succ_iff_lt_or_eq.1 hj with h|h
    ·exact hn j h
    ·rw [h];exact g
   ·exact sb
  ·refine wk ?_
   refine retP rfl (by exact lw) (f _ ?_)
   have:(l.all fun v=>decide (v.length≤40))=false:=by
    rw [List.all_eq_false];exact ⟨_,getD_mem hlt,by simpa using g⟩
   simp only [few9,this,Bool.and_false]
 ·refine wk ?_
  refine retP rfl (by exact lw) (f _ ?_)
  have:(l.all fun v=>decide (v.length≤40))=true:=by
   rw [List.all_eq_true]
   intro x hx
   obtain ⟨j,hj,rfl⟩:=List.getElem_of_mem hx
   have:=hn j (by omega)
   rw [getD_atW hj] at this
   simpa using this
  simp only [few9,this,decide_eq_true h0,Bool.and_self]
theorem few9_get {l:List (List Int)} {most:Int} (h:few9 l most=true):(l.length:Int)≤most∧∀v∈l,v.length≤40:=by
 simpa [few9] using h
end Go.Proofs.YtoamkpgaaanafaaGreat
