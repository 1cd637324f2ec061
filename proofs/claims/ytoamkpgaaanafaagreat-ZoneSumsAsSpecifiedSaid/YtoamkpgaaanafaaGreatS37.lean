/- Merged: Vb. -/
import Derived.Test.YtoamkpgaaanafaaGreatS35
/- The specification's boxes. -/
namespace Go.Proofs.YtoamkpgaaanafaaGreat
set_option linter.unusedSimpArgs false
set_option linter.unusedVariables false
set_option linter.unnecessarySimpa false
open Go.RowKit
set_option maxRecDepth 10000 in
set_option maxHeartbeats 1000000 in
theorem pw_r6Valid (b:PBox) (h1:b.lo.length≤1000000) (h2:b.hi.length≤1000000):PCalls Tryz.prog 68 [pbox b] (· = pbool (boxB b)):=by
 have c1:=pw_r6Vector b.lo h1
 have c2:=pw_r6Vector b.hi h2
 have hlb:=low_pboxL b
 have f:∀v,boxB b=v→pbool v=pbool (boxB b):=fun v h=>by rw [h]
 refine pcalls_of_pw typeTab_ok Tryz.func68 rfl (by kernel_rfl) (by simp [low_pint,low_pints,low_pstr,low_pbool,low_pbox,low_pvecs,low_pentry,low_pentries,low_psum,low_pschema,low_pshells,low_pstrs,low_pfld,low_pdef]) (by simp [pint,pints,pstr,pbool,pbox,pvecs,pentry,pentries,psum,psumL,pschema,pshells,pstrs,pfld,pfldL,pdefL,PV.ownB]) (by rw [Tryz.ntmps68];simp) ?_
 rw [Tryz.ntmps68,Tryz.results68]
 unfold pbox pboxL at *
 cases e1:vecB b.lo with
 |false=>
  rw [e1] at c1
  clear c2
  refine wk ?_
  exact retP rfl (by exact lw) (f _ (by simp [boxB,e1]))
 |true=>
  rw [e1] at c1
  cases e2:vecB b.hi with
  |false=>
   rw [e2] at c2
   refine wk ?_
   exact retP rfl (by exact lw) (f _ (by simp [boxB,e2]))
  |true=>
   rw [e2] at c2
   by_cases e3:b.lo.length=b.hi.length
   rotate_left
   ·refine wk ?_
    exact retP rfl (by exact lw) (f _ (by simp [boxB,e3]))
   refine wk ?_
   clear c1 c2
   refine PW.loop (fun k:Nat=>(bot.setb 0 [pints b.lo,pints b.hi] |>.put 1 (.ptr 0 0) |>.put 3 (pint k))) (fun k=>k≤b.lo.length∧∀j,j < k→b.lo.getD j default≤b.hi.getD j default) (fun k=>b.lo.length - k) 0 ⟨by omega,by simp⟩ ?_ ?_
   ·exact sb
   rintro k ⟨hk,hn⟩
   by_cases hlt:k < b.lo.length
   ·by_cases h3:b.lo.getD k default≤b.hi.getD k default
    ·refine wk ?_
     refine loopP (k+1) ⟨by omega,fun j hj=>?_⟩ (by omega) ?_
     ·rcases Nat.lt_succ_iff_lt_or_eq.1 hj with h|h
      ·exact hn j h
      ·rw [h];exact h3
     ·exact sb
    ·refine wk ?_
     refine retP rfl (by exact lw) (f _ ?_)
     have:((List.range b.lo.length).all fun k=>decide (b.lo.getD k default≤b.hi.getD k default))=false:=by
      rw [List.all_eq_false];exact ⟨k,by simp [hlt],by simpa using h3⟩
     simp only [boxB,this,Bool.and_false]
   ·refine wk ?_
    refine retP rfl (by exact lw) (f _ ?_)
    have:((List.range b.lo.length).all fun k=>decide (b.lo.getD k default≤b.hi.getD k default))=true:=by
     rw [List.all_eq_true];intro j hj;simpa using hn j (by simp at hj;omega)
    rw [boxB,e1,e2,decide_eq_true e3,this];rfl
set_option maxRecDepth 10000 in
set_option maxHeartbeats 1000000 in
theorem pw_r6Has (b:PBox) (v:List Int) (h1:b.lo.length≤1000000) (h2:b.hi.length≤1000000) (h3:v.length≤1000000):PCalls Tryz.prog 74 [pbox b,pints v] (· = pbool (boxHas b v)):=by
 have c1:=pw_r6Valid b h1 h2
 have hlb:=low_pboxL b
 have f:∀w,boxHas b v=w→pbool w=pbool (boxHas b v):=fun v h=>by rw [h]
 refine pcalls_of_pw typeTab_ok Tryz.func74 rfl (by kernel_rfl) (by simp [low_pint,low_pints,low_pstr,low_pbool,low_pbox,low_pvecs,low_pentry,low_pentries,low_psum,low_pschema,low_pshells,low_pstrs,low_pfld,low_pdef]) (by simp [pint,pints,pstr,pbool,pbox,pvecs,pentry,pentries,psum,psumL,pschema,pshells,pstrs,pfld,pfldL,pdefL,PV.ownB]) (by rw [Tryz.ntmps74];simp) ?_
 rw [Tryz.ntmps74,Tryz.results74]
 unfold pbox pboxL at *
 cases e1:boxB b with
 |false=>
  rw [e1] at c1
  refine wk ?_
  exact retP rfl (by exact lw) (f _ (by simp [boxHas,e1]))
 |true=>
  rw [e1] at c1
  obtain ⟨l1,-,-⟩:=boxB_len e1
  by_cases e3:v.length=b.lo.length
  rotate_left
  ·refine wk ?_
   exact retP rfl (by exact lw) (f _ (by simp [boxHas,e3]))
  refine wk ?_
  clear c1
  refine PW.loop (fun k:Nat=>(bot.setb 0 [pints b.lo,pints b.hi] |>.put 1 (pints v) |>.put 2 (.ptr 0 0) |>.put 5 (pint k))) (fun k=>k≤v.length∧∀j,j < k→hasK b v j=true) (fun k=>v.length - k) 0 ⟨by omega,by simp⟩ ?_ ?_
  ·exact sb
  rintro k ⟨hk,hn⟩
  by_cases hlt:k < v.length
  ·have hbad:hasK b v k=false→boxHas b v=false:=fun h=>by
    have:(List.range v.length).all (hasK b v)=false:=by
     rw [List.all_eq_false];exact ⟨k,by simp [hlt],by rw [h];decide⟩
    simp only [boxHas,this,Bool.and_false]
   by_cases g1:b.lo.getD k default≤v.getD k default
   ·by_cases g2:v.getD k default≤b.hi.getD k default
    ·refine wk ?_
     refine loopP (k+1) ⟨by omega,fun j hj=>?_⟩ (by omega) ?_
     ·rcases Nat.lt_succ_iff_lt_or_eq.1 hj with h|h
      ·exact hn j h
      ·rw [h];simp only [hasK,decide_eq_true g1,decide_eq_true g2,Bool.and_self]
     ·exact sb
    ·refine wk ?_
     exact retP rfl (by exact lw) (f _ (hbad (by simp only [hasK,decide_eq_false g2,Bool.and_false])))
   ·refine wk ?_
    exact retP rfl (by exact lw) (f _ (hbad (by simp only [hasK,decide_eq_false g1,Bool.false_and])))
  ·refine wk ?_
   refine retP rfl (by exact lw) (f _ ?_)
   have:(List.range v.length).all (hasK b v)=true:=by
    rw [List.all_eq_true];intro j hj;exact hn j (by simp at hj;omega)
   rw [boxHas,e1,decide_eq_true e3,this];rfl
set_option maxRecDepth 10000 in
set_option maxHeartbeats 1000000 in
theorem pw_r6alike (a b:PBox) (h1:a.lo.length≤1000000) (h2:a.hi.length≤1000000) (h3:b.lo.length≤1000000) (h4:b.hi.length≤1000000):PCalls Tryz.prog 196 [pbox a,pbox b] (· = pbool (boxB a && (boxB b && decide (a.lo.length=b.lo.length)))):=by
 have c1:=pw_r6Valid a h1 h2
 have c2:=pw_r6Valid b h3 h4
 have hla:=low_pboxL a
 have hlb:=low_pboxL b
 refine pcalls_of_pw typeTab_ok Tryz.func196 rfl (by kernel_rfl) (by simp [low_pint,low_pints,low_pstr,low_pbool,low_pbox,low_pvecs,low_pentry,low_pentries,low_psum,low_pschema,low_pshells,low_pstrs,low_pfld,low_pdef]) (by simp [pint,pints,pstr,pbool,pbox,pvecs,pentry,pentries,psum,psumL,pschema,pshells,pstrs,pfld,pfldL,pdefL,PV.ownB]) (by rw [Tryz.ntmps196];simp) ?_
 rw [Tryz.ntmps196,Tryz.results196]
 unfold pbox pboxL at *
 cases e1:boxB a with
 |false=>
  rw [e1] at c1
  clear c2
  refine wk ?_
  exact retP rfl (by exact lw) (by simp [pbool])
 |true=>
  rw [e1] at c1
  cases e2:boxB b with
  |false=>
   rw [e2] at c2
   refine wk ?_
   exact retP rfl (by exact lw) (by simp [pbool])
  |true=>
   rw [e2] at c2
   by_cases e3:a.lo.length=b.lo.length
   ·refine wk ?_
    exact retP rfl (by exact lw) (by simp [pbool,e3])
   ·refine wk ?_
    exact retP rfl (by exact lw) (by simp [pbool,e3])
def cmn (l:List (List Int)) (k i:Nat):Int:=(l.take i).foldl (fun m v=>mnI m (v.getD k default)) ((l.getD 0 default).getD k default)
def cmx (l:List (List Int)) (k i:Nat):Int:=(l.take i).foldl (fun m v=>mxI m (v.getD k default)) ((l.getD 0 default).getD k default)
def colsL (f:List (List Int)→Nat→Nat→Int) (l:List (List Int)) (k:Nat):List Int:=(List.range k).map fun j=>f l j l.length
theorem colsL_succ (f:List (List Int)→Nat→Nat→Int) (l:List (List Int)) (k:Nat):(colsL f l (k+1)).map pint=(colsL f l k).map pint ++ [pint (f l k l.length)]:=by simp [colsL,List.range_succ]
theorem cmn_succ {l:List (List Int)} {k i:Nat} (h:i < l.length):cmn l k (i+1)=mnI (cmn l k i) ((l.getD i default).getD k default):=by
 unfold cmn;rw [foldl_take _ _ _ h]
theorem cmx_succ {l:List (List Int)} {k i:Nat} (h:i < l.length):cmx l k (i+1)=mxI (cmx l k i) ((l.getD i default).getD k default):=by
 unfold cmx;rw [foldl_take _ _ _ h]
set_option maxRecDepth 10000 in
set_option maxHeartbeats 4000000 in
theorem pw_r6Of (l:List (List Int)) (n:Nat) (h0:0 < l.length) (h1:l.length≤1000) (hv:∀k,k < l.length→vecB (l.getD k default)=true∧(l.getD k default).length=n):PCalls Tryz.prog 197 [pvecs l] (· = .agg [pints (colsL cmn l n),pints (colsL cmx l n),pbool true,pint 0]):=by
 have hn:n≤32:=by
  obtain ⟨a,b⟩:=hv 0 h0
  have:=(vecB_get a).1
  omega
 have hl0:(l.getD 0 default).length=n:=(hv 0 h0).2
 have hlv:Low (pvecs l):=(low_pvecs l).2 trivial
 refine PCalls.weak ?_
 refine pcalls_of_pw typeTab_ok Tryz.func197 rfl (by kernel_rfl) (by simp [low_pint,low_pints,low_pstr,low_pbool,low_pbox,low_pvecs,low_pentry,low_pentries,low_psum,low_pschema,low_pshells,low_pstrs,low_pfld,low_pdef]) (by simp [pint,pints,pstr,pbool,pbox,pvecs,pentry,pentries,psum,psumL,pschema,pshells,pstrs,pfld,pfldL,pdefL,PV.ownB]) (by rw [Tryz.ntmps197];simp) ?_
 rw [Tryz.ntmps197,Tryz.results197]
 refine wk ?_
 refine PW.loop (fun k:Nat=>(bot.setb 0 [.nilsl, .nilsl,pbool false,pint 0] |>.put 0 (pvecs l) |>.put 2 (.ptr 0 0) |>.put 3 (pint k))) (fun k=>k≤l.length) (fun k=>l.length - k) 0 (by omega) ?_ ?_
 ·exact sb
 intro k hk
 by_cases hlt:k < l.length
 ·obtain ⟨v1,v2⟩:=hv k hlt
  have c1:=pw_r6Vector (l.getD k default) (by omega)
  rw [v1] at c1
  refine wk ?_
  refine loopP (k+1) (by omega) (by omega) ?_
  exact sb
 refine wk ?_
 have hlB:∀k,∀c ∈ [PV.sl k 1 ((colsL cmn l k).map pint) (some 3),PV.sl k 1 ((colsL cmx l k).map pint) (some 3)],Low c:=fun k c hc=>by
  simp only [List.mem_cons,List.not_mem_nil,or_false] at hc
  rcases hc with rfl|rfl<;>exact low_ints _ _ _
 refine PW.loop (fun k:Nat=>(bot.setb 0 [.nilsl, .nilsl,pbool false,pint 0] |>.setb 8000 [.sl k 1 ((colsL cmn l k).map pint) (some 3), .sl k 1 ((colsL cmx l k).map pint) (some 3)] |>.put 0 (pvecs l) |>.put 2 (.ptr 0 0) |>.put 4 (.ptr 8000 0) |>.put 5 (pint k))) (fun k=>k≤n) (fun k=>n - k) 0 (by omega) ?_ ?_
 ·exact sb
 intro k hk
 have hlBk:=hlB k
 by_cases hlt:k < n
 ·refine wk ?_
  refine PW.loop (fun i:Nat=>(bot.setb 0 [.nilsl, .nilsl,pbool false,pint 0] |>.setb 8000 [.sl k 1 ((colsL cmn l k).map pint) (some 3), .sl k 1 ((colsL cmx l k).map pint) (some 3)] |>.put 0 (pvecs l) |>.put 2 (.ptr 0 0) |>.put 4 (.ptr 8000 0) |>.put 5 (pint k) |>.put 6 (pint (cmn l k i)) |>.put 7 (pint (cmx l k i)) |>.put 8 (pint i))) (fun i=>i≤l.length) (fun i=>l.length - i) 0 (by omega) ?_ ?_
  ·exact sb
  intro i hi
  by_cases hli:i < l.length
  ·obtain ⟨-,v2⟩:=hv i hli
   refine wk ?_
   refine loopP (i+1) (by omega) (by omega) ?_
   simp only [cmn_succ hli,cmx_succ hli]
   exact sb
  ·have hii:i=l.length:=by omega
   subst hii
   have hlB1:=hlB (k+1)
   rw [colsL_succ,colsL_succ] at hlB1
   refine wk ?_
   refine loopP (k+1) (by omega) (by omega) ?_
   simp only [colsL_succ]
   exact sb
 ·have hkk:k=n:=by omega
  subst hkk
  refine wk ?_
  refine retP (r:=.agg [.sl k 1 ((colsL cmn l k).map pint) none, .sl k 1 ((colsL cmx l k).map pint) none,pbool true,pint 0]) rfl (by simp only [low_agg,List.mem_cons,List.not_mem_nil,or_false];rintro c (rfl|rfl|rfl|rfl);exact low_ints _ _ _;exact low_ints _ _ _;exact .val _;exact .val _) ?_
  have e:∀f:List (List Int)→Nat→Nat→Int,PV.sl k 1 ((colsL f l k).map pint) none=pints (colsL f l k):=fun f=>sl_eq (by simp [colsL]) rfl
  rw [e,e]
  exact Weak.refl _
theorem cols4 {a b:PBox} (ha:boxB a=true) (hb:boxB b=true) (hl:a.lo.length=b.lo.length):colsL cmn [a.lo,a.hi,b.lo,b.hi] a.lo.length=zipI min a.lo b.lo∧colsL cmx [a.lo,a.hi,b.lo,b.hi] a.lo.length=zipI max a.hi b.hi:=by
 obtain ⟨l1,-,-⟩:=boxB_len ha
 have ka:=(boxOK_of ha).le
 have kb:=(boxOK_of hb).le
 refine ⟨?_,?_⟩
 ·refine List.map_congr_left fun k hk=>?_
  have hk' : k < a.lo.length:=by simpa using hk
  have h1:=ka k hk'
  have h2:=kb k (by omega)
  simp only [cmn,List.length_cons,List.length_nil,List.take,List.foldl,List.getD_cons_zero,mnI_eq]
  omega
 ·unfold zipI colsL
  rw [l1]
  refine List.map_congr_left fun k hk=>?_
  have hk' : k < a.lo.length:=by rw [l1];simpa using hk
  have h1:=ka k hk'
  have h2:=kb k (by omega)
  simp only [cmx,List.length_cons,List.length_nil,List.take,List.foldl,List.getD_cons_zero,mxI_eq]
  omega
set_option maxRecDepth 10000 in
set_option maxHeartbeats 1000000 in
theorem pw_r6Join (a b:PBox) (h1:a.lo.length≤1000000) (h2:a.hi.length≤1000000) (h3:b.lo.length≤1000000) (h4:b.hi.length≤1000000):PCalls Tryz.prog 113 [pbox a,pbox b] (· = .agg [pints (boxJoin a b).1.lo,pints (boxJoin a b).1.hi,pbool (boxB a && (boxB b && decide (a.lo.length=b.lo.length))),pint (boxJoin a b).2]):=by
 have c1:=pw_r6alike a b h1 h2 h3 h4
 have hla:=low_pboxL a
 have hlb:=low_pboxL b
 refine PCalls.weak ?_
 refine pcalls_of_pw typeTab_ok Tryz.func113 rfl (by kernel_rfl) (by simp [low_pint,low_pints,low_pstr,low_pbool,low_pbox,low_pvecs,low_pentry,low_pentries,low_psum,low_pschema,low_pshells,low_pstrs,low_pfld,low_pdef]) (by simp [pint,pints,pstr,pbool,pbox,pvecs,pentry,pentries,psum,psumL,pschema,pshells,pstrs,pfld,pfldL,pdefL,PV.ownB]) (by rw [Tryz.ntmps113];simp) ?_
 rw [Tryz.ntmps113,Tryz.results113]
 unfold boxJoin
 cases e1:(boxB a && (boxB b && decide (a.lo.length=b.lo.length))) with
 |false=>
  rw [e1] at c1
  unfold pbox pboxL at *
  refine wk ?_
  exact retP (r:=.agg [.nilsl, .nilsl,pbool false,pint 1]) rfl (by simp [low_agg,low_nilsl,low_pbool,low_pint]) (.agg (.cons (.nil 1) (.cons (.nil 1) (.cons (.refl _) (.cons (.refl _) .nil)))))
 |true=>
  rw [e1] at c1
  simp only [Bool.and_eq_true,decide_eq_true_eq] at e1
  obtain ⟨ea,eb,el⟩:=e1
  obtain ⟨va,va'⟩:=boxB_vec ea
  obtain ⟨vb,vb'⟩:=boxB_vec eb
  obtain ⟨la,-,-⟩:=boxB_len ea
  obtain ⟨lb,-,-⟩:=boxB_len eb
  have c2:=pw_r6Of [a.lo,a.hi,b.lo,b.hi] a.lo.length (by simp) (by simp) (fun k hk=>by
   match k,hk with
   |0,_=>exact ⟨va,rfl⟩
   |1,_=>exact ⟨va',la.symm⟩
   |2,_=>exact ⟨vb,el.symm⟩
   |3,_=>exact ⟨vb',by show b.hi.length=_;omega⟩)
  obtain ⟨k1,k2⟩:=cols4 ea eb el
  rw [k1,k2] at c2
  unfold pbox pboxL at *
  refine wk ?_
  exact retP (r:=.agg [pints (zipI min a.lo b.lo),pints (zipI max a.hi b.hi),pbool true,pint 0]) rfl (by simp [low_agg,low_pints,low_pbool,low_pint]) (Weak.refl _)
end Go.Proofs.YtoamkpgaaanafaaGreat
