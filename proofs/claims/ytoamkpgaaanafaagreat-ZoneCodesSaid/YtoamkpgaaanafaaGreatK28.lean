/- Out of: Cd. -/
import Derived.Test.YtoamkpgaaanafaaGreatK1
import Derived.Test.YtoamkpgaaanafaaGreatK2
import Derived.Test.YtoamkpgaaanafaaGreatK4
import Derived.Test.YtoamkpgaaanafaaGreatK5
import Derived.Test.YtoamkpgaaanafaaGreatK6
import Derived.Test.YtoamkpgaaanafaaGreatK8
import Derived.Test.YtoamkpgaaanafaaGreatK9
import Derived.Test.YtoamkpgaaanafaaGreatK10
import Derived.Test.YtoamkpgaaanafaaGreatK11
import Derived.Test.YtoamkpgaaanafaaGreatK12
import Derived.Test.YtoamkpgaaanafaaGreatK13
import Derived.Test.YtoamkpgaaanafaaGreatK15
import Derived.Test.YtoamkpgaaanafaaGreatK18
import Derived.Test.YtoamkpgaaanafaaGreatK21
import Derived.Test.YtoamkpgaaanafaaGreatK22
import Derived.Test.YtoamkpgaaanafaaGreatK24
import Derived.Test.YtoamkpgaaanafaaGreatK25
namespace Go.Proofs.YtoamkpgaaanafaaGreat
set_option linter.unusedSimpArgs false
set_option linter.unusedVariables false
set_option linter.unnecessarySimpa false
section
open Go.RowKit
def cutR (n:List Int) (m:Int):List Int×List Int×Bool:=if m < 0∨(n.length:Int) < m then ([],[],false) else (n.take m.toNat,n.drop m.toNat,true)
def cntR (n:List Int) (t:Int):List Int×List Int×Bool:=if n.length=0∨n.getD 0 default < 0∨(n.length:Int) < n.getD 0 default then ([],[],false) else cutR (n.drop 1) (n.getD 0 default * t)
def triP (r:List Int×List Int×Bool):PV:=.tup [pints r.1,pints r.2.1,pbool r.2.2]
theorem low_triP (r:List Int×List Int×Bool):Low (triP r):=low_tup.2 (by
 simp only [List.mem_cons,List.not_mem_nil,or_false]
 rintro c (rfl|rfl|rfl)
 ·exact (low_pints _).2 trivial
 ·exact (low_pints _).2 trivial
 ·exact .val _)
theorem weak_tri0:Weak (.tup [.nilsl, .nilsl,pbool false]) (triP ([],[],false)):=.tup (.cons (.nil 1) (.cons (.nil 1) (.cons (.refl _) .nil)))
theorem low_tri0:Low (.tup [.nilsl, .nilsl,pbool false]):=low_tup.2 (by
 simp only [List.mem_cons,List.not_mem_nil,or_false]
 rintro c (rfl|rfl|rfl)
 ·exact .nilsl
 ·exact .nilsl
 ·exact .val _)
set_option maxRecDepth 10000 in
theorem pw_rCut (n:List Int) (m:Int) (hn:n.length≤1000000000):PCalls Tryz.prog 254 [pints n,pint m] (· = triP (cutR n m)):=by
 refine PCalls.weak ?_
 refine pcalls_of_pw typeTab_ok Tryz.func254 rfl (by kernel_rfl) (by simp [low_pint,low_pints,low_pstr,low_pbool,low_pbox,low_pvecs,low_pentry,low_pentries,low_psum,low_pschema,low_pshells,low_pstrs,low_pfld,low_pdef]) (by simp [pint,pints,pstr,pbool,pbox,pvecs,pentry,pentries,psum,psumL,pschema,pshells,pstrs,pfld,pfldL,pdefL,PV.ownB]) (by rw [Tryz.ntmps254];simp) ?_
 rw [Tryz.ntmps254,Tryz.results254]
 unfold cutR
 by_cases h1:m < 0
 ·rw [if_pos (.inl h1)]
  refine wk ?_
  exact retP (r:=.tup [.nilsl, .nilsl,pbool false]) rfl low_tri0 weak_tri0
 by_cases h2:(n.length:Int) < m
 ·rw [if_pos (.inr h2)]
  refine wk ?_
  exact retP (r:=.tup [.nilsl, .nilsl,pbool false]) rfl low_tri0 weak_tri0
 rw [if_neg (fun h=>h.elim h1 h2)]
 refine wk ?_
 exact retP (r:=triP _) rfl (low_triP _) (Weak.refl _)
set_option maxRecDepth 10000 in
set_option maxHeartbeats 1000000 in
theorem pw_rCounted (n:List Int) (t:Int) (hn:n.length≤100000000) (ht:t=1∨t=2∨t=4):PCalls Tryz.prog 210 [pints n,pint t] (· = triP (cntR n t)):=by
 refine PCalls.weak ?_
 have c1:=pw_rCut (n.drop 1) (n.getD 0 default * t) (by rw [List.length_drop];omega)
 have hlc:=low_triP (cutR (n.drop 1) (n.getD 0 default * t))
 refine pcalls_of_pw typeTab_ok Tryz.func210 rfl (by kernel_rfl) (by simp [low_pint,low_pints,low_pstr,low_pbool,low_pbox,low_pvecs,low_pentry,low_pentries,low_psum,low_pschema,low_pshells,low_pstrs,low_pfld,low_pdef]) (by simp [pint,pints,pstr,pbool,pbox,pvecs,pentry,pentries,psum,psumL,pschema,pshells,pstrs,pfld,pfldL,pdefL,PV.ownB]) (by rw [Tryz.ntmps210];simp) ?_
 rw [Tryz.ntmps210,Tryz.results210]
 unfold cntR
 generalize cutR (n.drop 1) (n.getD 0 default * t)=r at *
 by_cases h0:n.length=0
 ·rw [if_pos (.inl h0)]
  refine wk ?_
  exact retP (r:=.tup [.nilsl, .nilsl,pbool false]) rfl low_tri0 weak_tri0
 by_cases h1:n.getD 0 default < 0
 ·rw [if_pos (.inr (.inl h1))]
  refine wk ?_
  exact retP (r:=.tup [.nilsl, .nilsl,pbool false]) rfl low_tri0 weak_tri0
 by_cases h2:(n.length:Int) < n.getD 0 default
 ·rw [if_pos (.inr (.inr h2))]
  refine wk ?_
  exact retP (r:=.tup [.nilsl, .nilsl,pbool false]) rfl low_tri0 weak_tri0
 rw [if_neg (fun h=>h.elim h0 (fun h=>h.elim h1 h2))]
 unfold triP at c1
 rcases ht with rfl|rfl|rfl <;>
 ·refine wk ?_
  exact retP (r:=triP _) rfl (low_triP _) (Weak.refl _)
theorem cntR_take {c:Nat} {t:Int} {l r:List Int} (h:(l.length:Int)=c * t) (ht:1≤t):cntR ((c:Int) :: (l ++ r)) t=(l,r,true):=by
 have hc:(c:Int)≤l.length:=by
  rw [h]
  have:=Int.mul_le_mul_of_nonneg_left ht (show (0:Int)≤c by omega)
  omega
 unfold cntR cutR
 simp only [List.getD_cons_zero,List.drop_succ_cons,List.drop_zero,List.length_cons,List.length_append]
 rw [if_neg (by omega),if_neg (by rw [←h];omega),←h]
 simp
theorem cntR_good {n a r:List Int} {t:Int} (h:cntR n t=(a,r,true)):∃c:Nat,n=(c:Int) :: (a ++ r)∧(a.length:Int)=c * t:=by
 unfold cntR at h
 split at h
 ·simp at h
 ·rename_i h0
  simp only [not_or] at h0
  unfold cutR at h
  split at h
  ·simp at h
  ·rename_i h1
   simp only [not_or] at h1
   simp only [Prod.mk.injEq,and_true] at h
   match n,h0,h1,h with
   |x :: n,h0,h1,h=>
    simp only [List.getD_cons_zero,List.drop_succ_cons,List.drop_zero] at h0 h1 h
    obtain ⟨rfl,rfl⟩:=h
    refine ⟨x.toNat,?_,?_⟩
    ·rw [List.take_append_drop,Int.toNat_of_nonneg (by omega)]
    ·rw [List.length_take,Int.toNat_of_nonneg (by omega)]
     omega
def IsDec (n:List Int) (w:List ByteArray) (z:PSum):Prop:=n=numsZ z∧w=flW z.fields
theorem fin_dec {n:List Int} {w:List ByteArray} {z:PSum} (h:IsDec n w z):finZ (decM ⟨n,w,false⟩)=(z,0):=by
 obtain ⟨rfl,rfl⟩:=h
 rw [decM_take]
 rfl
theorem fin_not {n:List Int} {w:List ByteArray} (h:∀z,¬IsDec n w z):finZ (decM ⟨n,w,false⟩)=(zeroZ,11):=by
 unfold finZ
 split
 ·rfl
 ·rename_i h0
  simp only [not_or,Bool.not_eq_true] at h0
  obtain ⟨a,b,c⟩:=decM_good h0.1
  have l1:(decM ⟨n,w,false⟩).2.n = []:=List.eq_nil_of_length_eq_zero (by omega)
  have l2:(decM ⟨n,w,false⟩).2.w = []:=List.eq_nil_of_length_eq_zero (by omega)
  rw [l1,List.append_nil] at b
  rw [l2,List.append_nil] at c
  exact absurd ⟨b,c⟩ (h _)
theorem fin_bad {n:List Int} {w:List ByteArray} : finZ (decM ⟨n,w,true⟩)=(zeroZ,11):=by
 unfold finZ
 split
 ·rfl
 ·rename_i h0
  simp only [not_or,Bool.not_eq_true] at h0
  have:=(decM_good h0.1).1
  cases this
def shR (l:List Int) (k:Nat):List PShell:=(List.range k).map fun j=>⟨l.getD (2 * j) default,l.getD (2 * j+1) default⟩
theorem shR_succ (l:List Int) (k:Nat):shR l (k+1)=shR l k ++ [⟨l.getD (2 * k) default,l.getD (2 * k+1) default⟩]:=by
 unfold shR;rw [List.range_succ,List.map_append];rfl
theorem shR_len (l:List Int) (k:Nat):(shR l k).length=k:=by simp [shR]
theorem shN_shR (l:List Int):∀k,2 * k≤l.length→shN (shR l k)=l.take (2 * k)
 |0,_=>by simp [shR,shN]
 |k+1,h=>by
  have ih:=shN_shR l k (by omega)
  unfold shN at ih ⊢
  rw [shR_succ,List.flatMap_append,ih,show 2 * (k+1)=2 * k+1+1 by omega,take_getD default (show 2 * k+1 < l.length by omega),take_getD default (show 2 * k < l.length by omega)]
  simp
def flR (l:List Int) (w:List ByteArray):Nat→List PField×List ByteArray
 |0=>([],w)
 |j+1=>((flR l w j).1 ++ [⟨l.getD (4 * j) default,l.getD (4 * j+1) default,l.getD (4 * j+2) default,(flR l w j).2.take (l.getD (4 * j+3) default).toNat⟩],(flR l w j).2.drop (l.getD (4 * j+3) default).toNat)
def flOk (l:List Int) (w:List ByteArray) (j:Nat):Prop:=0≤l.getD (4 * j+3) default∧l.getD (4 * j+3) default≤(flR l w j).2.length
theorem flR_len (l:List Int) (w:List ByteArray):∀j,(flR l w j).1.length=j∧(flR l w j).2.length≤w.length
 |0=>⟨rfl,Nat.le_refl _⟩
 |j+1=>by
  obtain ⟨h1,h2⟩:=flR_len l w j
  rw [flR]
  exact ⟨by rw [List.length_append,h1];rfl,by simp only [List.length_drop];omega⟩
theorem flN_flR (l:List Int) (w:List ByteArray):∀j,4 * j≤l.length→(∀i,i < j→flOk l w i)→flN (flR l w j).1=l.take (4 * j)∧w=flW (flR l w j).1 ++ (flR l w j).2
 |0,_,_=>by simp [flR,flN,flW]
 |j+1,h,ho=>by
  obtain ⟨i1,i2⟩:=flN_flR l w j (by omega) (fun i hi=>ho i (by omega))
  obtain ⟨o1,o2⟩:=ho j (by omega)
  have hk:(((flR l w j).2.take (l.getD (4 * j+3) default).toNat).length:Int)=l.getD (4 * j+3) default:=by rw [List.length_take];omega
  unfold flN flW at *
  rw [flR]
  simp only
  rw [List.flatMap_append,List.flatMap_append,i1]
  constructor
  ·rw [show 4 * (j+1)=4 * j+1+1+1+1 by omega,take_getD default (show 4 * j+1+1+1 < l.length by omega),take_getD default (show 4 * j+1+1 < l.length by omega),take_getD default (show 4 * j+1 < l.length by omega),take_getD default (show 4 * j < l.length by omega)]
   simp only [List.flatMap_cons,List.flatMap_nil,hk]
   simp
  ·conv=>lhs;rw [i2]
   simp
theorem flR_take (fs:List PField):∀j,j≤fs.length→flR (flN fs) (flW fs) j=(fs.take j,flW (fs.drop j))
 |0,_=>by simp [flR]
 |j+1,h=>by
  have hg:∀i,(flN fs).getD (4 * j+i) default=(flN (fs.drop j)).getD i default:=fun i=>by
   have e:flN fs=flN (fs.take j) ++ flN (fs.drop j):=by unfold flN;rw [←List.flatMap_append,List.take_append_drop]
   have el:(flN (fs.take j)).length=4 * j:=by rw [flN_len,List.length_take];omega
   rw [e,List.getD_eq_getElem?_getD,List.getElem?_append_right (by omega),el,Nat.add_sub_cancel_left,List.getD_eq_getElem?_getD]
  have e0:=hg 0
  have e1:=hg 1
  have e2:=hg 2
  have e3:=hg 3
  rw [Nat.add_zero] at e0
  rw [flR,flR_take fs j (by omega),e0,e1,e2,e3,List.drop_eq_getElem_cons (show j < fs.length by omega)]
  simp only [flN,flW,List.flatMap_cons,List.cons_append,List.nil_append,List.getD_cons_zero,List.getD_cons_succ,Int.toNat_natCast,List.take_left,List.drop_left,List.take_add_one,List.getElem?_eq_getElem (show j < fs.length by omega),Option.toList_some]
theorem flOk_take (fs:List PField) {j:Nat} (h:j < fs.length):flOk (flN fs) (flW fs) j:=by
 have e:flN fs=flN (fs.take j) ++ flN (fs.drop j):=by unfold flN;rw [←List.flatMap_append,List.take_append_drop]
 have el:(flN (fs.take j)).length=4 * j:=by rw [flN_len,List.length_take];omega
 have e3:(flN fs).getD (4 * j+3) default=(fs[j].words.length:Int):=by
  rw [e,List.getD_eq_getElem?_getD,List.getElem?_append_right (by omega),el,Nat.add_sub_cancel_left,List.drop_eq_getElem_cons h]
  rfl
 unfold flOk
 rw [e3,flR_take fs j (by omega),List.drop_eq_getElem_cons h]
 simp only [flW,List.flatMap_cons,List.length_append]
 omega
end
end Go.Proofs.YtoamkpgaaanafaaGreat
