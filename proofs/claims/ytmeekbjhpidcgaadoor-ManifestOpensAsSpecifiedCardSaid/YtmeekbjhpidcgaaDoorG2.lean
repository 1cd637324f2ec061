/- Out of: PlainA, PlainU. -/
import GoSem.Step
namespace Go.Proofs.YtmeekbjhpidcgaaDoor
set_option linter.unusedSimpArgs false
set_option linter.unusedVariables false
set_option linter.unnecessarySimpa false
section
theorem drop_one {α:Type} (zs:List α) (k:Nat) (a:α) (ha:zs[k]? = some a):zs.drop k=a :: zs.drop (k+1):=by
 obtain ⟨hk,rfl⟩:=List.getElem?_eq_some_iff.1 ha
 rw [List.drop_eq_getElem_cons (by omega)]
def mergeF (r:Bool→Bool→Bool):Nat→List Int→List Int→Bool→Bool→Bool→List Int
 |0,_,_,_,_,_ => []
 |_+1,[],[],_,_,_ => []
 |n+1,a :: az,[],pa,pb,po=>if r (!pa) pb != po then a :: mergeF r n az [] (!pa) pb (!po) else mergeF r n az [] (!pa) pb po
 |n+1,[],b :: bs,pa,pb,po=>if r pa (!pb) != po then b :: mergeF r n [] bs pa (!pb) (!po) else mergeF r n [] bs pa (!pb) po
 |n+1,a :: az,b :: bs,pa,pb,po=>
  if a < b then (if r (!pa) pb != po then a :: mergeF r n az (b :: bs) (!pa) pb (!po) else mergeF r n az (b :: bs) (!pa) pb po)
  else if b < a then (if r pa (!pb) != po then b :: mergeF r n (a :: az) bs pa (!pb) (!po) else mergeF r n (a :: az) bs pa (!pb) po)
  else (if r (!pa) (!pb) != po then a :: mergeF r n az bs (!pa) (!pb) (!po) else mergeF r n az bs (!pa) (!pb) po)
def mergeL (r:Bool→Bool→Bool) (az bs:List Int):List Int:=mergeF r (az.length+bs.length) az bs false false false
theorem mergeF_nil (r:Bool→Bool→Bool) (n:Nat) (pa pb po:Bool):mergeF r n [] [] pa pb po = []:=by cases n<;>rfl
theorem mergeF_left (r:Bool→Bool→Bool) (n:Nat) (a:Int) (az:List Int) (pa pb po:Bool) :
  mergeF r (n+1) (a :: az) [] pa pb po=if r (!pa) pb != po then a :: mergeF r n az [] (!pa) pb (!po) else mergeF r n az [] (!pa) pb po:=rfl
theorem mergeF_right (r:Bool→Bool→Bool) (n:Nat) (b:Int) (bs:List Int) (pa pb po:Bool) :
  mergeF r (n+1) [] (b :: bs) pa pb po=if r pa (!pb) != po then b :: mergeF r n [] bs pa (!pb) (!po) else mergeF r n [] bs pa (!pb) po:=rfl
def MergeAt (r:Bool→Bool→Bool) (az bs:List Int) (i k:Nat) (out:List Int):Prop:=
 mergeL r az bs=out ++ mergeF r (az.length - i+(bs.length - k)) (az.drop i) (bs.drop k) (decide (i % 2=1)) (decide (k % 2=1)) (decide (out.length % 2=1))
theorem MergeAt.done {r:Bool→Bool→Bool} {az bs:List Int} {i k:Nat} {out:List Int} (h:MergeAt r az bs i k out) (hi:az.length≤i) (hk:bs.length≤k):mergeL r az bs=out:=by
 rw [MergeAt,List.drop_eq_nil_of_le hi,List.drop_eq_nil_of_le hk,mergeF_nil] at h
 simpa using h
theorem odd_succ (i:Nat):decide ((i+1) % 2=1) = !decide (i % 2=1):=by
 by_cases h:i % 2=1
 ·have:(i+1) % 2=0:=by omega
  simp [h,this]
 ·have:(i+1) % 2=1:=by omega
  simp [h,this]
def addIf (c:Bool) (out:List Int) (x:Int):List Int:=if c then out ++ [x] else out
theorem MergeAt.left {r:Bool→Bool→Bool} {az bs:List Int} {i k:Nat} {out:List Int} (h:MergeAt r az bs i k out) (x:Int) (hx:az[i]? = some x) (hk:bs.length≤k∨∃y,bs[k]? = some y∧x < y) (c:Bool)
  (hc:c=(r (decide ((i+1) % 2=1)) (decide (k % 2=1)) != decide (out.length % 2=1))):MergeAt r az bs (i+1) k (addIf c out x):=by
 obtain ⟨hi,_⟩:=List.getElem?_eq_some_iff.1 hx
 unfold MergeAt at h ⊢
 rw [h]
 have e1:az.length - i+(bs.length - k)=(az.length - (i+1)+(bs.length - k))+1:=by omega
 rw [e1,drop_one az i x hx]
 rw [odd_succ] at hc
 have step:mergeF r (az.length - (i+1)+(bs.length - k)+1) (x :: az.drop (i+1)) (bs.drop k) (decide (i % 2=1)) (decide (k % 2=1)) (decide (out.length % 2=1)) =
   if c then x :: mergeF r (az.length - (i+1)+(bs.length - k)) (az.drop (i+1)) (bs.drop k) (!decide (i % 2=1)) (decide (k % 2=1)) (!decide (out.length % 2=1))
   else mergeF r (az.length - (i+1)+(bs.length - k)) (az.drop (i+1)) (bs.drop k) (!decide (i % 2=1)) (decide (k % 2=1)) (decide (out.length % 2=1)):=by
  rcases hk with hk|⟨y,hy,hxy⟩
  ·rw [List.drop_eq_nil_of_le hk,mergeF_left,hc]
  ·rw [drop_one bs k y hy,mergeF.eq_5,if_pos hxy,hc]
 rw [step,odd_succ]
 cases c
 ·simp [addIf]
 ·simp only [addIf,if_true,List.length_append,List.length_cons,List.length_nil,Nat.zero_add,odd_succ,List.append_assoc,List.cons_append,List.nil_append]
theorem MergeAt.right {r:Bool→Bool→Bool} {az bs:List Int} {i k:Nat} {out:List Int} (h:MergeAt r az bs i k out) (x:Int) (hx:bs[k]? = some x) (hk:az.length≤i∨∃y,az[i]? = some y∧x < y) (c:Bool)
  (hc:c=(r (decide (i % 2=1)) (decide ((k+1) % 2=1)) != decide (out.length % 2=1))):MergeAt r az bs i (k+1) (addIf c out x):=by
 obtain ⟨hi,_⟩:=List.getElem?_eq_some_iff.1 hx
 unfold MergeAt at h ⊢
 rw [h]
 have e1:az.length - i+(bs.length - k)=(az.length - i+(bs.length - (k+1)))+1:=by omega
 rw [e1,drop_one bs k x hx]
 rw [odd_succ] at hc
 have step:mergeF r (az.length - i+(bs.length - (k+1))+1) (az.drop i) (x :: bs.drop (k+1)) (decide (i % 2=1)) (decide (k % 2=1)) (decide (out.length % 2=1)) =
   if c then x :: mergeF r (az.length - i+(bs.length - (k+1))) (az.drop i) (bs.drop (k+1)) (decide (i % 2=1)) (!decide (k % 2=1)) (!decide (out.length % 2=1))
   else mergeF r (az.length - i+(bs.length - (k+1))) (az.drop i) (bs.drop (k+1)) (decide (i % 2=1)) (!decide (k % 2=1)) (decide (out.length % 2=1)):=by
  rcases hk with hk|⟨y,hy,hxy⟩
  ·rw [List.drop_eq_nil_of_le hk,mergeF_right,hc]
  ·rw [drop_one az i y hy,mergeF.eq_5,if_neg (by omega),if_pos hxy,hc]
 rw [step,odd_succ]
 cases c
 ·simp [addIf]
 ·simp only [addIf,if_true,List.length_append,List.length_cons,List.length_nil,Nat.zero_add,odd_succ,List.append_assoc,List.cons_append,List.nil_append]
def Fit64 (n:Int):Prop := -9223372036854775808≤n∧n≤9223372036854775807
end
end Go.Proofs.YtmeekbjhpidcgaaDoor
