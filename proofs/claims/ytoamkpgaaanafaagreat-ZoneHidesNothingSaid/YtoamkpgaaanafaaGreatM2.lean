/- Out of: PlainA, PlainX, PlainT, PlainU, PlainRt. -/
import GoSem.Step
import Derived.Lib.BitFns
namespace Go.Proofs.YtoamkpgaaanafaaGreat
set_option linter.unusedSimpArgs false
set_option linter.unusedVariables false
set_option linter.unnecessarySimpa false
section
theorem drop_one {α:Type} (zs:List α) (k:Nat) (a:α) (ha:zs[k]? = some a):zs.drop k=a :: zs.drop (k+1):=by
 obtain ⟨hk,rfl⟩:=List.getElem?_eq_some_iff.1 ha
 rw [List.drop_eq_getElem_cons (by omega)]
def mergeF (r:Bool→Bool→Bool):Nat→List Int→List Int→Bool→Bool→Bool→List Int
 |0,_,_,_,_,_ => []
 |_+1,[],[],_,_,_ => []
 |n+1,a :: az,[],pa,pb,po=>if r (!pa) pb != po then a :: mergeF r n az [] (!pa) pb (!po) else mergeF r n az [] (!pa) pb po
 |n+1,[],b :: bs,pa,pb,po=>if r pa (!pb) != po then b :: mergeF r n [] bs pa (!pb) (!po) else mergeF r n [] bs pa (!pb) po
 |n+1,a :: az,b :: bs,pa,pb,po=>
  if a < b then (if r (!pa) pb != po then a :: mergeF r n az (b :: bs) (!pa) pb (!po) else mergeF r n az (b :: bs) (!pa) pb po)
  else if b < a then (if r pa (!pb) != po then b :: mergeF r n (a :: az) bs pa (!pb) (!po) else mergeF r n (a :: az) bs pa (!pb) po)
  else (if r (!pa) (!pb) != po then a :: mergeF r n az bs (!pa) (!pb) (!po) else mergeF r n az bs (!pa) (!pb) po)
def mergeL (r:Bool→Bool→Bool) (az bs:List Int):List Int:=mergeF r (az.length+bs.length) az bs false false false
theorem mergeF_nil (r:Bool→Bool→Bool) (n:Nat) (pa pb po:Bool):mergeF r n [] [] pa pb po = []:=by cases n<;>rfl
theorem mergeF_left (r:Bool→Bool→Bool) (n:Nat) (a:Int) (az:List Int) (pa pb po:Bool) :
  mergeF r (n+1) (a :: az) [] pa pb po=if r (!pa) pb != po then a :: mergeF r n az [] (!pa) pb (!po) else mergeF r n az [] (!pa) pb po:=rfl
theorem mergeF_right (r:Bool→Bool→Bool) (n:Nat) (b:Int) (bs:List Int) (pa pb po:Bool) :
  mergeF r (n+1) [] (b :: bs) pa pb po=if r pa (!pb) != po then b :: mergeF r n [] bs pa (!pb) (!po) else mergeF r n [] bs pa (!pb) po:=rfl
def MergeAt (r:Bool→Bool→Bool) (az bs:List Int) (i k:Nat) (out:List Int):Prop:=
 mergeL r az bs=out ++ mergeF r (az.length - i+(bs.length - k)) (az.drop i) (bs.drop k) (decide (i % 2=1)) (decide (k % 2=1)) (decide (out.length % 2=1))
theorem MergeAt.done {r:Bool→Bool→Bool} {az bs:List Int} {i k:Nat} {out:List Int} (h:MergeAt r az bs i k out) (hi:az.length≤i) (hk:bs.length≤k):mergeL r az bs=out:=by
 rw [MergeAt,List.drop_eq_nil_of_le hi,List.drop_eq_nil_of_le hk,mergeF_nil] at h
 simpa using h
theorem odd_succ (i:Nat):decide ((i+1) % 2=1) = !decide (i % 2=1):=by
 by_cases h:i % 2=1
 ·have:(i+1) % 2=0:=by omega
  simp [h,this]
 ·have:(i+1) % 2=1:=by omega
  simp [h,this]
def addIf (c:Bool) (out:List Int) (x:Int):List Int:=if c then out ++ [x] else out
theorem MergeAt.left {r:Bool→Bool→Bool} {az bs:List Int} {i k:Nat} {out:List Int} (h:MergeAt r az bs i k out) (x:Int) (hx:az[i]? = some x) (hk:bs.length≤k∨∃y,bs[k]? = some y∧x < y) (c:Bool)
  (hc:c=(r (decide ((i+1) % 2=1)) (decide (k % 2=1)) != decide (out.length % 2=1))):MergeAt r az bs (i+1) k (addIf c out x):=by
 obtain ⟨hi,_⟩:=List.getElem?_eq_some_iff.1 hx
 unfold MergeAt at h ⊢
 rw [h]
 have e1:az.length - i+(bs.length - k)=(az.length - (i+1)+(bs.length - k))+1:=by omega
 rw [e1,drop_one az i x hx]
 rw [odd_succ] at hc
 have step:mergeF r (az.length - (i+1)+(bs.length - k)+1) (x :: az.drop (i+1)) (bs.drop k) (decide (i % 2=1)) (decide (k % 2=1)) (decide (out.length % 2=1)) =
   if c then x :: mergeF r (az.length - (i+1)+(bs.length - k)) (az.drop (i+1)) (bs.drop k) (!decide (i % 2=1)) (decide (k % 2=1)) (!decide (out.length % 2=1))
   else mergeF r (az.length - (i+1)+(bs.length - k)) (az.drop (i+1)) (bs.drop k) (!decide (i % 2=1)) (decide (k % 2=1)) (decide (out.length % 2=1)):=by
  rcases hk with hk|⟨y,hy,hxy⟩
  ·rw [List.drop_eq_nil_of_le hk,mergeF_left,hc]
  ·rw [drop_one bs k y hy,mergeF.eq_5,if_pos hxy,hc]
 rw [step,odd_succ]
 cases c
 ·simp [addIf]
 ·simp only [addIf,if_true,List.length_append,List.length_cons,List.length_nil,Nat.zero_add,odd_succ,List.append_assoc,List.cons_append,List.nil_append]
theorem MergeAt.right {r:Bool→Bool→Bool} {az bs:List Int} {i k:Nat} {out:List Int} (h:MergeAt r az bs i k out) (x:Int) (hx:bs[k]? = some x) (hk:az.length≤i∨∃y,az[i]? = some y∧x < y) (c:Bool)
  (hc:c=(r (decide (i % 2=1)) (decide ((k+1) % 2=1)) != decide (out.length % 2=1))):MergeAt r az bs i (k+1) (addIf c out x):=by
 obtain ⟨hi,_⟩:=List.getElem?_eq_some_iff.1 hx
 unfold MergeAt at h ⊢
 rw [h]
 have e1:az.length - i+(bs.length - k)=(az.length - i+(bs.length - (k+1)))+1:=by omega
 rw [e1,drop_one bs k x hx]
 rw [odd_succ] at hc
 have step:mergeF r (az.length - i+(bs.length - (k+1))+1) (az.drop i) (x :: bs.drop (k+1)) (decide (i % 2=1)) (decide (k % 2=1)) (decide (out.length % 2=1)) =
   if c then x :: mergeF r (az.length - i+(bs.length - (k+1))) (az.drop i) (bs.drop (k+1)) (decide (i % 2=1)) (!decide (k % 2=1)) (!decide (out.length % 2=1))
   else mergeF r (az.length - i+(bs.length - (k+1))) (az.drop i) (bs.drop (k+1)) (decide (i % 2=1)) (!decide (k % 2=1)) (decide (out.length % 2=1)):=by
  rcases hk with hk|⟨y,hy,hxy⟩
  ·rw [List.drop_eq_nil_of_le hk,mergeF_right,hc]
  ·rw [drop_one az i y hy,mergeF.eq_5,if_neg (by omega),if_pos hxy,hc]
 rw [step,odd_succ]
 cases c
 ·simp [addIf]
 ·simp only [addIf,if_true,List.length_append,List.length_cons,List.length_nil,Nat.zero_add,odd_succ,List.append_assoc,List.cons_append,List.nil_append]
def val:List Int→Int
 | []=>0
 |d :: r=>d % 128+128 * val r
end
section
open Go
structure PAttr where
 name:ByteArray
 kind:Int
 n:Int
 s:ByteArray
structure PDef where
 name:ByteArray
 kind:Int
 lo:Int
 hi:Int
 words:List ByteArray
structure PSchema where
 dims:Int
 metric:Int
 defs:List PDef
structure PEntry where
 id:Int
 ver:Int
 owner:Int
 filed:Int
 frm:Int
 to:Int
 born:Int
 vec:List Int
 attrs:List PAttr
def eqB (a b:ByteArray):Bool:=a.toList == b.toList
def leqB (a b:ByteArray):Bool:=Op.bytesLess a.toList b.toList || a.toList == b.toList
theorem eqB_comm (a b:ByteArray):eqB a b=eqB b a:=by
 unfold eqB
 rw [Bool.eq_iff_iff];simp only [beq_iff_eq];exact eq_comm
def hasB (l:List ByteArray) (s:ByteArray):Bool:=l.any (fun x=>eqB x s)
def idxGo:List Bool→Int→Int
 | [],_ => -1
 |b :: r,k=>if b then k else idxGo r (k+1)
def idxB (l:List Bool):Int:=idxGo l 0
theorem idxGo_drop (l:List Bool) (k:Nat) (b:Bool) (h:l[k]? = some b):idxGo (l.drop k) k=if b then (k:Int) else idxGo (l.drop (k+1)) ((k+1:Nat):Int):=by
 obtain ⟨hk,rfl⟩:=List.getElem?_eq_some_iff.1 h
 rw [List.drop_eq_getElem_cons (by omega),idxGo];rfl
theorem idxGo_end (l:List Bool) (k:Nat) (h:l.length≤k):idxGo (l.drop k) k = -1:=by
 rw [List.drop_eq_nil_of_le h,idxGo]
theorem idxGo_bd:∀(l:List Bool) (k:Int),0≤k→(idxGo l k = -1∧l.any id=false)∨(k≤idxGo l k∧idxGo l k < k+l.length∧l.any id=true)
 | [],k,_=>.inl ⟨rfl,rfl⟩
 |b :: r,k,hk=>by
  rw [idxGo]
  cases b
  ·rcases idxGo_bd r (k+1) (by omega) with ⟨h1,h2⟩|⟨h1,h2,h3⟩
   ·exact .inl ⟨by simpa using h1,by simpa using h2⟩
   ·exact .inr ⟨by simp;omega,by simp;omega,by simpa using h3⟩
  ·exact .inr ⟨by simp,by simp;omega,by simp⟩
theorem idxB_any (l:List Bool):decide (0≤idxB l)=l.any id:=by
 rcases idxGo_bd l 0 (by omega) with ⟨h1,h2⟩|⟨h1,h2,h3⟩
 ·rw [h2,idxB,h1];rfl
 ·rw [h3,decide_eq_true_eq,idxB];exact h1
theorem idxB_lt (l:List Bool) (h:0≤idxB l):idxB l < l.length:=by
 rcases idxGo_bd l 0 (by omega) with ⟨h1,h2⟩|⟨h1,h2,h3⟩
 ·rw [idxB,h1] at h;omega
 ·rw [idxB];omega
theorem idxB_ge (l:List Bool) : -1≤idxB l:=by
 rcases idxGo_bd l 0 (by omega) with ⟨h1,h2⟩|⟨h1,h2,h3⟩<;>rw [idxB]<;>omega
def firstE:List (Bool×Int)→Int
 | []=>0
 |(b,e) :: r=>if b then e else firstE r
theorem firstE_drop (l:List (Bool×Int)) (k:Nat) (b:Bool) (e:Int) (h:l[k]? = some (b,e)):firstE (l.drop k)=if b then e else firstE (l.drop (k+1)):=by
 obtain ⟨hk,he⟩:=List.getElem?_eq_some_iff.1 h
 rw [List.drop_eq_getElem_cons (by omega),he,firstE]
theorem firstE_end (l:List (Bool×Int)) (k:Nat) (h:l.length≤k):firstE (l.drop k)=0:=by
 rw [List.drop_eq_nil_of_le h,firstE]
def lowI (c:Int):Bool:=decide (97≤c) && decide (c≤122)
def resI (c:Int):Bool:=(decide (48≤c) && decide (c≤57)) || c == 95
def nameGo:Bool→List UInt8→Bool
 |_,[]=>true
 |f,c :: r=>(lowI c.toNat || (!f && resI c.toNat)) && nameGo false r
theorem nameGo_drop (l:List UInt8) (k:Nat) (c:UInt8) (h:l[k]? = some c):nameGo (k == 0) (l.drop k)=((lowI c.toNat || (!(k == 0) && resI c.toNat)) && nameGo (k+1 == 0) (l.drop (k+1))):=by
 obtain ⟨hk,rfl⟩:=List.getElem?_eq_some_iff.1 h
 rw [List.drop_eq_getElem_cons (by omega),nameGo]
 rfl
theorem nameGo_end (l:List UInt8) (k:Nat) (f:Bool) (h:l.length≤k):nameGo f (l.drop k)=true:=by
 rw [List.drop_eq_nil_of_le h,nameGo]
def reserved:List ByteArray := [⟨#[97,108,108]⟩,⟨#[97,110,100]⟩,⟨#[104,97,115]⟩,⟨#[105,110]⟩,⟨#[110,111,116]⟩,⟨#[111,114]⟩]
def nameB (s:ByteArray):Bool:=nameGo true s.data.toList && (decide (1≤s.size) && decide (s.size≤40) && !hasB reserved s)
def riseGo:ByteArray→List ByteArray→Bool
 |_,[]=>true
 |p,x :: r => !leqB x p && riseGo x r
def riseB:List ByteArray→Bool
 | []=>true
 |x :: r=>riseGo x r
theorem riseGo_drop (l:List ByteArray) (k:Nat) (p x:ByteArray) (h:l[k+1]? = some x):riseGo p (l.drop (k+1))=(!leqB x p && riseGo x (l.drop (k+2))):=by
 obtain ⟨hk,rfl⟩:=List.getElem?_eq_some_iff.1 h
 rw [List.drop_eq_getElem_cons (by omega),riseGo]
theorem riseB_start (l:List ByteArray) (x:ByteArray) (h:l[0]? = some x):riseB l=riseGo x (l.drop 1):=by
 cases l with
 |nil=>simp at h
 |cons a r=>simp at h;subst h;rfl
theorem riseGo_end (l:List ByteArray) (k:Nat) (p:ByteArray) (h:l.length≤k):riseGo p (l.drop k)=true:=by
 rw [List.drop_eq_nil_of_le h,riseGo]
def wordsE (l:List ByteArray):Int:=
 if l.length < 1∨50 < l.length then 2 else if l.any (fun s => !nameB s) then 5 else if riseB l then 0 else 6
def defE (d:PDef) (before:ByteArray):Int:=
 if !nameB d.name then 5
 else if leqB d.name before then 6
 else if d.kind=1 then
  (if d.lo < -1099511627776∨1099511627776 < d.hi∨d.hi < d.lo then 131 else if 0 < d.words.length then 3 else 0)
 else if d.kind=2 then
  (if d.lo≠0∨d.hi≠0 then 3 else wordsE d.words)
 else 130
def defsE:ByteArray→List PDef→Int
 |_,[]=>0
 |b,d :: r=>if defE d b≠0 then defE d b else defsE d.name r
def checkE (s:PSchema):Int:=
 if s.dims < 1∨32 < s.dims∨s.metric < 1∨3 < s.metric then 1
 else if 16 < s.defs.length then 2
 else defsE ByteArray.empty s.defs
def findI (l:List PDef) (nm:ByteArray):Int:=idxB (l.map fun d=>eqB d.name nm)
def valueE (d:PDef) (a:PAttr):Int:=
 if a.kind≠d.kind then 130
 else if a.kind=1 then (if eqB a.s ByteArray.empty=false then 3 else if a.n < d.lo∨d.hi < a.n then 131 else 0)
 else if a.n≠0 then 3
 else if hasB d.words a.s then 0 else 131
def fitE (ds:List PDef) (before:ByteArray) (first:Bool) (a:PAttr):Int:=
 if findI ds a.name < 0 then 5
 else if !first && leqB a.name before then 6
 else match ds[(findI ds a.name).toNat]? with
  |some d=>valueE d a
  |none=>0
def fitsGo (ds:List PDef):ByteArray→Bool→List PAttr→Int
 |_,_,[]=>0
 |b,f,a :: r=>if fitE ds b f a≠0 then fitE ds b f a else fitsGo ds a.name false r
def fitsE (s:PSchema) (l:List PAttr):Int:=fitsGo s.defs ByteArray.empty true l
def zeroA:PAttr:=⟨ByteArray.empty,0,0,ByteArray.empty⟩
def getA:List PAttr→ByteArray→PAttr×Bool
 | [],_=>(zeroA,false)
 |a :: r,nm=>if eqB a.name nm then (a,true) else getA r nm
def validV (v:List Int):Bool:=v.all (fun x=>decide (-1000≤x) && decide (x≤1000)) && (decide (1≤v.length) && decide (v.length≤32))
def entryE (s:PSchema) (e:PEntry):Int:=
 if e.id < 1∨1073741824 < e.id∨e.owner < 1∨1073741824 < e.owner∨e.ver < 1∨1073741824 < e.ver then 1
 else if e.filed < 0∨e.frm < e.filed∨e.to≤e.frm∨1048577 < e.to∨1048576 < e.frm∨e.born < 1∨1073741824 < e.born then 9
 else if validV e.vec=false∨(e.vec.length:Int)≠s.dims then 40
 else fitsE s e.attrs
end
section
def Fit64 (n:Int):Prop := -9223372036854775808≤n∧n≤9223372036854775807
structure FitE (e:PEntry):Prop where
 id:Fit64 e.id
 ver:Fit64 e.ver
 owner:Fit64 e.owner
 filed:Fit64 e.filed
 frm:Fit64 e.frm
 to:Fit64 e.to
 born:Fit64 e.born
 vec:∀z∈e.vec,Fit64 z
 attrs:∀a∈e.attrs,Fit64 a.kind∧Fit64 a.n
def rootG (n:Nat):Nat→Nat→Nat
 |0,out=>out
 |k+1,out=>rootG n k (if (out+2 ^ k) * (out+2 ^ k)≤n then out+2 ^ k else out)
def rootN (n:Nat):Nat:=rootG n 31 0
theorem rootG_spec (n:Nat):∀k out,out * out≤n→n < (out+2 ^ k) * (out+2 ^ k)→rootG n k out * rootG n k out≤n∧n < (rootG n k out+1) * (rootG n k out+1)
 |0,out,h1,h2=>⟨h1,h2⟩
 |k+1,out,h1,h2=>by
  unfold rootG
  by_cases h:(out+2 ^ k) * (out+2 ^ k)≤n
  ·rw [if_pos h]
   refine rootG_spec n k _ h ?_
   rwa [Nat.add_assoc,←Nat.two_mul,Nat.mul_comm 2,←Nat.pow_succ]
  ·rw [if_neg h]
   exact rootG_spec n k _ h1 (by omega)
theorem rootN_spec {n:Nat} (h:n≤1152921504606846976):rootN n * rootN n≤n∧n < (rootN n+1) * (rootN n+1):=
 rootG_spec n 31 0 (Nat.zero_le _) (Nat.lt_of_le_of_lt h (by decide))
theorem rootN_le {n:Nat} (h:n≤1152921504606846976):rootN n≤1073741824:=by
 obtain ⟨h3,h4⟩:=rootN_spec h
 have:rootN n < 1073741824+1:=Nat.mul_self_lt_mul_self_iff.1 (by omega)
 omega
theorem newton_ge {n x:Nat} (h:n≤1152921504606846976) (hx:0 < x):rootN n≤(x+n / x) / 2:=by
 obtain ⟨h3,h4⟩:=rootN_spec h
 rcases Nat.lt_or_ge ((x+n / x) / 2) (rootN n) with hlt|hge
 ·exfalso
  generalize rootN n=r at *
  have e1:n / x+1≤2 * r - x:=by omega
  have e2:n < x * (2 * r - x):=by
   have:=Nat.lt_mul_div_succ n hx
   exact Nat.lt_of_lt_of_le this (Nat.mul_le_mul_left x e1)
  have e3:x * (2 * r - x)≤r * r:=by
   rcases Nat.le_total x r with hl|hl
   ·obtain ⟨d,rfl⟩:=Nat.exists_eq_add_of_le hl
    rw [show 2 * (x+d) - x=x+2 * d by omega]
    grind
   ·obtain ⟨d,rfl⟩:=Nat.exists_eq_add_of_le hl
    rcases Nat.le_total d r with hd|hd
    ·obtain ⟨f,rfl⟩:=Nat.exists_eq_add_of_le hd
     rw [show 2 * (d+f) - (d+f+d)=f by omega]
     grind
    ·rw [show 2 * r - (r+d)=0 by omega,Nat.mul_zero];exact Nat.zero_le _
  omega
 ·exact hge
theorem newton_done {n x:Nat} (h:n≤1152921504606846976) (hx:0 < x) (hr:rootN n≤x) (hy:x≤(x+n / x) / 2):x=rootN n:=by
 obtain ⟨h3,h4⟩:=rootN_spec h
 have h1:x≤n / x:=by omega
 have h2:x * x≤n:=by
  have:=Nat.mul_le_mul_left x h1
  exact Nat.le_trans this (Nat.mul_div_le n x)
 have:x < rootN n+1:=Nat.mul_self_lt_mul_self_iff.1 (Nat.lt_of_le_of_lt h2 h4)
 omega
theorem bitLenAux_lt:∀(f x:Nat),x < 2 ^ f→x < 2 ^ Go.Lib.bitLenAux f x
 |0,x,h=>h
 |f+1,x,h=>by
  unfold Go.Lib.bitLenAux
  by_cases h0:x=0
  ·rw [if_pos h0];omega
  ·rw [if_neg h0]
   have:=bitLenAux_lt f (x / 2) (by rw [Nat.pow_succ] at h;omega)
   rw [Nat.add_comm 1,Nat.pow_succ];omega
theorem bitLen_lt {x:Nat} (h:x < 2 ^ 64):x < 2 ^ Go.Lib.bitLen x:=bitLenAux_lt 64 x h
theorem bitLenAux_ge:∀(f x k:Nat),x < 2 ^ k→Go.Lib.bitLenAux f x≤k
 |0,x,k,h=>Nat.zero_le _
 |f+1,x,k,h=>by
  unfold Go.Lib.bitLenAux
  by_cases h0:x=0
  ·rw [if_pos h0];exact Nat.zero_le _
  ·rw [if_neg h0]
   cases k with
   |zero=>simp at h;omega
   |succ k=>
    have:=bitLenAux_ge f (x / 2) k (by rw [Nat.pow_succ] at h;omega)
    omega
def newt0 (n:Nat):Nat:=2 ^ ((Go.Lib.bitLen n+1) / 2)
theorem newt0_le {n:Nat} (h:n≤1152921504606846976):Go.Lib.bitLen n≤61:=bitLenAux_ge 64 n 61 (Nat.lt_of_le_of_lt h (by decide))
theorem newt0_ge {n:Nat} (h:n≤1152921504606846976):rootN n≤newt0 n∧newt0 n≤2147483648∧0 < newt0 n:=by
 have h1:=newt0_le h
 obtain ⟨h3,h4⟩:=rootN_spec h
 refine ⟨?_,?_,Nat.pow_pos (by decide)⟩
 ·have h5:=bitLen_lt (x:=n) (by omega)
  have h6:n < newt0 n * newt0 n:=by
   unfold newt0
   rw [←Nat.pow_add]
   exact Nat.lt_of_lt_of_le h5 (Nat.pow_le_pow_right (by decide) (by omega))
  have:=Nat.mul_self_lt_mul_self_iff.1 (Nat.lt_of_le_of_lt h3 h6)
  omega
 ·unfold newt0
  exact Nat.le_trans (Nat.pow_le_pow_right (by decide) (show (Go.Lib.bitLen n+1) / 2≤31 by omega)) (by decide)
def clampI (x lo hi:Int):Int:=max lo (min x hi)
def rootI (n:Int):Int:=(rootN (clampI n 0 1152921504606846976).toNat:Nat)
theorem rootI_bound (n:Int):0≤rootI n∧rootI n≤1073741824:=by
 have:=rootN_le (n:=(clampI n 0 1152921504606846976).toNat) (by unfold clampI;omega)
 unfold rootI
 omega
def lowM (m a b:Int):Int:=if m=2 then a+b - rootI (4 * a * b) else max a b - min a b
def gapM (m lo hi a:Int):Int:=lowM m a (clampI a lo hi)
end
end Go.Proofs.YtoamkpgaaanafaaGreat
