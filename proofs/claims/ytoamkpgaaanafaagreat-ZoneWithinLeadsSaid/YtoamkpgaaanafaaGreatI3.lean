/- Out of: PwV, RegionB, Ud, Row18c, Wb, Wj, Wv. -/
import Derived.Test.YtoamkpgaaanafaaGreatG1
import Derived.Test.YtoamkpgaaanafaaGreatG10
import Derived.Test.YtoamkpgaaanafaaGreatG11
import Derived.Test.YtoamkpgaaanafaaGreatG12
import Derived.Test.YtoamkpgaaanafaaGreatG14
import Derived.Test.YtoamkpgaaanafaaGreatG15
import Derived.Test.YtoamkpgaaanafaaGreatG17
import Derived.Test.YtoamkpgaaanafaaGreatG19
import Derived.Test.YtoamkpgaaanafaaGreatG21
import Derived.Test.YtoamkpgaaanafaaGreatG23
import Derived.Test.YtoamkpgaaanafaaGreatG28
import Derived.Test.YtoamkpgaaanafaaGreatG29
import Derived.Test.YtoamkpgaaanafaaGreatG3
import Derived.Test.YtoamkpgaaanafaaGreatG30
import Derived.Test.YtoamkpgaaanafaaGreatG31
import Derived.Test.YtoamkpgaaanafaaGreatG32
import Derived.Test.YtoamkpgaaanafaaGreatG34
import Derived.Test.YtoamkpgaaanafaaGreatG37
import Derived.Test.YtoamkpgaaanafaaGreatG41
import Derived.Test.YtoamkpgaaanafaaGreatG44
import Derived.Test.YtoamkpgaaanafaaGreatG6
import Derived.Test.YtoamkpgaaanafaaGreatG7
import Derived.Test.YtoamkpgaaanafaaGreatG8
namespace Go.Proofs.YtoamkpgaaanafaaGreat
set_option linter.unusedSimpArgs false
set_option linter.unusedVariables false
set_option linter.unnecessarySimpa false
section
open Go.RowKit
theorem take_getD {α:Type} {l:List α} {j:Nat} (x:α) (h:j < l.length):l.take (j+1)=l.take j ++ [l.getD j x]:=by
 rw [List.take_add_one,getD_get x h];rfl
theorem AllFrom.of {F:Nat→Oper→Prop} : ∀(l:List Oper) (k:Nat),(∀(i:Nat) (o:Oper),l[i]? = some o→F (k+i) o)→AllFrom F k l
 | [],_,_=>trivial
 |x :: xs,k,h=>⟨h 0 x (by simp),AllFrom.of xs (k+1) (fun i o hi=>by rw [show k+1+i=k+(i+1) by omega];exact h (i+1) o (by simpa using hi))⟩
theorem SumV.ok {s:PSchema} {n:Int} {z:PSum} (h:SumV s n z) {k:Nat} (hk:k < s.defs.length):FieldOK (z.fields.getD k default):=(fieldB_ok (h.field k hk)).1
theorem SumV.countZ {s:PSchema} {n:Int} {z:PSum} (h:SumV s n z):CountZ z:=by
 refine ⟨by have:=h.count;omega,fun k=>?_⟩
 rcases Nat.lt_or_ge k s.defs.length with hk|hk
 ·obtain ⟨a,b,-⟩:=fieldB_ok (h.field k hk)
  have:=a.has
  have:=h.count
  omega
 ·have:z.fields.getD k default=default:=by rw [List.getD_eq_getElem?_getD,List.getElem?_eq_none (by rw [h.len];exact hk)];rfl
  rw [this]
  decide
end
section
open Go.ChangeShapes Go.WideShapes Go.ChangeAt Go.RowKit
theorem argInts:ArgOpens Tryz.prog 27 pints (fun l=>(∀z∈l,Fit64 z)∧l.length * 8≤reachBytes):=arg_slice Tryz.underlying27 opensInts
theorem argSnap:ArgOpens Tryz.prog 56 psnap (fun a=>Fit64 a.day∧Fit64 a.commit):=
 (arg_struct Tryz.underlying56 (opens_struct Tryz.underlying56 (opensFs_1 rfl opensInt (by kernel_rfl) (opensFs_1 rfl opensInt (by kernel_rfl) opensFs_nil)) (by kernel_rfl))).map
  (fun p=>(⟨p.1,p.2.1⟩:PSnap)) (fun _ _=>rfl) (fun _ h=>⟨h.1,h.2.1⟩)
end
section
open Go.RowKit
theorem SumOK.take {s:PSchema} {pv:List (List Int)} {l:List PEntry} (h:SumOK s pv l) (k:Nat):SumOK s pv (l.take k):=⟨h.met,h.len,h.piv,fun e he=>h.ent e (List.mem_of_mem_take he)⟩
theorem rootI_spec {n:Int} (h0:0≤n) (h1:n≤1152921504606846976):rootI n * rootI n≤n∧n < (rootI n+1) * (rootI n+1):=by
 obtain ⟨k,rfl⟩:∃k:Nat,n=k:=⟨n.toNat,by omega⟩
 have e:(clampI (k:Int) 0 1152921504606846976).toNat=k:=by unfold clampI;omega
 obtain ⟨h3,h4⟩:=rootN_spec (n:=k) (by omega)
 unfold rootI
 rw [e]
 have e1:((rootN k:Nat):Int) * (rootN k:Nat)=((rootN k * rootN k:Nat):Int):=(Int.natCast_mul _ _).symm
 have e2:(((rootN k:Nat):Int)+1) * ((rootN k:Nat)+1)=(((rootN k+1) * (rootN k+1):Nat):Int):=by rw [Int.natCast_mul];rfl
 rw [e1,e2]
 exact ⟨Int.ofNat_le.2 h3,Int.ofNat_lt.2 h4⟩
theorem four_bound {a c:Int} (ha:0≤a∧a≤134217728) (hc:0≤c∧c≤134217728):0≤4 * a * c∧4 * a * c≤1152921504606846976:=by
 have h1:0≤a * c:=Int.mul_nonneg ha.1 hc.1
 have h2:a * c≤134217728 * 134217728:=Int.mul_le_mul ha.2 hc.2 hc.1 (by decide)
 rw [Int.mul_assoc]
 omega
theorem low2_up {a c d:Int} (h0:0≤a) (h1:a≤c) (h2:c≤d) (h3:d≤134217728):lowM 2 a c≤lowM 2 a d:=by
 obtain ⟨t,rfl⟩:∃t,d=c+t:=⟨d - c,by omega⟩
 obtain ⟨b1,b2⟩:=four_bound (a:=a) (c:=c) ⟨h0,by omega⟩ ⟨by omega,by omega⟩
 obtain ⟨b3,b4⟩:=four_bound (a:=a) (c:=c+t) ⟨h0,by omega⟩ ⟨by omega,h3⟩
 obtain ⟨-,r2⟩:=rootI_spec b1 b2
 obtain ⟨r3,-⟩:=rootI_spec b3 b4
 have p1:=(rootI_bound (4 * a * c)).1
 have p2:=(rootI_bound (4 * a * (c+t))).1
 unfold lowM
 rw [if_pos rfl,if_pos rfl]
 generalize rootI (4 * a * c)=r at *
 generalize rootI (4 * a * (c+t))=q at *
 have ht:0≤t:=by omega
 have k1:2 * a < r+1:=by
  rcases Int.lt_or_le (2 * a) (r+1) with h|h
  ·exact h
  ·exfalso
   have e1:(r+1) * (r+1)≤2 * a * (2 * a):=Int.mul_le_mul h h (by omega) (by omega)
   have e2:2 * a * (2 * a)=4 * (a * a):=by grind
   have e3:a * a≤a * c:=Int.mul_le_mul_of_nonneg_left h1 h0
   have e4:4 * a * c=4 * (a * c):=by grind
   omega
 rcases Int.lt_or_le (r+t) q with h|h
 ·exfalso
  have e1:(r+1+t) * (r+1+t)≤q * q:=Int.mul_le_mul (by omega) (by omega) (by omega) (by omega)
  have e2:(r+1+t) * (r+1+t)=(r+1) * (r+1)+2 * (t * (r+1))+t * t:=by grind
  have e3:4 * a * (c+t)=4 * a * c+2 * (t * (2 * a)):=by grind
  have e4:t * (2 * a)≤t * (r+1):=Int.mul_le_mul_of_nonneg_left (by omega) ht
  have e5:0≤t * t:=Int.mul_nonneg ht ht
  omega
 ·omega
theorem low2_down {a c d:Int} (h0:0≤d) (h1:d≤c) (h2:c≤a) (h3:a≤134217728):lowM 2 a c≤lowM 2 a d:=by
 obtain ⟨t,rfl⟩:∃t,c=d+t:=⟨c - d,by omega⟩
 obtain ⟨b1,b2⟩:=four_bound (a:=a) (c:=d) ⟨by omega,h3⟩ ⟨by omega,by omega⟩
 obtain ⟨b3,b4⟩:=four_bound (a:=a) (c:=d+t) ⟨by omega,h3⟩ ⟨by omega,by omega⟩
 obtain ⟨r1,-⟩:=rootI_spec b1 b2
 obtain ⟨-,r4⟩:=rootI_spec b3 b4
 have p1:=(rootI_bound (4 * a * d)).1
 have p2:=(rootI_bound (4 * a * (d+t))).1
 unfold lowM
 rw [if_pos rfl,if_pos rfl]
 generalize rootI (4 * a * d)=r at *
 generalize rootI (4 * a * (d+t))=q at *
 have ht:0≤t:=by omega
 have k1:r≤a+d:=by
  rcases Int.lt_or_le (a+d) r with h|h
  ·exfalso
   have e1:(a+d+1) * (a+d+1)≤r * r:=Int.mul_le_mul (by omega) (by omega) (by omega) (by omega)
   have e2:(a+d+1) * (a+d+1)=4 * a * d+(a - d) * (a - d)+2 * (a+d)+1:=by grind
   have e3:0≤(a - d) * (a - d):=Int.mul_nonneg (by omega) (by omega)
   omega
  ·exact h
 rcases Int.lt_or_le q (r+t) with h|h
 ·exfalso
  have e1:(q+1) * (q+1)≤(r+t) * (r+t):=Int.mul_le_mul (by omega) (by omega) (by omega) (by omega)
  have e2:(r+t) * (r+t)=r * r+t * (2 * r+t):=by grind
  have e3:4 * a * (d+t)=4 * a * d+t * (4 * a):=by grind
  have e4:t * (2 * r+t)≤t * (4 * a):=Int.mul_le_mul_of_nonneg_left (by omega) ht
  omega
 ·omega
theorem lowM_away (m:Int) {a c d:Int} (ha:0≤a∧a≤134217728) (hd:0≤d∧d≤134217728) (h:(a≤c∧c≤d)∨(d≤c∧c≤a)):lowM m a c≤lowM m a d:=by
 by_cases hm:m=2
 ·subst hm
  rcases h with ⟨h1,h2⟩|⟨h1,h2⟩
  ·exact low2_up ha.1 h1 h2 hd.2
  ·exact low2_down hd.1 h1 h2 ha.2
 ·unfold lowM
  rw [if_neg hm,if_neg hm]
  omega
theorem gap_away (m:Int) {a l1 h1 l2 h2:Int} (ha:0≤a∧a≤134217728) (k1:0≤l2) (k2:l2≤l1) (k3:l1≤h1) (k4:h1≤h2) (k5:h2≤134217728):gapM m l2 h2 a≤gapM m l1 h1 a:=by
 unfold gapM
 refine lowM_away m ha ?_ ?_<;>unfold clampI<;>omega
theorem lowF_away (m:Int) {A B:List PShell} {keys:List Int} (hk:∀k,0≤keys.getD k default∧keys.getD k default≤134217728):∀n,(∀k,k < n→0≤(B.getD k default).lo∧(B.getD k default).lo≤(A.getD k default).lo∧(A.getD k default).lo≤(A.getD k default).hi∧(A.getD k default).hi≤(B.getD k default).hi∧(B.getD k default).hi≤134217728)→lowF m B keys n≤lowF m A keys n
 |0,_=>Int.le_refl _
 |n+1,h=>by
  rw [lowF_succ,lowF_succ]
  have h1:=lowF_away m hk n fun k hk=>h k (by omega)
  obtain ⟨a1,a2,a3,a4,a5⟩:=h n (by omega)
  have h2:=gap_away m (hk n) a1 a2 a3 a4 a5
  omega
theorem addM_away (m:Int) {n p d e:Int} (h:n≤p) (h0:0≤d) (h1:d≤e):addM m n d≤addM m p e:=by
 have h2:d * d≤e * e:=Int.mul_le_mul h1 h1 h0 (by omega)
 unfold addM
 split
 ·omega
 ·split<;>omega
theorem keyD_away (m:Int) (f g:Nat→Int):∀(l:List Nat) (n p:Int),n≤p→(∀k∈l,0≤f k∧f k≤g k)→(l.map f).foldl (addM m) n≤(l.map g).foldl (addM m) p
 | [],n,p,h,_=>h
 |k :: l,n,p,h,hl=>by
  obtain ⟨h1,h2⟩:=hl k (by simp)
  exact keyD_away m f g l _ _ (addM_away m h h1 h2) fun x hx=>hl x (by simp [hx])
structure BoxIn (a b:PBox):Prop where
 ga:boxB a=true
 gb:boxB b=true
 lo:a.lo.length=b.lo.length
 hi:a.hi.length=b.lo.length
 los:∀k,k < b.lo.length→b.lo.getD k default≤a.lo.getD k default∧a.lo.getD k default≤b.hi.getD k default
 his:∀k,k < b.lo.length→b.lo.getD k default≤a.hi.getD k default∧a.hi.getD k default≤b.hi.getD k default
theorem boxIn_iff {a b:PBox} : boxIn a b=true↔BoxIn a b:=by
 simp only [boxIn,boxHas,hasK,Bool.and_eq_true,decide_eq_true_eq,List.all_eq_true,List.mem_range]
 constructor
 ·rintro ⟨h1,⟨h2,h3,h4⟩,-,h6,h7⟩
  exact ⟨h1,h2,h3,h6,fun k hk=>h4 k (by omega),fun k hk=>h7 k (by omega)⟩
 ·rintro ⟨h1,h2,h3,h4,h5,h6⟩
  exact ⟨h1,⟨h2,h3,fun k hk=>h5 k (by omega)⟩,h2,h4,fun k hk=>h6 k (by omega)⟩
theorem boxB_le {b:PBox} (h:boxB b=true):b.lo.length=b.hi.length∧∀k,k < b.lo.length→b.lo.getD k default≤b.hi.getD k default:=by
 simp only [boxB,Bool.and_eq_true,decide_eq_true_eq,List.all_eq_true,List.mem_range] at h
 exact ⟨h.2.2.1,h.2.2.2⟩
theorem BoxIn.rfl' {b:PBox} (h:boxB b=true):BoxIn b b:=by
 obtain ⟨h1,h2⟩:=boxB_le h
 exact ⟨h,h,rfl,h1.symm,fun k hk=>⟨Int.le_refl _,h2 k hk⟩,fun k hk=>⟨h2 k hk,Int.le_refl _⟩⟩
theorem BoxIn.trans {a b c:PBox} (h:BoxIn a b) (h2:BoxIn b c):BoxIn a c:=by
 have e1:=h.lo
 have e2:=h2.lo
 have e3:=h.hi
 refine ⟨h.ga,h2.gb,by omega,by omega,fun k hk=>?_,fun k hk=>?_⟩
 ·have a1:=h.los k (by omega)
  have a2:=h2.los k hk
  have a3:=h2.his k hk
  omega
 ·have a1:=h.his k (by omega)
  have a2:=h2.los k hk
  have a3:=h2.his k hk
  omega
theorem BoxIn.has {a b:PBox} {v:List Int} (h:BoxIn a b) (hv:boxHas a v=true):boxHas b v=true:=by
 simp only [boxHas,hasK,Bool.and_eq_true,decide_eq_true_eq,List.all_eq_true,List.mem_range] at hv ⊢
 obtain ⟨-,h2,h3⟩:=hv
 have e1:=h.lo
 refine ⟨h.gb,by omega,fun k hk=>?_⟩
 have a1:=h.los k (by omega)
 have a2:=h.his k (by omega)
 have a3:=h3 k hk
 omega
theorem near_away {m:Int} {a b:PBox} {v:List Int} (h:BoxIn a b) (hv:vecB v=true) (hl:v.length=b.lo.length) (hm:keyB m=true):(boxNear m a v).2=0∧(boxNear m b v).2=0∧(boxNear m b v).1≤(boxNear m a v).1:=by
 have e1:=h.lo
 unfold boxNear
 rw [if_pos (by simp only [h.ga,hv,hm,Bool.and_true,Bool.true_and,decide_eq_true_eq];omega),if_pos (by simp only [h.gb,hv,hm,Bool.and_true,Bool.true_and,decide_eq_true_eq];omega)]
 refine ⟨rfl,rfl,?_⟩
 refine keyD_away m _ _ _ 0 0 (Int.le_refl _) fun k hk=>?_
 have hk' : k < v.length:=by simpa using hk
 have a1:=h.los k (by omega)
 have a2:=h.his k (by omega)
 unfold gapD
 omega
theorem badF_iff {ca cb:Int} {x y:PField} : badF ca cb x y=false↔x.has≤y.has∧ca - x.has≤cb - y.has∧(0 < x.has→y.lo≤x.lo∧x.hi≤y.hi∧∀w∈x.words,hasB y.words w=true):=by
 have e:(x.words.any fun w => !hasB y.words w)=false↔∀w∈x.words,hasB y.words w=true:=by
  rw [List.any_eq_false]
  constructor
  ·intro h w hw
   have:=h w hw
   simpa using this
  ·intro h w hw
   rw [h w hw];decide
 simp only [badF,Bool.or_eq_false_iff,Bool.and_eq_false_iff,decide_eq_false_iff_not,e]
 constructor
 ·rintro ⟨h1,h2,h3⟩
  refine ⟨by omega,by omega,fun h0=>?_⟩
  rcases h3 with h3|⟨h3,h4,h5⟩
  ·omega
  ·exact ⟨by omega,by omega,h5⟩
 ·rintro ⟨h1,h2,h3⟩
  refine ⟨by omega,by omega,?_⟩
  by_cases h0:0 < x.has
  ·obtain ⟨a,b,c⟩:=h3 h0
   exact .inr ⟨by omega,by omega,c⟩
  ·exact .inl h0
theorem hasB_iff {l:List ByteArray} {w:ByteArray} : hasB l w=true↔w∈l:=by
 constructor
 ·intro h
  obtain ⟨x,hx,he⟩:=List.any_eq_true.1 h
  have:x=w:=toList_inj (by simpa [eqB] using he)
  exact this ▸ hx
 ·intro h
  exact List.any_eq_true.2 ⟨w,h,by simp [eqB]⟩
structure WithZ (s:PSchema) (a b:PSum):Prop where
 count:a.count≤b.count
 box:BoxIn a.box b.box
 num:a.shells.length=b.shells.length
 sh:∀k,k < a.shells.length→(b.shells.getD k default).lo≤(a.shells.getD k default).lo∧(a.shells.getD k default).hi≤(b.shells.getD k default).hi
 frm:b.fromLo≤a.fromLo∧a.fromHi≤b.fromHi
 to:a.toHi≤b.toHi
 born:b.bornLo≤a.bornLo∧a.bornHi≤b.bornHi
 fld:∀k,k < s.defs.length→badF a.count b.count (a.fields.getD k default) (b.fields.getD k default)=false
theorem withinZ_iff {s:PSchema} {a b:PSum} : withinZ s a b=true↔WithZ s a b:=by
 simp only [withinZ,shellOut,Bool.and_eq_true,decide_eq_true_eq,List.all_eq_true,List.mem_range,boxIn_iff,Bool.not_eq_true']
 constructor
 ·rintro ⟨h1,h2,h3,h4,h5,h6,h7,h8,h9,h10⟩
  exact ⟨h1,h2,h3,h4,⟨h5,h6⟩,h7,⟨h8,h9⟩,h10⟩
 ·rintro ⟨h1,h2,h3,h4,⟨h5,h6⟩,h7,⟨h8,h9⟩,h10⟩
  exact ⟨h1,h2,h3,h4,h5,h6,h7,h8,h9,h10⟩
theorem with_self {s:PSchema} {n:Int} {a:PSum} (h:SumV s n a):withinZ s a a=true:=by
 refine withinZ_iff.2 ⟨Int.le_refl _,BoxIn.rfl' h.box,rfl,fun k _=>⟨Int.le_refl _,Int.le_refl _⟩,⟨Int.le_refl _,Int.le_refl _⟩,Int.le_refl _,⟨Int.le_refl _,Int.le_refl _⟩,fun k _=>?_⟩
 exact badF_iff.2 ⟨Int.le_refl _,Int.le_refl _,fun _=>⟨Int.le_refl _,Int.le_refl _,fun w hw=>hasB_iff.2 hw⟩⟩
theorem with_trans {s:PSchema} {a b c:PSum} (h:WithZ s a b) (g:WithZ s b c):withinZ s a c=true:=by
 have e:=h.num
 refine withinZ_iff.2 ⟨Int.le_trans h.count g.count,h.box.trans g.box,h.num.trans g.num,fun k hk=>?_,⟨Int.le_trans g.frm.1 h.frm.1,Int.le_trans h.frm.2 g.frm.2⟩,Int.le_trans h.to g.to,⟨Int.le_trans g.born.1 h.born.1,Int.le_trans h.born.2 g.born.2⟩,fun k hk=>?_⟩
 ·have h1:=h.sh k hk
  have h2:=g.sh k (by omega)
  omega
 ·obtain ⟨a1,a2,a3⟩:=badF_iff.1 (h.fld k hk)
  obtain ⟨b1,b2,b3⟩:=badF_iff.1 (g.fld k hk)
  refine badF_iff.2 ⟨by omega,by omega,fun h0=>?_⟩
  obtain ⟨c1,c2,c3⟩:=a3 h0
  obtain ⟨d1,d2,d3⟩:=b3 (by omega)
  exact ⟨by omega,by omega,fun w hw=>d3 w (hasB_iff.1 (c3 w hw))⟩
end
section
open Go.RowKit
variable {s:PSchema} {a b:PSum} {n:Int}
theorem with_seen (h:WithZ s a b) (at_:PSnap) (ha:zSeen a at_=true):zSeen b at_=true:=by
 have h1:=h.frm
 have h2:=h.to
 have h3:=h.born
 simp only [zSeen,Bool.and_eq_true,decide_eq_true_eq] at ha ⊢
 omega
theorem with_obeys (h:WithZ s a b) (ha:SumV s n a) {pv:List (List Int)} {e:PEntry} (ho:obeysZ s pv a e=true):obeysZ s pv b e=true:=by
 simp only [obeysZ,withinB,obeyK,Bool.and_eq_true,decide_eq_true_eq,List.all_eq_true,List.mem_range] at ho ⊢
 obtain ⟨h1,h2,h3,h4,h5,h6,h7,h8⟩:=ho
 have f1:=h.frm
 have f2:=h.to
 have f3:=h.born
 have f4:=h.num
 refine ⟨h1,h.box.has h2,by omega,fun k hk=>?_,by omega,by omega,by omega,fun k hk=>?_⟩
 ·have g1:=h4 k hk
  have g2:=h.sh k (by omega)
  omega
 ·have g1:=h8 k hk
  obtain ⟨a1,a2,a3⟩:=badF_iff.1 (h.fld k hk)
  obtain ⟨o1,o2,o3⟩:=fieldB_ok (ha.field k hk)
  have o4:=o1.has
  unfold obeyF at g1 ⊢
  split at g1
  ·rename_i q
   rw [if_pos q]
   simp only [Bool.not_eq_true',decide_eq_false_iff_not] at g1 ⊢
   omega
  ·rename_i q
   rw [if_neg q]
   split at g1
   ·cases g1
   ·rename_i q2
    rw [if_neg (by omega)]
    obtain ⟨c1,c2,c3⟩:=a3 (by omega)
    split at g1
    ·rename_i q3
     rw [if_pos q3]
     simp only [withinB,Bool.and_eq_true,decide_eq_true_eq] at g1 ⊢
     omega
    ·rename_i q3
     rw [if_neg q3]
     split at g1
     ·rename_i q4
      rw [if_pos q4]
      exact c3 _ (hasB_iff.1 g1)
     ·rename_i q4
      rw [if_neg q4]
theorem with_bound (h:WithZ s a b) (ha:SumV s n a) (hb:SumV s n b) (hm:keyB s.metric=true) {pv:List (List Int)} {v:List Int} (hv:vecB v=true) (hl:(v.length:Int)=s.dims) (hp:∀k,k < pv.length→vecB (pv.getD k default)=true) (hn:a.shells.length=pv.length) :
  (zBound s a v (keysP s.metric pv v)).2=0∧(zBound s b v (keysP s.metric pv v)).2=0∧(zBound s b v (keysP s.metric pv v)).1≤(zBound s a v (keysP s.metric pv v)).1:=by
 have f4:=h.num
 have hbd:=hb.dims
 obtain ⟨n1,n2,n3⟩:=near_away (m:=s.metric) h.box hv (by omega) hm
 have hK:∀k,0≤(keysP s.metric pv v).getD k default∧(keysP s.metric pv v).getD k default≤134217728:=fun k=>by
  rcases Nat.lt_or_ge k pv.length with hk|hk
  ·rw [keysP_get hk];exact keyV_bound (hp k hk) hv
  ·rw [List.getD_eq_getElem?_getD,List.getElem?_eq_none (by rw [keysP_len];exact hk)]
   exact ⟨Int.le_refl _,by decide⟩
 have hA:∀z:PSum,shellsB z.shells=true→z.shells.length=pv.length→askB s.metric z.shells (keysP s.metric pv v)=true:=fun z hz hzn=>by
  simp only [askB,hm,hz,Bool.true_and,Bool.and_eq_true,decide_eq_true_eq,keysP_len,List.all_eq_true,hzn,true_and]
  intro x hx
  obtain ⟨k,hk,rfl⟩:=List.getElem_of_mem hx
  have:=hK k
  rw [getD_atW hk] at this
  rw [hasP,Bool.and_eq_true]
  exact ⟨decide_eq_true this.1,decide_eq_true this.2⟩
 have l1:=hA a ha.shells hn
 have l2:=hA b hb.shells (by omega)
 have hs:∀z:PSum,shellsB z.shells=true→∀k,k < z.shells.length→0≤(z.shells.getD k default).lo∧(z.shells.getD k default).lo≤(z.shells.getD k default).hi∧(z.shells.getD k default).hi≤134217728:=fun z hz k hk=>by
  simp only [shellsB,Bool.and_eq_true,List.all_eq_true] at hz
  exact shellB_iff.1 (hz.1 _ (getD_mem hk))
 have l3:=lowF_away s.metric (A:=a.shells) (B:=b.shells) hK a.shells.length fun k hk=>by
  have g1:=hs a ha.shells k hk
  have g2:=hs b hb.shells k (by omega)
  have g3:=h.sh k hk
  omega
 unfold zBound lowP
 rw [if_pos l1,if_pos l2]
 simp only
 rw [if_neg (by simp [n1]),if_neg (by simp [n2])]
 refine ⟨rfl,rfl,?_⟩
 show max _ _≤max _ _
 rw [←f4]
 omega
end
section
open Go.RowKit
set_option maxRecDepth 10000 in
set_option maxHeartbeats 1000000 in
theorem pw_foldB2 (f:Nat) (g:Bool→Int→Bool) (v:List Int) (n:Bool) (hf:Nat.blt f 1000000=true) (hl:v.length≤20000000000000) (hp:∀k,k < v.length→PCalls Tryz.prog f [pbool ((v.take k).foldl g n),pint (v.getD k default)] (· = pbool (g ((v.take k).foldl g n) (v.getD k default)))):PCalls Tryz.prog 99 [pints v,pbool n, .fn f []] (· = pbool (v.foldl g n)):=by
 have hlow1:Low (.fn f []):=.fn f [] (by simp)
 refine pcalls_of_pw typeTab_ok Tryz.func99 rfl (by kernel_rfl) (by simp [low_pints,low_pbool,hlow1]) (by simp [pints,pbool,PV.ownB]) (by rw [Tryz.ntmps99];simp) ?_
 rw [Tryz.ntmps99,Tryz.results99]
 refine wk ?_
 refine PW.loop (fun k:Nat=>(((((bot.put 1 (pbool ((v.take k).foldl g n))).put 2 (.fn f [])).put 9 (pints v)).put 10 (pint v.length)).put 11 (pint k))) (fun k=>k≤v.length) (fun k=>v.length - k) 0 (by omega) ?_ ?_
 ·exact sb
 ·intro k hk
  by_cases hlt:k < v.length
  ·refine wk ?_
   refine PWops.callV hf (hp k hlt) rfl rfl rfl rfl rfl rfl ?_
   refine wk ?_
   refine loopP (k+1) (by omega) (by omega) ?_
   simp only [foldl_take g n v hlt]
   exact sb
  ·refine wk ?_
   refine retP rfl (by exact lw) ?_
   rw [List.take_of_length_le (by omega)];rfl
set_option maxRecDepth 10000 in
theorem pw_vecValid2 (v:List Int) (hl:v.length≤20000000000000):PCalls Tryz.prog 38 [pints v] (· = pbool (vecB v)):=by
 have h:=pw_foldB2 100 (fun s x=>s && inB x) v true rfl hl (fun k _=>pw_valid1 _ _)
 rw [vecB_fold] at h
 refine pcalls_of_pw typeTab_ok Tryz.func38 rfl (by kernel_rfl) (by simp [low_pints]) (by simp [pints,PV.ownB]) (by rw [Tryz.ntmps38];simp) ?_
 rw [Tryz.ntmps38,Tryz.results38]
 unfold vecB
 cases hb:v.any farB with
 |true=>
  rw [hb] at h
  refine wk ?_
  exact retP rfl (by exact lw) (by simp [pbool])
 |false=>
  rw [hb] at h
  by_cases h1:1≤v.length
  ·by_cases h2:v.length≤32
   ·refine wk ?_
    exact retP rfl (by exact lw) (by simp [pbool,h1,h2])
   ·refine wk ?_
    exact retP rfl (by exact lw) (by simp [pbool,h2])
  ·refine wk ?_
   exact retP rfl (by exact lw) (by simp [pbool,h1])
end
end Go.Proofs.YtoamkpgaaanafaaGreat
