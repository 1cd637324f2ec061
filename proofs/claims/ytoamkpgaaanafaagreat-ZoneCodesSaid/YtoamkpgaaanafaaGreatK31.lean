/- Out of: Ce. -/
import Derived.Test.YtoamkpgaaanafaaGreatK1
import Derived.Test.YtoamkpgaaanafaaGreatK2
import Derived.Test.YtoamkpgaaanafaaGreatK4
import Derived.Test.YtoamkpgaaanafaaGreatK5
import Derived.Test.YtoamkpgaaanafaaGreatK6
import Derived.Test.YtoamkpgaaanafaaGreatK8
import Derived.Test.YtoamkpgaaanafaaGreatK9
import Derived.Test.YtoamkpgaaanafaaGreatK10
import Derived.Test.YtoamkpgaaanafaaGreatK11
import Derived.Test.YtoamkpgaaanafaaGreatK12
import Derived.Test.YtoamkpgaaanafaaGreatK13
import Derived.Test.YtoamkpgaaanafaaGreatK15
import Derived.Test.YtoamkpgaaanafaaGreatK18
import Derived.Test.YtoamkpgaaanafaaGreatK21
import Derived.Test.YtoamkpgaaanafaaGreatK22
import Derived.Test.YtoamkpgaaanafaaGreatK24
import Derived.Test.YtoamkpgaaanafaaGreatK25
import Derived.Test.YtoamkpgaaanafaaGreatK28
import Derived.Test.YtoamkpgaaanafaaGreatK29
namespace Go.Proofs.YtoamkpgaaanafaaGreat
set_option linter.unusedSimpArgs false
set_option linter.unusedVariables false
set_option linter.unnecessarySimpa false
section
open Go.RowKit
theorem dec_parts {n:List Int} {w:List ByteArray} {z:PSum} (h:IsDec n w z):6≤n.length∧∃R1 R2 R3,cntR (n.drop 6) 1=(z.box.lo,R1,true)∧cntR R1 1=(z.box.hi,R2,true)∧cntR R2 2=(shN z.shells,R3,true)∧cntR R3 4=(flN z.fields,[],true):=by
 have hl:=numsZ_len z
 have e:numsZ z=z.count :: z.fromLo :: z.fromHi :: z.toHi :: z.bornLo :: z.bornHi :: (z.box.lo.length:Int) :: (z.box.lo ++ ((z.box.hi.length:Int) :: (z.box.hi ++ ((z.shells.length:Int) :: (shN z.shells ++ ((z.fields.length:Int) :: (flN z.fields ++ []))))))):=by
  simp [numsZ,boxN,headZ]
 have h1:=shN_len z.shells
 have h2:=flN_len z.fields
 obtain ⟨rfl,-⟩:=h
 refine ⟨by omega,(z.box.hi.length:Int) :: (z.box.hi ++ ((z.shells.length:Int) :: (shN z.shells ++ ((z.fields.length:Int) :: (flN z.fields ++ []))))),(z.shells.length:Int) :: (shN z.shells ++ ((z.fields.length:Int) :: (flN z.fields ++ []))),(z.fields.length:Int) :: (flN z.fields ++ []),?_,?_,?_,?_⟩
 ·rw [e]
  exact cntR_take (c:=z.box.lo.length) (by omega) (by decide)
 ·exact cntR_take (c:=z.box.hi.length) (by omega) (by decide)
 ·exact cntR_take (c:=z.shells.length) (by omega) (by decide)
 ·exact cntR_take (c:=z.fields.length) (by omega) (by decide)
theorem dec_of {n A R1 B R2 C R3 D:List Int} {w:List ByteArray} (hn:6≤n.length) (ea:cntR (n.drop 6) 1=(A,R1,true)) (eb:cntR R1 1=(B,R2,true)) (ec:cntR R2 2=(C,R3,true)) (ed:cntR R3 4=(D,[],true)) (k:Nat) (hk:C.length≤2 * k) (j:Nat) (hk2:2 * k≤C.length+1) (hj:D.length≤4 * j) (hj2:4 * j≤D.length+3) (ho:∀i,i < j→flOk D w i) (hw:(flR D w j).2 = []) :
  IsDec n w ⟨n.getD 0 default,⟨A,B⟩,shR C k,n.getD 1 default,n.getD 2 default,n.getD 3 default,n.getD 4 default,n.getD 5 default,(flR D w j).1⟩:=by
 obtain ⟨a,a1,a2⟩:=cntR_good ea
 obtain ⟨b,b1,b2⟩:=cntR_good eb
 obtain ⟨c,c1,c2⟩:=cntR_good ec
 obtain ⟨d,d1,d2⟩:=cntR_good ed
 have hc:c=k:=by omega
 have hd:d=j:=by omega
 subst hc
 subst hd
 have s1:=shN_shR C c (by omega)
 obtain ⟨f1,f2⟩:=flN_flR D w d (by omega) ho
 have s2:=shR_len C c
 have f3:=(flR_len D w d).1
 rw [hw,List.append_nil] at f2
 refine ⟨?_,f2⟩
 unfold numsZ boxN headZ
 simp only [s1,f1,s2,f3]
 rw [List.take_of_length_le (show C.length≤2 * c by omega),List.take_of_length_le (show D.length≤4 * d by omega)]
 rw [←List.take_append_drop 6 n,a1,b1,c1,d1]
 match n,hn with
 |x0 :: x1 :: x2 :: x3 :: x4 :: x5 :: r,_=>
  have ha:(a:Int)=A.length:=by omega
  have hb:(b:Int)=B.length:=by omega
  simp [ha,hb]
set_option maxRecDepth 10000 in
set_option maxHeartbeats 16000000 in
theorem pw_rBuild (n:List Int) (w:List ByteArray) (hn:n.length≤100000000) (hw:w.length≤100000000):PCalls Tryz.prog 127 [pints n,pstrs w] (· = .agg (psumL (finZ (decM ⟨n,w,false⟩)).1 ++ [pint (finZ (decM ⟨n,w,false⟩)).2])):=by
 have hz1:∀x:Int,∀c∈zNil ++ [pint x],Low c:=by
  intro x c hc
  rcases List.mem_append.1 hc with h|h
  ·exact low_zNil c h
  ·simp only [List.mem_cons,List.not_mem_nil,or_false] at h;subst h;exact .val _
 have hz2:=hz1 0
 have hz3:=hz1 11
 have bad:∀c:Int,Weak (.agg (zNil ++ [pint c])) (.agg (psumL zeroZ ++ [pint c])):=fun c=>Weak.agg (.cons (.refl _) (.cons (.nil 1) (.cons (.nil 1) (.cons (.nil 2) (.cons (.refl _) (.cons (.refl _) (.cons (.refl _) (.cons (.refl _) (.cons (.refl _) (.cons (.nil 4) (.cons (.refl _) .nil)))))))))))
 have lowB:∀c:Int,Low (.agg (zNil ++ [pint c])):=fun c=>.agg _ (hz1 c)
 refine PCalls.weak ?_
 refine pcalls_of_pw typeTab_ok Tryz.func127 rfl (by kernel_rfl) (by simp [low_pint,low_pints,low_pstr,low_pbool,low_pbox,low_pvecs,low_pentry,low_pentries,low_psum,low_pschema,low_pshells,low_pstrs,low_pfld,low_pdef]) (by simp [pint,pints,pstr,pbool,pbox,pvecs,pentry,pentries,psum,psumL,pschema,pshells,pstrs,pfld,pfldL,pdefL,PV.ownB]) (by rw [Tryz.ntmps127];simp) ?_
 rw [Tryz.ntmps127,Tryz.results127]
 have hbad:(∀z,¬IsDec n w z)→Weak (.agg (zNil ++ [pint 11])) (.agg (psumL (finZ (decM ⟨n,w,false⟩)).1 ++ [pint (finZ (decM ⟨n,w,false⟩)).2])):=fun h=>by rw [fin_not h];exact bad 11
 have hgood:∀z,IsDec n w z→finZ (decM ⟨n,w,false⟩)=(z,0):=fun z h=>fin_dec h
 generalize finZ (decM ⟨n,w,false⟩)=fz at *
 by_cases q1:n.length < 6
 ·have hb:=hbad (fun z h=>by have:=(dec_parts h).1;omega)
  refine wk ?_
  exact retP (r:=.agg (zNil ++ [pint 11])) rfl (lowB 11) hb
 have cl:∀{m:List Int} {t:Int} {a b:List Int} {c:Bool},cntR m t=(a,b,c)→a.length≤m.length∧b.length≤m.length:=fun {m t a b c} h=>by
  unfold cntR cutR at h
  split at h
  ·simp only [Prod.mk.injEq] at h;obtain ⟨rfl,rfl,-⟩:=h;simp
  ·split at h
   ·simp only [Prod.mk.injEq] at h;obtain ⟨rfl,rfl,-⟩:=h;simp
   ·simp only [Prod.mk.injEq] at h;obtain ⟨rfl,rfl,-⟩:=h;simp only [List.length_take,List.length_drop];omega
 obtain ⟨A,R1,fa,ea⟩:∃a b c,cntR (n.drop 6) 1=(a,b,c):=⟨_,_,_,rfl⟩
 have la:=cl ea
 rw [List.length_drop] at la
 have ca:=pw_rCounted (n.drop 6) 1 (by rw [List.length_drop];omega) (.inl rfl)
 obtain ⟨B,R2,fb,eb⟩:∃a b c,cntR R1 1=(a,b,c):=⟨_,_,_,rfl⟩
 have lb:=cl eb
 have cb:=pw_rCounted R1 1 (by omega) (.inl rfl)
 obtain ⟨C,R3,fc,ec⟩:∃a b c,cntR R2 2=(a,b,c):=⟨_,_,_,rfl⟩
 have lc:=cl ec
 have cc:=pw_rCounted R2 2 (by omega) (.inr (.inl rfl))
 obtain ⟨D,R4,fd,ed⟩:∃a b c,cntR R3 4=(a,b,c):=⟨_,_,_,rfl⟩
 have ld:=cl ed
 have cd:=pw_rCounted R3 4 (by omega) (.inr (.inr rfl))
 rw [ea] at ca
 rw [eb] at cb
 rw [ec] at cc
 rw [ed] at cd
 unfold triP at ca cb cc cd
 simp only at ca cb cc cd
 have lA:Low (pints A):=(low_pints _).2 trivial
 have lB:Low (pints B):=(low_pints _).2 trivial
 have hD:∀z,IsDec n w z→fa=true∧fb=true∧fc=true∧fd=true∧R4 = []∧D=flN z.fields:=fun z h=>by
  obtain ⟨-,r1,r2,r3,h1,h2,h3,h4⟩:=dec_parts h
  rw [ea,Prod.mk.injEq,Prod.mk.injEq] at h1
  obtain ⟨-,rfl,rfl⟩:=h1
  rw [eb,Prod.mk.injEq,Prod.mk.injEq] at h2
  obtain ⟨-,rfl,rfl⟩:=h2
  rw [ec,Prod.mk.injEq,Prod.mk.injEq] at h3
  obtain ⟨-,rfl,rfl⟩:=h3
  rw [ed,Prod.mk.injEq,Prod.mk.injEq] at h4
  exact ⟨rfl,rfl,rfl,h4.2.2,h4.2.1,h4.1⟩
 have hAh:=Hid.mk ca
 have hBh:=Hid.mk cb
 have hCh:=Hid.mk cc
 clear ca cb cc
 refine wk ?_
 have hb:=fun (q:fa=false∨fb=false∨fc=false∨fd=false∨0 < R4.length)=>hbad (fun z h=>by
  obtain ⟨g1,g2,g3,g4,g5,-⟩:=hD z h
  rw [g1,g2,g3,g4,g5] at q
  simp at q)
 cases fa with
 |false=>
  have h9:=hb (.inl rfl)
  clear hb
  refine wk ?_
  exact retP (r:=.agg (zNil ++ [pint 11])) rfl (lowB 11) h9
 |true=>
 refine wk ?_
 cases fb with
 |false=>
  have h9:=hb (.inr (.inl rfl))
  clear hb
  refine wk ?_
  exact retP (r:=.agg (zNil ++ [pint 11])) rfl (lowB 11) h9
 |true=>
 refine wk ?_
 cases fc with
 |false=>
  have h9:=hb (.inr (.inr (.inl rfl)))
  clear hb
  refine wk ?_
  exact retP (r:=.agg (zNil ++ [pint 11])) rfl (lowB 11) h9
 |true=>
 refine wk ?_
 cases fd with
 |false=>
  have h9:=hb (.inr (.inr (.inr (.inl rfl))))
  clear hb
  refine wk ?_
  exact retP (r:=.agg (zNil ++ [pint 11])) rfl (lowB 11) h9
 |true=>
 refine wk ?_
 by_cases q5:0 < R4.length
 ·have h9:=hb (.inr (.inr (.inr (.inr q5))))
  clear hb
  refine wk ?_
  exact retP (r:=.agg (zNil ++ [pint 11])) rfl (lowB 11) h9
 have hR4:R4 = []:=List.eq_nil_of_length_eq_zero (by omega)
 clear hb
 refine wk ?_
 clear cd
 subst hR4
 obtain ⟨c0,-,hc0⟩:=cntR_good ec
 obtain ⟨d0,-,hd0⟩:=cntR_good ed
 have lA2:=lA
 have lB2:=lB
 refine PW.loop (fun k:Nat=>(bot.setb 0 (zNil ++ [pint 0]) |>.setb 1001 (zNil ++ [pint 11]) |>.setb 4019 (dzC (n.getD 0 default) (n.getD 1 default) (n.getD 2 default) (n.getD 3 default) (n.getD 4 default) (n.getD 5 default) (pints A) (pints B) (shF (shR C k)) .nilsl) |>.put 1 (pstrs w) |>.put 4 (.ptr 0 0) |>.put 5 (.ptr 1001 0) |>.put 6 (.ptr 4019 0) |>.put 13 (pints C) |>.put 16 (pints D) |>.put 19 (pint ((2 * k:Nat):Int)))) (fun k=>2 * k≤C.length) (fun k=>C.length - 2 * k) 0 (by omega) ?_ ?_
 ·have hlz:∀c∈dzC (n.getD 0 default) (n.getD 1 default) (n.getD 2 default) (n.getD 3 default) (n.getD 4 default) (n.getD 5 default) (pints A) (pints B) .nilsl .nilsl,Low c:=low_dzC lA2 lB2 .nilsl .nilsl
  simp only [Nat.zero_add,List.nil_append]
  exact sb
 intro k hk
 have hlsf:=low_shF (shR C k)
 have hlz:∀c∈dzC (n.getD 0 default) (n.getD 1 default) (n.getD 2 default) (n.getD 3 default) (n.getD 4 default) (n.getD 5 default) (pints A) (pints B) (shF (shR C k)) .nilsl,Low c:=low_dzC lA2 lB2 hlsf .nilsl
 have hsl:=shR_len C k
 by_cases hlt:2 * k < C.length
 ·have hlz2:∀c∈dzC (n.getD 0 default) (n.getD 1 default) (n.getD 2 default) (n.getD 3 default) (n.getD 4 default) (n.getD 5 default) (pints A) (pints B) (shF (shR C (k+1))) .nilsl,Low c:=low_dzC lA2 lB2 (low_shF _) .nilsl
  rw [shR_succ,shF_snoc] at hlz2
  by_cases h0:(shR C k).length=0
  ·have hn:=List.eq_nil_of_length_eq_zero h0
   have e9:shF (shR C k) = .nilsl:=by unfold shF;rw [if_pos h0]
   rw [e9]
   refine wk ?_
   refine loopP (k+1) (by omega) (by omega) ?_
   rw [shR_succ,shF_snoc,show ((2 * (k+1):Nat):Int)=((2 * k:Nat):Int)+2 by omega]
   rw [hn] at hlz2 ⊢
   simp only [List.length_nil,List.flatMap_nil,List.nil_append,Nat.zero_add] at hlz2 ⊢
   exact sb
  ·have e9:shF (shR C k) = .sl (shR C k).length 2 ((shR C k).flatMap pshL) (some 119):=by unfold shF;rw [if_neg h0]
   rw [e9]
   refine wk ?_
   refine loopP (k+1) (by omega) (by omega) ?_
   rw [shR_succ,shF_snoc,show ((2 * (k+1):Nat):Int)=((2 * k:Nat):Int)+2 by omega]
   exact sb
 have hkl:C.length≤2 * k:=by omega
 have hsf:shF (shR C k) = .nilsl∨shF (shR C k) = .sl (shR C k).length 2 ((shR C k).flatMap pshL) (some 119):=by
  unfold shF
  split
  ·exact .inl rfl
  ·exact .inr rfl
 have wsh:=weak_shF (shR C k)
 have lsh:=lowb_shF (shR C k)
 have hlsf2:=low_shF (shR C k)
 have hdone:=fun j=>dec_of (w:=w) (show 6≤n.length by omega) ea eb ec ed k hkl j (by omega)
 rcases hsf with e0|e0
 all_goals
  rw [e0] at wsh lsh hlz ⊢
  refine wk ?_
  refine PW.loop (fun j:Nat=>(bot.setb 0 (zNil ++ [pint 0]) |>.setb 1001 (zNil ++ [pint 11]) |>.setb 4019 (dzC (n.getD 0 default) (n.getD 1 default) (n.getD 2 default) (n.getD 3 default) (n.getD 4 default) (n.getD 5 default) (pints A) (pints B) (shF (shR C k)) (flF (flR D w j).1)) |>.put 1 (pstrs (flR D w j).2) |>.put 4 (.ptr 0 0) |>.put 5 (.ptr 1001 0) |>.put 6 (.ptr 4019 0) |>.put 16 (pints D) |>.put 20 (pint ((4 * j:Nat):Int)))) (fun j=>4 * j≤D.length∧∀i,i < j→flOk D w i) (fun j=>D.length - 4 * j) 0 ⟨by omega,by simp⟩ ?_ ?_
  ·rw [e0]
   exact sb
  rintro j ⟨hj,hoj⟩
  obtain ⟨g1,g2⟩:=flR_len D w j
  have hlfl:=low_flF (flR D w j).1
  have hlz:∀c∈dzC (n.getD 0 default) (n.getD 1 default) (n.getD 2 default) (n.getD 3 default) (n.getD 4 default) (n.getD 5 default) (pints A) (pints B) (shF (shR C k)) (flF (flR D w j).1),Low c:=low_dzC lA lB hlsf2 hlfl
  have hlw:Low (pstrs (flR D w j).2):=(low_pstrs _).2 trivial
  rw [e0] at hlz ⊢
  by_cases hlt:4 * j < D.length
  ·have hnot:¬flOk D w j→Weak (.agg (zNil ++ [pint 11])) (.agg (psumL fz.1 ++ [pint fz.2])):=fun hf=>hbad (fun z h=>by
    obtain ⟨-,-,-,-,-,h6⟩:=hD z h
    have h7:=flN_len z.fields
    rw [h6,h.2] at hf
    rw [h6] at hlt
    exact hf (flOk_take _ (by omega)))
   have e1:flR D w (j+1)=((flR D w j).1 ++ [⟨D.getD (4 * j) default,D.getD (4 * j+1) default,D.getD (4 * j+2) default,(flR D w j).2.take (D.getD (4 * j+3) default).toNat⟩],(flR D w j).2.drop (D.getD (4 * j+3) default).toNat):=by rw [flR]
   have hnx:flOk D w j→∀i,i < j+1→flOk D w i:=fun h i hi=>by
    rcases Nat.lt_succ_iff_lt_or_eq.1 hi with h2|h2
    ·exact hoj i h2
    ·rw [h2];exact h
   have hok0:flOk D w j=(0≤D.getD (4 * j+3) default∧D.getD (4 * j+3) default≤(flR D w j).2.length):=rfl
   by_cases r1:D.getD (4 * j+3) default < 0
   ·have h9:=hnot (fun h=>by rw [hok0] at h;omega)
    refine wk ?_
    exact retP (r:=.agg (zNil ++ [pint 11])) rfl (lowB 11) h9
   by_cases r2:((flR D w j).2.length:Int) < D.getD (4 * j+3) default
   ·have h9:=hnot (fun h=>by rw [hok0] at h;omega)
    refine wk ?_
    exact retP (r:=.agg (zNil ++ [pint 11])) rfl (lowB 11) h9
   have hok:=hnx (by rw [hok0];omega)
   have hl4:Low (pstrs ((flR D w j).2.take (D.getD (4 * j+3) default).toNat)):=(low_pstrs _).2 trivial
   have hl5:Low (pstrs ((flR D w j).2.drop (D.getD (4 * j+3) default).toNat)):=(low_pstrs _).2 trivial
   have hlz2:∀c∈dzC (n.getD 0 default) (n.getD 1 default) (n.getD 2 default) (n.getD 3 default) (n.getD 4 default) (n.getD 5 default) (pints A) (pints B) (shF (shR C k)) (flF ((flR D w j).1 ++ [⟨D.getD (4 * j) default,D.getD (4 * j+1) default,D.getD (4 * j+2) default,(flR D w j).2.take (D.getD (4 * j+3) default).toNat⟩])),Low c:=low_dzC lA lB hlsf2 (low_flF _)
   rw [flF_snoc,e0] at hlz2
   have hk4:((flR D w j).2.take (D.getD (4 * j+3) default).toNat).length≤100000000:=by rw [List.length_take];omega
   clear hnot hnx hok0
   by_cases h0:(flR D w j).1.length=0
   ·have hn:=List.eq_nil_of_length_eq_zero h0
    have e9:flF (flR D w j).1 = .nilsl:=by unfold flF;rw [if_pos h0]
    rw [e9]
    refine wk ?_
    refine loopP (j+1) ⟨by omega,hok⟩ (by omega) ?_
    simp only [Nat.zero_add,List.nil_append]
    rw [e1,flF_snoc,show ((4 * (j+1):Nat):Int)=((4 * j:Nat):Int)+4 by omega]
    rw [hn] at hlz2 ⊢
    simp only [List.length_nil,List.flatMap_nil,List.nil_append,Nat.zero_add] at hlz2 ⊢
    exact sb
   ·have e9:flF (flR D w j).1 = .sl (flR D w j).1.length 4 ((flR D w j).1.flatMap pfldL) (some 100):=by unfold flF;rw [if_neg h0]
    rw [e9]
    refine wk ?_
    refine loopP (j+1) ⟨by omega,hok⟩ (by omega) ?_
    simp only [Nat.zero_add,List.nil_append]
    rw [e1,flF_snoc,show ((4 * (j+1):Nat):Int)=((4 * j:Nat):Int)+4 by omega]
    exact sb
  ·have hjl:D.length≤4 * j:=by omega
   by_cases q7:0 < (flR D w j).2.length
   ·have h9:=hbad (fun z h=>by
     obtain ⟨-,-,-,-,-,h6⟩:=hD z h
     have h7:=flN_len z.fields
     rw [h6] at hjl hj
     have h8:=flR_take z.fields j (by omega)
     rw [h6,h.2,h8,List.drop_eq_nil_of_le (by omega)] at q7
     simp [flW] at q7)
    refine wk ?_
    exact retP (r:=.agg (zNil ++ [pint 11])) rfl (lowB 11) h9
   ·have hw0:(flR D w j).2 = []:=List.eq_nil_of_length_eq_zero (by omega)
    have hfz:=hgood _ (hdone j hjl (by omega) hoj hw0)
    rw [hfz]
    clear hbad hgood hdone hD
    generalize flR D w j=fl at *
    obtain ⟨F,ww⟩:=fl
    simp only at g1 g2 hlfl hlz hlw q7 ⊢
    have hff:flF F = .nilsl∨flF F = .sl F.length 4 (F.flatMap pfldL) (some 100):=by
     unfold flF
     split
     ·exact .inl rfl
     ·exact .inr rfl
    have wfl:=weak_flF F
    have lfl:=lowb_flF F
    rcases hff with e99|e99
    all_goals
     rw [e99] at wfl lfl hlz ⊢
     refine wk ?_
     refine retP (r:=.agg (dzC (n.getD 0 default) (n.getD 1 default) (n.getD 2 default) (n.getD 3 default) (n.getD 4 default) (n.getD 5 default) (pints A) (pints B) _ _ ++ [pint 0])) rfl (.agg _ ?_) (Weak.agg (.cons (.refl _) (.cons (.refl _) (.cons (.refl _) (.cons wsh (.cons (.refl _) (.cons (.refl _) (.cons (.refl _) (.cons (.refl _) (.cons (.refl _) (.cons wfl (.cons (.refl _) .nil))))))))))))
     intro c hc
     rcases List.mem_append.1 hc with h|h
     ·exact low_dzC lA lB lsh lfl c h
     ·simp only [List.mem_cons,List.not_mem_nil,or_false] at h;subst h;exact .val _
end
end Go.Proofs.YtoamkpgaaanafaaGreat
