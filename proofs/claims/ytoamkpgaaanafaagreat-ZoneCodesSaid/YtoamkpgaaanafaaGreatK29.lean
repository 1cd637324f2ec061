/- Out of: Cc. -/
import Derived.Test.YtoamkpgaaanafaaGreatK1
import Derived.Test.YtoamkpgaaanafaaGreatK2
import Derived.Test.YtoamkpgaaanafaaGreatK4
import Derived.Test.YtoamkpgaaanafaaGreatK5
import Derived.Test.YtoamkpgaaanafaaGreatK6
import Derived.Test.YtoamkpgaaanafaaGreatK8
import Derived.Test.YtoamkpgaaanafaaGreatK9
import Derived.Test.YtoamkpgaaanafaaGreatK10
import Derived.Test.YtoamkpgaaanafaaGreatK11
import Derived.Test.YtoamkpgaaanafaaGreatK12
import Derived.Test.YtoamkpgaaanafaaGreatK13
import Derived.Test.YtoamkpgaaanafaaGreatK14
import Derived.Test.YtoamkpgaaanafaaGreatK15
import Derived.Test.YtoamkpgaaanafaaGreatK18
import Derived.Test.YtoamkpgaaanafaaGreatK21
import Derived.Test.YtoamkpgaaanafaaGreatK24
import Derived.Test.YtoamkpgaaanafaaGreatK25
namespace Go.Proofs.YtoamkpgaaanafaaGreat
set_option linter.unusedSimpArgs false
set_option linter.unusedVariables false
set_option linter.unnecessarySimpa false
section
open Go.RowKit
def dzC (a1 a2 a3 a4 a5 a6:Int) (lo hi sh fl:PV):List PV := [pint a1,lo,hi,sh,pint a2,pint a3,pint a4,pint a5,pint a6,fl]
def dz0:List PV:=dzC 0 0 0 0 0 0 .nilsl .nilsl .nilsl .nilsl
theorem low_dzC {a1 a2 a3 a4 a5 a6:Int} {lo hi sh fl:PV} (h1:Low lo) (h2:Low hi) (h3:Low sh) (h4:Low fl):∀c∈dzC a1 a2 a3 a4 a5 a6 lo hi sh fl,Low c:=by
 intro c hc
 simp only [dzC,List.mem_cons,List.not_mem_nil,or_false] at hc
 rcases hc with rfl|rfl|rfl|rfl|rfl|rfl|rfl|rfl|rfl|rfl<;>first|exact .val _|assumption
def shF (l:List PShell):PV:=if l.length=0 then .nilsl else .sl l.length 2 (l.flatMap pshL) (some 119)
def flF (l:List PField):PV:=if l.length=0 then .nilsl else .sl l.length 4 (l.flatMap pfldL) (some 100)
theorem low_shF (l:List PShell):Low (shF l):=by
 unfold shF
 split
 ·exact .nilsl
 ·exact .sl _ _ _ _ fun c hc=>by
   obtain ⟨x,-,hx⟩:=List.mem_flatMap.1 hc
   exact low_pshL x c hx
theorem low_flF (l:List PField):Low (flF l):=by
 unfold flF
 split
 ·exact .nilsl
 ·exact .sl _ _ _ _ fun c hc=>by
   obtain ⟨x,-,hx⟩:=List.mem_flatMap.1 hc
   exact low_pfldL x c hx
theorem weak_dz0 {c:Int} : Weak (.tup [.agg dz0, .val (.int .i64 c)]) (.tup [psum zeroZ,pint c]):=
 .tup (.cons (.agg (.cons (.refl _) (.cons (.nil 1) (.cons (.nil 1) (.cons (.nil 2) (.cons (.refl _) (.cons (.refl _) (.cons (.refl _) (.cons (.refl _) (.cons (.refl _) (.cons (.nil 4) .nil))))))))))) (.cons (.refl _) .nil))
theorem low_dz0 (c:Int):Low (.tup [.agg dz0, .val (.int .i64 c)]):=low_tup.2 (by
 simp only [List.mem_cons,List.not_mem_nil,or_false]
 rintro x (rfl|rfl)
 ·exact .agg _ (low_dzC .nilsl .nilsl .nilsl .nilsl)
 ·exact .val _)
theorem shF_snoc (l:List PShell) (x:PShell):shF (l ++ [x]) = .sl (l.length+1) 2 (l.flatMap pshL ++ pshL x) (some 119):=by
 unfold shF
 rw [if_neg (by simp)]
 simp
theorem flF_snoc (l:List PField) (x:PField):flF (l ++ [x]) = .sl (l.length+1) 4 (l.flatMap pfldL ++ pfldL x) (some 100):=by
 unfold flF
 rw [if_neg (by simp)]
 simp
theorem lowb_shF (l:List PShell):Low (shF l).bare:=by
 unfold shF
 split
 ·exact .nilsl
 ·exact .sl _ _ _ _ fun c hc=>by
   obtain ⟨x,-,hx⟩:=List.mem_flatMap.1 hc
   exact low_pshL x c hx
theorem lowb_flF (l:List PField):Low (flF l).bare:=by
 unfold flF
 split
 ·exact .nilsl
 ·exact .sl _ _ _ _ fun c hc=>by
   obtain ⟨x,-,hx⟩:=List.mem_flatMap.1 hc
   exact low_pfldL x c hx
theorem weak_shF (l:List PShell):Weak (shF l).bare (pshells l):=by
 unfold shF
 split
 ·rename_i h
  rw [List.eq_nil_of_length_eq_zero h]
  exact .nil 2
 ·exact Weak.refl _
theorem weak_flF (l:List PField):Weak (flF l).bare (pflds l):=by
 unfold flF
 split
 ·rename_i h
  rw [List.eq_nil_of_length_eq_zero h]
  exact .nil 4
 ·exact Weak.refl _
set_option maxRecDepth 10000 in
set_option maxHeartbeats 16000000 in
theorem pw_zDecode (bs:List Int) (hby:Byte bs) (hl:bs.length≤100000000):PCalls Tryz.prog 47 [pbytes bs] (· = .tup [psum (decZ bs).1,pint (decZ bs).2]):=by
 refine PCalls.weak ?_
 refine pcalls_of_pw typeTab_ok Tryz.func47 rfl (by kernel_rfl) (by exact lw) (by simp [pbytes,PV.ownB]) (by rw [Tryz.ntmps47];simp) ?_
 rw [Tryz.ntmps47,Tryz.results47]
 have cg:=pcGetInts bs hby (by omega)
 obtain ⟨n,u,er,h1⟩:∃n u er,getInts bs=(n,u,er):=⟨_,_,_,rfl⟩
 rw [h1] at cg
 simp only at cg
 unfold decZ
 rw [h1]
 simp only
 refine wk ?_
 by_cases g1:er=0
 case neg=>
  rw [if_pos g1]
  refine wk ?_
  exact retP (r:=.tup [.agg dz0,pint er]) rfl (low_dz0 _) weak_dz0
 subst g1
 obtain ⟨t1,t2,t3⟩:=getInts_take bs n u hby.all h1
 have t8:=getInts_short bs n u hby.all h1
 obtain ⟨U,rfl⟩:∃N:Nat,u=N:=⟨u.toNat,by omega⟩
 obtain ⟨s,u2,er2,h2⟩:∃s u2 er2,getStrs (bs.drop U)=(s,u2,er2):=⟨_,_,_,rfl⟩
 have cs:=pcGetStrs (bs.drop U) (hby.drop U) (by rw [List.length_drop];omega)
 rw [if_neg (by simp),Int.toNat_natCast,h2]
 rw [h2] at cs
 simp only at cs ⊢
 refine wk ?_
 by_cases g2:er2=0
 case neg=>
  rw [if_pos g2]
  refine wk ?_
  exact retP (r:=.tup [.agg dz0,pint er2]) rfl (low_dz0 _) weak_dz0
 subst g2
 obtain ⟨t5,t6,t7⟩:=getStrs_take (bs.drop U) s u2 (hby.drop U).all h2
 have t9:=(getStrs_len (bs.drop U) s u2 (hby.drop U).all h2).1
 rw [List.length_drop] at t7 t9
 rw [if_neg (by simp)]
 clear cg cs h1 h2 t1 t5
 refine wk ?_
 have hq:(!(((U:Int)+u2) == (bs.length:Int)))=decide ((U:Int)+u2≠bs.length):=by
  by_cases q:(U:Int)+u2=bs.length
  ·simp [q]
  ·simp [q]
 refine PWops.bool (decide ((U:Int)+u2≠bs.length)) rfl rfl rfl hq rfl ?_
 clear hq
 generalize decide ((U:Int)+u2≠bs.length)=bb at *
 obtain ⟨x1,S1,e1⟩:∃x T,numS ⟨n,s,bb⟩=(x,T):=⟨_,_,rfl⟩
 have be1:=numS_len ⟨n,s,bb⟩
 have ce1:=hc_number 7009 ⟨n,s,bb⟩ (by first|omega|(simp only;omega))
 rw [e1] at be1 ce1
 unfold SCalls sG at ce1
 simp only at be1 ce1
 refine wk ?_
 clear ce1
 obtain ⟨x2,S2,e2⟩:∃x T,numS S1=(x,T):=⟨_,_,rfl⟩
 have be2:=numS_len S1
 have ce2:=hc_number 7009 S1 (by first|omega|(simp only;omega))
 rw [e2] at be2 ce2
 unfold SCalls sG at ce2
 simp only at be2 ce2
 refine wk ?_
 clear ce2
 obtain ⟨x3,S3,e3⟩:∃x T,numS S2=(x,T):=⟨_,_,rfl⟩
 have be3:=numS_len S2
 have ce3:=hc_number 7009 S2 (by first|omega|(simp only;omega))
 rw [e3] at be3 ce3
 unfold SCalls sG at ce3
 simp only at be3 ce3
 refine wk ?_
 clear ce3
 obtain ⟨x4,S4,e4⟩:∃x T,numS S3=(x,T):=⟨_,_,rfl⟩
 have be4:=numS_len S3
 have ce4:=hc_number 7009 S3 (by first|omega|(simp only;omega))
 rw [e4] at be4 ce4
 unfold SCalls sG at ce4
 simp only at be4 ce4
 refine wk ?_
 clear ce4
 obtain ⟨x5,S5,e5⟩:∃x T,numS S4=(x,T):=⟨_,_,rfl⟩
 have be5:=numS_len S4
 have ce5:=hc_number 7009 S4 (by first|omega|(simp only;omega))
 rw [e5] at be5 ce5
 unfold SCalls sG at ce5
 simp only at be5 ce5
 refine wk ?_
 clear ce5
 obtain ⟨x6,S6,e6⟩:∃x T,numS S5=(x,T):=⟨_,_,rfl⟩
 have be6:=numS_len S5
 have ce6:=hc_number 7009 S5 (by first|omega|(simp only;omega))
 rw [e6] at be6 ce6
 unfold SCalls sG at ce6
 simp only at be6 ce6
 refine wk ?_
 clear ce6
 obtain ⟨lo,S7,e7⟩:∃x T,lstS S6=(x,T):=⟨_,_,rfl⟩
 have be7:=lstS_len S6
 have ce7:=hc_list 7009 S6 (by omega)
 rw [e7] at be7 ce7
 unfold SCalls sG at ce7
 simp only at be7 ce7
 have hllo:Low (pints lo):=(low_pints _).2 trivial
 refine wk ?_
 clear ce7
 obtain ⟨hi,S8,e8⟩:∃x T,lstS S7=(x,T):=⟨_,_,rfl⟩
 have be8:=lstS_len S7
 have ce8:=hc_list 7009 S7 (by omega)
 rw [e8] at be8 ce8
 unfold SCalls sG at ce8
 simp only at be8 ce8
 have hlhi:Low (pints hi):=(low_pints _).2 trivial
 refine wk ?_
 clear ce8
 obtain ⟨x9,S9,e9⟩:∃x T,cntS S8 S8.n.length=(x,T):=⟨_,_,rfl⟩
 have be9:=cntS_len S8 S8.n.length
 have de9:=cntS_le S8 S8.n.length (by omega)
 have ce9:=hc_count 7009 S8 S8.n.length (by omega)
 rw [e9] at be9 ce9 de9
 unfold SCalls sG at ce9
 simp only at be9 ce9 de9
 refine wk ?_
 clear ce9
 obtain ⟨m1,rfl⟩:∃m:Nat,x9=m:=⟨x9.toNat,by omega⟩
 have hz0:∀c∈dz0,Low c:=low_dzC .nilsl .nilsl .nilsl .nilsl
 have hlS:=fun S:PSrc=>low_srcC S
 refine PW.loop (fun k:Nat=>(bot.setb 0 dz0 |>.setb 7009 (srcC (dshK S9 k).2) |>.setb 8013 (dzC x1 x2 x3 x4 x5 x6 (pints lo) (pints hi) (shF (dshK S9 k).1) .nilsl) |>.put 2 (.ptr 0 0) |>.put 9 (.ptr 7009 0) |>.put 10 (.ptr 8013 0) |>.put 70 (pint m1) |>.put 71 (pint k))) (fun k=>k≤m1) (fun k=>m1 - k) 0 (by omega) ?_ ?_
 ·have hls:=low_srcC S9
  have hlz:∀c∈dzC x1 x2 x3 x4 x5 x6 (pints lo) (pints hi) .nilsl .nilsl,Low c:=low_dzC hllo hlhi .nilsl .nilsl
  exact sb
 intro k hk
 obtain ⟨d1,d2,d3⟩:=dshK_len S9 k
 have hls:=low_srcC (dshK S9 k).2
 have hlsf:=low_shF (dshK S9 k).1
 have hlz:∀c∈dzC x1 x2 x3 x4 x5 x6 (pints lo) (pints hi) (shF (dshK S9 k).1) .nilsl,Low c:=low_dzC hllo hlhi hlsf .nilsl
 by_cases hlt:k < m1
 ·obtain ⟨y1,T1,f1⟩:∃x T,numS (dshK S9 k).2=(x,T):=⟨_,_,rfl⟩
  have bf1:=numS_len (dshK S9 k).2
  have cf1:=hc_number 7009 (dshK S9 k).2 (by omega)
  rw [f1] at bf1 cf1
  unfold SCalls sG at cf1
  simp only at bf1 cf1
  obtain ⟨y2,T2,f2⟩:∃x T,numS T1=(x,T):=⟨_,_,rfl⟩
  have bf2:=numS_len T1
  have e1:dshK S9 (k+1)=((dshK S9 k).1 ++ [⟨y1,y2⟩],T2):=by rw [dshK,f1];simp only;rw [f2]
  have hls2:=low_srcC T2
  have hlz2:∀c∈dzC x1 x2 x3 x4 x5 x6 (pints lo) (pints hi) (shF ((dshK S9 k).1 ++ [⟨y1,y2⟩])) .nilsl,Low c:=low_dzC hllo hlhi (low_shF _) .nilsl
  rw [shF_snoc] at hlz2
  by_cases h0:(dshK S9 k).1.length=0
  ·have hn:=List.eq_nil_of_length_eq_zero h0
   have e9:shF (dshK S9 k).1 = .nilsl:=by unfold shF;rw [if_pos h0]
   rw [e9]
   refine wg ?_
   refine PW.region typeTab_ok (by kernel_rfl) ?_
   refine wg ?_
   refine PW.drawF (fun i id=>(Nat.beq i 3 || Nat.beq i 5) && Nat.beq id 8013) typeTab_ok (by kernel_rfl) (by kernel_rfl) (by kernel_rfl) ?_
   refine wg ?_
   clear cf1
   have cf2:=hc_number 7009 T1 (by omega)
   rw [f2] at cf2
   unfold SCalls sG at cf2
   simp only at cf2
   refine wg ?_
   refine wk ?_
   refine loopP (k+1) (by omega) (by omega) ?_
   simp only [e1]
   rw [shF_snoc]
   rw [hn] at hlz2 ⊢
   simp only [List.length_nil,List.flatMap_nil,List.nil_append,Nat.zero_add] at hlz2 ⊢
   exact sb
  ·have e9:shF (dshK S9 k).1 = .sl (dshK S9 k).1.length 2 ((dshK S9 k).1.flatMap pshL) (some 119):=by unfold shF;rw [if_neg h0]
   rw [e9]
   refine wg ?_
   refine PW.region typeTab_ok (by kernel_rfl) ?_
   refine wg ?_
   refine PW.drawF (fun i id=>(Nat.beq i 3 || Nat.beq i 5) && Nat.beq id 8013) typeTab_ok (by kernel_rfl) (by kernel_rfl) (by kernel_rfl) ?_
   refine wg ?_
   clear cf1
   have cf2:=hc_number 7009 T1 (by omega)
   rw [f2] at cf2
   unfold SCalls sG at cf2
   simp only at cf2
   refine wg ?_
   refine wk ?_
   refine loopP (k+1) (by omega) (by omega) ?_
   simp only [e1]
   rw [shF_snoc]
   exact sb
 ·obtain rfl:k=m1:=by omega
  generalize hsh:dshK S9 k=sh at *
  obtain ⟨L1,S10⟩:=sh
  simp only at d1 d2 d3 hls hlsf hlz ⊢
  obtain ⟨x11,S11,e11⟩:∃x T,cntS S10 S10.n.length=(x,T):=⟨_,_,rfl⟩
  have be11:=cntS_len S10 S10.n.length
  have de11:=cntS_le S10 S10.n.length (by omega)
  have ce11:=hc_count 7009 S10 S10.n.length (by omega)
  rw [e11] at be11 ce11 de11
  unfold SCalls sG at ce11
  simp only at be11 ce11 de11
  refine wk ?_
  clear ce11
  have hws:S11.w.length≤100000000:=by rw [be11.2,d3,be9.2,be8.2.1,be7.2.1,be6.2,be5.2,be4.2,be3.2,be2.2,be1.2];omega
  obtain ⟨m2,rfl⟩:∃m:Nat,x11=m:=⟨x11.toNat,by omega⟩
  have hsf:shF L1 = .nilsl∨shF L1 = .sl L1.length 2 (L1.flatMap pshL) (some 119):=by
   unfold shF
   split
   ·exact .inl rfl
   ·exact .inr rfl
  have wsh:=weak_shF L1
  rcases hsf with e0|e0
  all_goals
   rw [e0] at wsh hlz ⊢
   refine PW.loop (fun j:Nat=>(bot.setb 0 dz0 |>.setb 7009 (srcC (dflK S11 j).2) |>.setb 8013 (dzC x1 x2 x3 x4 x5 x6 (pints lo) (pints hi) (shF L1) (flF (dflK S11 j).1)) |>.put 2 (.ptr 0 0) |>.put 9 (.ptr 7009 0) |>.put 10 (.ptr 8013 0) |>.put 90 (pint m2) |>.put 91 (pint j))) (fun j=>j≤m2) (fun j=>m2 - j) 0 (by omega) ?_ ?_
   ·have hls:=low_srcC S11
    have hlz:∀c∈dzC x1 x2 x3 x4 x5 x6 (pints lo) (pints hi) (shF L1) .nilsl,Low c:=low_dzC hllo hlhi (low_shF L1) .nilsl
    rw [e0] at hlz ⊢
    exact sb
   intro j hj
   obtain ⟨g1,g2,g3⟩:=dflK_len S11 j
   have hls:=low_srcC (dflK S11 j).2
   have hlfl:=low_flF (dflK S11 j).1
   have hlz:∀c∈dzC x1 x2 x3 x4 x5 x6 (pints lo) (pints hi) (shF L1) (flF (dflK S11 j).1),Low c:=low_dzC hllo hlhi (low_shF L1) hlfl
   rw [e0] at hlz ⊢
   by_cases hlt:j < m2
   ·obtain ⟨y1,T1,f1⟩:∃x T,numS (dflK S11 j).2=(x,T):=⟨_,_,rfl⟩
    have bf1:=numS_len (dflK S11 j).2
    rw [f1] at bf1
    obtain ⟨y2,T2,f2⟩:∃x T,numS T1=(x,T):=⟨_,_,rfl⟩
    have bf2:=numS_len T1
    rw [f2] at bf2
    obtain ⟨y3,T3,f3⟩:∃x T,numS T2=(x,T):=⟨_,_,rfl⟩
    have bf3:=numS_len T2
    rw [f3] at bf3
    obtain ⟨y4,T4,f4⟩:∃x T,cntS T3 T3.w.length=(x,T):=⟨_,_,rfl⟩
    have bf4:=cntS_len T3 T3.w.length
    have df4:=cntS_le T3 T3.w.length (by omega)
    rw [f4] at bf4 df4
    simp only at bf1 bf2 bf3 bf4 df4
    have e1:dfl1 (dflK S11 j).2=(⟨y1,y2,y3,T4.w.take y4.toNat⟩,⟨T4.n,T4.w.drop y4.toNat,T4.bad⟩):=by
     unfold dfl1
     simp only [f1,f2,f3,f4]
    have e2:dflK S11 (j+1)=((dflK S11 j).1 ++ [⟨y1,y2,y3,T4.w.take y4.toNat⟩],⟨T4.n,T4.w.drop y4.toNat,T4.bad⟩):=by rw [dflK,e1]
    have hw4:T4.w.length≤100000000:=by rw [bf4.2,bf3.2,bf2.2,bf1.2];omega
    have hw5:T4.w.length=T3.w.length:=by rw [bf4.2]
    have cc:=pcCloneS (T4.w.take y4.toNat) (by rw [List.length_take];omega)
    have hl4:Low (pstrs (T4.w.take y4.toNat)):=(low_pstrs _).2 trivial
    have hl5:Low (pstrs (T4.w.drop y4.toNat)):=(low_pstrs _).2 trivial
    have hls2:=low_srcC ⟨T4.n,T4.w.drop y4.toNat,T4.bad⟩
    have hlz2:∀c∈dzC x1 x2 x3 x4 x5 x6 (pints lo) (pints hi) (shF L1) (flF ((dflK S11 j).1 ++ [⟨y1,y2,y3,T4.w.take y4.toNat⟩])),Low c:=low_dzC hllo hlhi (low_shF L1) (low_flF _)
    rw [flF_snoc,e0] at hlz2
    have q1:=hc_number 7009 (dflK S11 j).2 (by omega)
    have q2:=hc_number 7009 T1 (by omega)
    have q3:=hc_number 7009 T2 (by omega)
    have q4:=hc_count 7009 T3 T3.w.length (by omega)
    rw [f1] at q1
    rw [f2] at q2
    rw [f3] at q3
    rw [f4] at q4
    unfold SCalls sG at q1 q2 q3 q4
    simp only at q1 q2 q3 q4
    have hq1:=Hid.mk q1
    have hq2:=Hid.mk q2
    have hq3:=Hid.mk q3
    clear q1 q2 q3
    by_cases h0:(dflK S11 j).1.length=0
    ·have hn:=List.eq_nil_of_length_eq_zero h0
     have e9:flF (dflK S11 j).1 = .nilsl:=by unfold flF;rw [if_pos h0]
     rw [e9]
     refine wg ?_
     refine PW.region typeTab_ok (by kernel_rfl) ?_
     refine wg ?_
     refine PW.region typeTab_ok (by kernel_rfl) ?_
     have q1:=hq1.out
     refine wg ?_
     clear q1
     have q2:=hq2.out
     refine wg ?_
     clear q2
     have q3:=hq3.out
     refine wg ?_
     clear q3
     refine PW.region typeTab_ok (by kernel_rfl) ?_
     refine wg ?_
     refine PW.drawF (fun i id=>Nat.beq i 11 && Nat.beq id 16007) typeTab_ok (by kernel_rfl) (by kernel_rfl) (by kernel_rfl) ?_
     refine wg ?_
     refine PW.region typeTab_ok (by kernel_rfl) ?_
     refine wg ?_
     refine wk ?_
     refine loopP (j+1) (by omega) (by omega) ?_
     simp only [e2]
     rw [flF_snoc]
     rw [hn] at hlz2 ⊢
     simp only [List.length_nil,List.flatMap_nil,List.nil_append,Nat.zero_add] at hlz2 ⊢
     exact sb
    ·have e9:flF (dflK S11 j).1 = .sl (dflK S11 j).1.length 4 ((dflK S11 j).1.flatMap pfldL) (some 100):=by unfold flF;rw [if_neg h0]
     rw [e9]
     refine wg ?_
     refine PW.region typeTab_ok (by kernel_rfl) ?_
     refine wg ?_
     refine PW.region typeTab_ok (by kernel_rfl) ?_
     have q1:=hq1.out
     refine wg ?_
     clear q1
     have q2:=hq2.out
     refine wg ?_
     clear q2
     have q3:=hq3.out
     refine wg ?_
     clear q3
     refine PW.region typeTab_ok (by kernel_rfl) ?_
     refine wg ?_
     refine PW.drawF (fun i id=>Nat.beq i 11 && Nat.beq id 16007) typeTab_ok (by kernel_rfl) (by kernel_rfl) (by kernel_rfl) ?_
     refine wg ?_
     refine PW.region typeTab_ok (by kernel_rfl) ?_
     refine wg ?_
     refine wk ?_
     refine loopP (j+1) (by omega) (by omega) ?_
     simp only [e2]
     rw [flF_snoc]
     exact sb
   ·obtain rfl:j=m2:=by omega
    have hM:decM ⟨n,s,bb⟩=(⟨x1,⟨lo,hi⟩,L1,x2,x3,x4,x5,x6,(dflK S11 j).1⟩,(dflK S11 j).2):=by
     unfold decM
     simp only [e1,e2,e3,e4,e5,e6,e7,e8,e9,Int.toNat_natCast,hsh,e11]
    rw [hM]
    unfold finZ
    generalize dflK S11 j=fl at *
    obtain ⟨F,nn,ww,bd⟩:=fl
    simp only at g1 g2 g3 hls hlfl hlz ⊢
    have hff:flF F = .nilsl∨flF F = .sl F.length 4 (F.flatMap pfldL) (some 100):=by
     unfold flF
     split
     ·exact .inl rfl
     ·exact .inr rfl
    have wfl:=weak_flF F
    have lsh:=lowb_shF L1
    have lfl:=lowb_flF F
    rw [e0] at lsh
    rcases hff with e99|e99
    all_goals
     rw [e99] at wfl lfl hlz ⊢
     cases bd with
     |true=>
      rw [if_pos (.inl rfl)]
      refine wk ?_
      exact retP (r:=.tup [.agg dz0,pint 11]) rfl (low_dz0 _) weak_dz0
     |false=>
      by_cases h0:0 < nn.length+ww.length
      ·rw [if_pos (.inr h0)]
       refine wk ?_
       exact retP (r:=.tup [.agg dz0,pint 11]) rfl (low_dz0 _) weak_dz0
      ·rw [if_neg (fun h=>h.elim (by decide) h0)]
       refine wk ?_
       refine retP (r:=.tup [.agg (dzC x1 x2 x3 x4 x5 x6 (pints lo) (pints hi) _ _),pint 0]) rfl (low_tup.2 ?_) (.tup (.cons (.agg (.cons (.refl _) (.cons (.refl _) (.cons (.refl _) (.cons wsh (.cons (.refl _) (.cons (.refl _) (.cons (.refl _) (.cons (.refl _) (.cons (.refl _) (.cons wfl .nil))))))))))) (.cons (.refl _) .nil)))
       simp only [List.mem_cons,List.not_mem_nil,or_false]
       rintro c (rfl|rfl)
       ·exact .agg _ (low_dzC hllo hlhi lsh lfl)
       ·exact .val _
end
end Go.Proofs.YtoamkpgaaanafaaGreat
