/- Out of: Row32, Te, Tg, Ul2. -/
import Derived.Test.YtmeekbjhpidcgaaGreatDoorG13
import Derived.Test.YtmeekbjhpidcgaaGreatDoorG33
import Derived.Test.YtmeekbjhpidcgaaGreatDoorG37
namespace Go.Proofs.YtmeekbjhpidcgaaGreatDoor
set_option linter.unusedSimpArgs false
set_option linter.unusedVariables false
set_option linter.unnecessarySimpa false
section
open Go.ChangeShapes Go.WideShapes Go.ChangeAt Go.RowKit
theorem opensBs:Opens Tryz.prog 26 (fun l => [pbytes l]) (fun l=>(∀z∈l,0≤z∧z < 256)∧l.length * 1≤reachBytes):=
 (opens_slice Tryz.underlying26 (by kernel_rfl) (by decide) (by kernel_rfl) opensB (fun _ _=>rfl)).map id (fun a _=>by show [pbytes a]=_;rw [flatMap_1];rfl) (fun _ h=>h)
theorem argBs:ArgOpens Tryz.prog 26 pbytes (fun l=>(∀z∈l,0≤z∧z < 256)∧l.length * 1≤reachBytes):=arg_slice Tryz.underlying26 opensBs
theorem GoodM.fit {m:PMan} (h:GoodM m):Fit (m.ver :: m.notes)∧Fit (nosM m.refs):=by
 refine ⟨?_,?_⟩
 ·intro z hz
  rcases List.mem_cons.1 hz with rfl|hz
  ·exact h.ver
  ·exact h.notes z hz
 ·intro z hz
  obtain ⟨r,hr,hz⟩:=List.mem_flatMap.1 hz
  simp only [List.mem_cons,List.not_mem_nil,or_false] at hz
  rcases hz with rfl|rfl
  ·exact (h.refs r hr).1
  ·exact (h.refs r hr).2.1
end
section
open Go.RowKit
theorem dig_take {d:List Int} {i:Nat} (h:i < d.length):d.take (i+1)=d.take i ++ [d.getD i 0]:=by
 rw [List.take_add_one,List.getElem?_eq_getElem h,List.getD_eq_getElem?_getD,List.getElem?_eq_getElem h];rfl
end
section
open Go.RowKit
variable {P:Program} {T:Tab} {σ:PS} {o:Oper} {i base:Nat} {ops:Array Oper} {ok:Nat→Nat→Bool} {rest:List (Nat×Oper)} {K:PS→Prop}
theorem PWops.idxEO {d n off:Nat} {e:TypeId} {ag:Bool} {z:Int} {cs:List PV} {kk:IntKind} {x ix:Operand} {t:TypeId} {ti:TyI} (hg:pguard ops σ o=some true) (hd:o.dst=some d) (hop:o.op = .indexAddr t x ix) (hx:pev σ x = .ep cs off) (hi:pev σ ix = .val (.int kk z)) (ht:T.at t=some ti) (hk:ti.kind = .arr n e 1 ag) (hb:σ.freeB (base+i)=true) (h0:0≤z∧z < n)
  (kn:PWops P T ops base ok rest K (σ.put d (.ep cs (off+z.toNat)))):PWops P T ops base ok ((i,o) :: rest) K σ:=by
 refine pres_pval hg hd ?_ hb kn
 have h1:(0:Int)≤z∧z < (n:Int):=h0
 simp [hop,presE,pvalA,pval,pev_only,hx,hi,ht,hk,pindexAt,h1]
end
section
open Go.RowKit
theorem dig_cell {l:List PRef} {k i:Nat} {r:PRef} (h:l[k]? = some r) (hi:i < 16):(l.flatMap prefL)[k * 18+2+i]? = some (dg r i):=by
 have h1:=flatMap_row (f:=prefL) (k:=18) (fun _=>rfl) h
 have h2:(((l.flatMap prefL).drop (k * 18)).take 18)[2+i]? = some (dg r i):=by
  rw [h1]
  obtain rfl|rfl|rfl|rfl|rfl|rfl|rfl|rfl|rfl|rfl|rfl|rfl|rfl|rfl|rfl|rfl:i=0∨i=1∨i=2∨i=3∨i=4∨i=5∨i=6∨i=7∨i=8∨i=9∨i=10∨i=11∨i=12∨i=13∨i=14∨i=15:=by omega
  all_goals rfl
 rw [List.getElem?_take_of_lt (by omega),List.getElem?_drop] at h2
 rw [Nat.add_assoc];exact h2
set_option maxRecDepth 10000 in
set_option maxHeartbeats 4000000 in
theorem pw_rEncode (m:PMan) (h:EncM m):PCalls Tryz.prog 13 [pman m] (· = pbytesO (encM m)):=by
 obtain ⟨f1,f2,hd,l1,l2⟩:=h
 have hlm:=low_pmanL m
 have hln:Low (pints m.notes):=(low_pints _).2 trivial
 have hlr:Low (prefs m.refs):=(low_prefs _).2 trivial
 refine pcalls_of_pw typeTab_ok Tryz.func13 rfl (by kernel_rfl) (by simp [low_pint,low_pints,low_pstr,low_pbool,low_pbytes,low_pstrs,low_pman]) (by simp [pint,pints,pstr,pbool,pstrs,pbytes,PV.ownB,pman]) (by rw [Tryz.ntmps13];simp) ?_
 rw [Tryz.ntmps13,Tryz.results13]
 have fl:=rows_len m.refs
 refine wk ?_
 refine PW.loop (fun k:Nat=>(((((bot.setb 0 (pmanL m)).put 1 (.ptr 0 0)).put 3 (.sl (1+m.notes.length) 1 ([pint m.ver] ++ m.notes.map pint) (some 3))).put 4 (.sl (2 * k) 1 ((nosM (m.refs.take k)).map pint) (some 3))).put 5 (.sl k 1 ((digsM (m.refs.take k)).map pstr) (some 9))).put 6 (pint k)) (fun k=>k≤m.refs.length) (fun k=>m.refs.length - k) 0 (by omega) ?_ ?_
 ·(refine Sub.same ?_;(repeat (first|exact SubR.bot|((with_reducible refine SubR.isp ?_);refine SubR.put ?_ (by exact rq0))|((with_reducible refine SubR.isb ?_);refine SubR.setb ?_ rfl rfl (by exact rl0))|((with_reducible refine SubR.ism ?_);refine SubR.setm ?_ rfl rfl (by (first|exact ⟨rfl,rfl,rfl,rfl,rfl⟩|exact RenM.low (by first|assumption|exact hlowm _|exact hlowm _ _))))|refine SubR.put ?_ (.inl (ren_eqlow (sl_eq ?_ ?_) (by exact lw))))))
 ·intro k hk
  by_cases hlt:k < m.refs.length
  ·have hr:=getD_row hlt
   have hr':=ref_cell hr
   have hdr:=hd _ (List.mem_of_getElem? hr)
   have hd2:=fun _:Unit=>hd
   clear hd
   refine wk ?_
   refine PW.loop (fun i:Nat=>(((((((bot.setb 0 (pmanL m)).put 1 (.ptr 0 0)).put 3 (.sl (1+m.notes.length) 1 ([pint m.ver] ++ m.notes.map pint) (some 3))).put 4 (.sl (2 * k+2) 1 ((nosM (m.refs.take (k+1))).map pint) (some 3))).put 5 (.sl k 1 ((digsM (m.refs.take k)).map pstr) (some 9))).put 6 (pint k)).put 7 (.sl i 1 (((m.refs.getD k default).dig.take i).map pbyte) (some 5))).put 8 (pint i)) (fun i=>i≤16) (fun i=>16 - i) 0 (by omega) ?_ ?_
   ·(refine Sub.same ?_;(repeat (first|exact SubR.bot|((with_reducible refine SubR.isp ?_);refine SubR.put ?_ (by exact rq0))|((with_reducible refine SubR.isb ?_);refine SubR.setb ?_ rfl rfl (by exact rl0))|((with_reducible refine SubR.ism ?_);refine SubR.setm ?_ rfl rfl (by (first|exact ⟨rfl,rfl,rfl,rfl,rfl⟩|exact RenM.low (by first|assumption|exact hlowm _|exact hlowm _ _))))|refine SubR.put ?_ (.inl (ren_eqlow (sl_eq ?_ ?_) (by exact lw))))))
    ·omega
    ·rw [nosM_take hr,List.map_append];rfl
   ·intro i hi
    by_cases hi2:i < 16
    ·have hdt:=dig_take (d:=(m.refs.getD k default).dig) (i:=i) (by rw [hdr.1];exact hi2)
     have hdc:=dig_cell hr hi2
     refine wk ?_
     refine PWops.idxEO rfl rfl rfl rfl rfl rfl rfl rfl (by omega) ?_
     refine PWops.ld rfl rfl rfl rfl rfl rfl rfl hdc rfl ?_
     refine wk ?_
     refine loopP (i+1) (by omega) (by omega) ?_
     (refine Sub.same ?_;(repeat (first|exact SubR.bot|((with_reducible refine SubR.isp ?_);refine SubR.put ?_ (by exact rq0))|((with_reducible refine SubR.isb ?_);refine SubR.setb ?_ rfl rfl (by exact rl0))|((with_reducible refine SubR.ism ?_);refine SubR.setm ?_ rfl rfl (by (first|exact ⟨rfl,rfl,rfl,rfl,rfl⟩|exact RenM.low (by first|assumption|exact hlowm _|exact hlowm _ _))))|refine SubR.put ?_ (.inl (ren_eqlow (sl_eq ?_ ?_) (by exact lw))))))
     ·omega
     ·rw [hdt,List.map_append];rfl
    ·obtain rfl:i=16:=by omega
     have ht:(m.refs.getD k default).dig.take 16=(m.refs.getD k default).dig:=List.take_of_length_le (by rw [hdr.1];omega)
     rw [ht]
     refine wk ?_
     refine loopP (k+1) (by omega) (by omega) ?_
     (refine Sub.same ?_;(repeat (first|exact SubR.bot|((with_reducible refine SubR.isp ?_);refine SubR.put ?_ (by exact rq0))|((with_reducible refine SubR.isb ?_);refine SubR.setb ?_ rfl rfl (by exact rl0))|((with_reducible refine SubR.ism ?_);refine SubR.setm ?_ rfl rfl (by (first|exact ⟨rfl,rfl,rfl,rfl,rfl⟩|exact RenM.low (by first|assumption|exact hlowm _|exact hlowm _ _))))|refine SubR.put ?_ (.inl (ren_eqlow (sl_eq ?_ ?_) (by exact lw))))))
     ·omega
     ·rw [digsM_take hr,List.map_append];rfl
  ·obtain rfl:k=m.refs.length:=by omega
   have e0:m.refs.take m.refs.length=m.refs:=List.take_length
   rw [e0]
   have hc1:=pcRefInts (m.ver :: m.notes) f1 (by simp only [List.length_cons];omega)
   have hc2:=pcRefInts (nosM m.refs) f2 (by rw [nosM_len];omega)
   have hc3:=pcRefStrings (digsM m.refs) (digs_small hd) (by rw [digsM_len];omega)
   have e1:PV.sl (1+m.notes.length) 1 ([pint m.ver] ++ m.notes.map pint) none=pints (m.ver :: m.notes):=sl_eq (by simp only [List.length_cons];omega) rfl
   have e2:PV.sl (2 * m.refs.length) 1 ((nosM m.refs).map pint) none=pints (nosM m.refs):=sl_eq (by rw [nosM_len]) rfl
   have e3:PV.sl m.refs.length 1 ((digsM m.refs).map pstr) none=pstrs (digsM m.refs):=sl_eq (by rw [digsM_len]) rfl
   have b1:=flat_len (m.ver :: m.notes) f1
   have b2:=flat_len (nosM m.refs) f2
   have b3:=digs_len m.refs (fun r hr=>(hd r hr).1)
   have b4:=intB_len ((m.ver :: m.notes).length:Nat) (by omega) (by simp only [List.length_cons];omega)
   have b5:=intB_len ((nosM m.refs).length:Nat) (by omega) (by rw [nosM_len];omega)
   have b6:=intB_len ((digsM m.refs).length:Nat) (by omega) (by rw [digsM_len];omega)
   have hb:(intsB (m.ver :: m.notes)).length+(intsB (nosM m.refs)).length+(strsB (digsM m.refs)).length≤1000000000:=by
    unfold intsB strsB
    simp only [List.length_append]
    rw [nosM_len] at b2
    simp only [List.length_cons] at b1
    omega
   have hbE:(encM m).length=(intsB (m.ver :: m.notes)).length+(intsB (nosM m.refs)).length+(strsB (digsM m.refs)).length:=by simp only [encM,List.length_append];omega
   have hE:(encM m).map pbyte=(intsB (m.ver :: m.notes)).map pbyte ++ (intsB (nosM m.refs)).map pbyte ++ (strsB (digsM m.refs)).map pbyte:=by simp [encM]
   clear hd f1 f2 b1 b2 b3 b4 b5 b6
   rw [←e1] at hc1
   rw [←e2] at hc2
   rw [←e3] at hc3
   clear e1 e2 e3
   refine wk ?_
   refine retP rfl (.sl _ _ _ _ (fun c hc=>by simp at hc;rcases hc with ⟨z,-,rfl⟩|⟨z,-,rfl⟩|⟨z,-,rfl⟩<;>exact .val _)) ?_
   unfold pbytesO
   rw [hbE,hE]
def nilR:List PV := [pint 0, .nilsl, .nilsl,pint 0]
def nilR11:List PV := [pint 0, .nilsl, .nilsl,pint 11]
theorem low_nilR:∀c∈nilR,Low c:=by
 intro c hc
 simp only [nilR,List.mem_cons,List.not_mem_nil,or_false] at hc
 rcases hc with rfl|rfl|rfl|rfl
 ·exact .val _
 ·exact .nilsl
 ·exact .nilsl
 ·exact .val _
theorem low_r11:Low (.agg nilR11):=.agg _ (by
 intro c hc
 simp only [nilR11,List.mem_cons,List.not_mem_nil,or_false] at hc
 rcases hc with rfl|rfl|rfl|rfl
 ·exact .val _
 ·exact .nilsl
 ·exact .nilsl
 ·exact .val _)
def preadO:Option PMan→PV
 |none=>.agg (pmanL zeroM ++ [pint 11])
 |some m=>.agg (pmanL m ++ [pint 0])
theorem low_preadO (o:Option PMan):Low (preadO o):=by
 cases o<;>exact .agg _ (by
  intro x hx
  rcases List.mem_append.1 hx with hx|hx
  ·exact low_pmanL _ x hx
  ·simp only [List.mem_cons,List.not_mem_nil,or_false] at hx;subst hx;exact .val _)
theorem weak_r11:Weak (.agg nilR11) (preadO none):=.agg (.cons (.refl _) (.cons (.nil 1) (.cons (.nil 18) (.cons (.refl _) .nil))))
def refP (x:PRef) (y:Nat):List PV := [pint x.kind,pint x.id,cond (Nat.blt 0 y) (dg x 0) (pbyte 0),cond (Nat.blt 1 y) (dg x 1) (pbyte 0),cond (Nat.blt 2 y) (dg x 2) (pbyte 0),cond (Nat.blt 3 y) (dg x 3) (pbyte 0),cond (Nat.blt 4 y) (dg x 4) (pbyte 0),cond (Nat.blt 5 y) (dg x 5) (pbyte 0),cond (Nat.blt 6 y) (dg x 6) (pbyte 0),cond (Nat.blt 7 y) (dg x 7) (pbyte 0),cond (Nat.blt 8 y) (dg x 8) (pbyte 0),cond (Nat.blt 9 y) (dg x 9) (pbyte 0),cond (Nat.blt 10 y) (dg x 10) (pbyte 0),cond (Nat.blt 11 y) (dg x 11) (pbyte 0),cond (Nat.blt 12 y) (dg x 12) (pbyte 0),cond (Nat.blt 13 y) (dg x 13) (pbyte 0),cond (Nat.blt 14 y) (dg x 14) (pbyte 0),cond (Nat.blt 15 y) (dg x 15) (pbyte 0)]
theorem low_refP (x:PRef) (y:Nat):∀c∈refP x y,Low c:=by
 have h:∀i,Low (cond (Nat.blt i y) (dg x i) (pbyte 0)):=fun i=>by cases Nat.blt i y<;>exact .val _
 intro c hc
 simp only [refP,List.mem_cons,List.not_mem_nil,or_false] at hc
 rcases hc with rfl|rfl|rfl|rfl|rfl|rfl|rfl|rfl|rfl|rfl|rfl|rfl|rfl|rfl|rfl|rfl|rfl|rfl
 ·exact .val _
 ·exact .val _
 all_goals exact h _
theorem refP_step (x:PRef) {y:Nat} (h:y < 16):splice (refP x y) (0+2+y * 1) [dg x y]=refP x (y+1):=by
 obtain rfl|rfl|rfl|rfl|rfl|rfl|rfl|rfl|rfl|rfl|rfl|rfl|rfl|rfl|rfl|rfl:y=0∨y=1∨y=2∨y=3∨y=4∨y=5∨y=6∨y=7∨y=8∨y=9∨y=10∨y=11∨y=12∨y=13∨y=14∨y=15:=by omega
 all_goals rfl
set_option maxRecDepth 10000 in
set_option maxHeartbeats 8000000 in
theorem pw_rDecode (bs:List Int) (hby:Byte bs) (hl:bs.length≤1000000000):PCalls Tryz.prog 11 [pbytes bs] (· = preadO (decM bs)):=by
 have hln:=low_nilR
 have hln2:=low_nilM
 refine PCalls.weak ?_
 refine pcalls_of_pw typeTab_ok Tryz.func11 rfl (by kernel_rfl) (by simp [low_pint,low_pints,low_pstr,low_pbool,low_pbytes,low_pstrs]) (by simp [pint,pints,pstr,pbool,pstrs,pbytes,PV.ownB]) (by rw [Tryz.ntmps11];simp) ?_
 rw [Tryz.ntmps11,Tryz.results11]
 have cg:=pcRefGetInts bs hby (by omega)
 obtain ⟨a,u,er,h1⟩:∃a u er,getInts bs=(a,u,er):=⟨_,_,_,rfl⟩
 rw [h1] at cg
 simp only at cg
 refine wk ?_
 by_cases g1:er=0
 case neg=>
  refine wk ?_
  refine retP (r:=.agg nilR11) rfl low_r11 ?_
  have hD:decM bs=none:=by rw [decM,h1,if_pos (.inl g1)]
  rw [hD];exact weak_r11
 subst g1
 obtain ⟨t1,t2,t3⟩:=getInts_take bs a u hby.all h1
 have t4:=getInts_short bs a u hby.all h1
 refine wk ?_
 by_cases g2:a.length=0
 ·refine wk ?_
  refine retP (r:=.agg nilR11) rfl low_r11 ?_
  have hD:decM bs=none:=by rw [decM,h1,if_pos (.inr (List.eq_nil_of_length_eq_zero g2))]
  rw [hD];exact weak_r11
 obtain ⟨U,rfl⟩:∃N:Nat,u=N:=⟨u.toNat,by omega⟩
 have cg2:=pcRefGetInts (bs.drop U) (hby.drop U) (by rw [List.length_drop];omega)
 obtain ⟨b,v,er,h2⟩:∃b v er,getInts (bs.drop U)=(b,v,er):=⟨_,_,_,rfl⟩
 rw [h2] at cg2
 simp only at cg2
 have hne:¬((0:Int)≠0∨a = []):=by rintro (h|h);exact h rfl;rw [h] at g2;exact g2 rfl
 have hD:decM bs=if er≠0 then none else
   if (getStrs (bs.drop (U+v.toNat))).2.2≠0∨(U:Int)+v.toNat+(getStrs (bs.drop (U+v.toNat))).2.1≠bs.length∨b.length≠2 * (getStrs (bs.drop (U+v.toNat))).1.length then none
   else if (getStrs (bs.drop (U+v.toNat))).1.any (fun s=>decide (s.size≠16))=true then none
   else if checkM 1 2 ⟨a.headD 0,a.tail,refsOf b (getStrs (bs.drop (U+v.toNat))).1⟩=0 then some ⟨a.headD 0,a.tail,refsOf b (getStrs (bs.drop (U+v.toNat))).1⟩ else none:=by
  rw [decM,h1]
  simp only
  rw [if_neg hne,Int.toNat_natCast,h2]
 clear hne h1 t1
 refine wk ?_
 by_cases g3:er=0
 case neg=>
  refine wk ?_
  refine retP (r:=.agg nilR11) rfl low_r11 ?_
  rw [hD,if_pos g3];exact weak_r11
 subst g3
 rw [if_neg (by simp)] at hD
 obtain ⟨t5,t6,t7⟩:=getInts_take (bs.drop U) b v (hby.drop U).all h2
 have t8:=getInts_short (bs.drop U) b v (hby.drop U).all h2
 obtain ⟨V,rfl⟩:∃N:Nat,v=N:=⟨v.toNat,by omega⟩
 rw [Int.toNat_natCast] at hD
 rw [List.length_drop] at t7 t8
 have eUV:((U:Int)+V).toNat=U+V:=by omega
 have cs:=pw_refGetStrs (bs.drop (U+V)) (hby.drop (U+V)) (by rw [List.length_drop];omega)
 obtain ⟨d,w,er,h3⟩:∃d w er,getStrs (bs.drop (U+V))=(d,w,er):=⟨_,_,_,rfl⟩
 rw [h3] at cs hD
 simp only at cs hD
 clear h2 t5
 refine wk ?_
 by_cases g4:er=0
 case neg=>
  refine wk ?_
  refine retP (r:=.agg nilR11) rfl low_r11 ?_
  rw [hD,if_pos (.inl g4)];exact weak_r11
 subst g4
 have t9:=getStrs_len (bs.drop (U+V)) d w (hby.drop (U+V)).all h3
 have t12:=(getStrs_take (bs.drop (U+V)) d w (hby.drop (U+V)).all h3).2
 rw [List.length_drop] at t12
 have g7:(U:Int)+V+w=bs.length∨¬(U:Int)+V+w=bs.length:=Classical.em _
 have t10:=t9.1
 have t11:=t9.2
 rw [List.length_drop] at t10
 clear t9 h3
 rcases g7 with g7|g7
 rotate_left
 ·refine wk ?_
  refine retP (r:=.agg nilR11) rfl low_r11 ?_
  rw [hD,if_pos (.inr (.inl g7))];exact weak_r11
 by_cases g5:b.length=2 * d.length
 case neg=>
  refine wk ?_
  refine retP (r:=.agg nilR11) rfl low_r11 ?_
  rw [hD,if_pos (.inr (.inr g5))];exact weak_r11
 rw [if_neg (by rintro (h|h|h);exact h rfl;exact h g7;exact h g5)] at hD
 obtain ⟨L,hL⟩:∃L,L=refsOf b d:=⟨_,rfl⟩
 rw [←hL] at hD
 have hLl:L.length=d.length:=by rw [hL];exact refsOf_len d b g5
 have hLg:∀i,i < d.length→L[i]? = some ⟨b.getD (2 * i) default,b.getD (2 * i+1) default,bytesL (d.getD i default)⟩:=fun i hi=>by rw [hL];exact refsOf_get d b i g5 hi
 obtain ⟨v0,ns,rfl⟩:∃v0 ns,a=v0 :: ns:=by cases a with|nil=>exact absurd rfl g2|cons x y=>exact ⟨x,y,rfl⟩
 simp only [List.headD_cons,List.tail_cons] at hD
 have hbad:(∃i,i < d.length∧(d.getD i default).size≠16)→decM bs=none:=fun ⟨i,hi,h⟩=>by
  rw [hD,if_pos]
  rw [List.any_eq_true]
  refine ⟨d.getD i default,?_,by simpa using h⟩
  rw [List.getD_eq_getElem?_getD,List.getElem?_eq_getElem hi];exact List.getElem_mem hi
 clear hL
 have hDu:=fun _:Unit=>hD
 clear hD
 refine wk ?_
 refine PW.loop (fun i:Nat=>((((((bot.setb 0 nilR).setb 10006 (manC v0 ns (fldR L i))).put 2 (.ptr 0 0)).put 6 (pints b)).put 9 (pstrs d)).put 12 (.ptr 10006 0)).put 13 (pint i)) (fun i=>i≤d.length∧∀j,j < i→(d.getD j default).size=16) (fun i=>d.length - i) 0 ⟨by omega,fun j hj=>by omega⟩ ?_ ?_
 ·have hlm:=low_manC v0 ns L 0
  exact sb
 ·rintro i ⟨hi,hs⟩
  have hlm:=low_manC v0 ns L i
  by_cases hlt:i < d.length
  ·have hsu:=fun _:Unit=>hs
   clear hs
   refine wk ?_
   by_cases g6:(d.getD i default).size=16
   case neg=>
    refine wk ?_
    refine retP (r:=.agg nilR11) rfl low_r11 ?_
    rw [hbad ⟨i,hlt,g6⟩];exact weak_r11
   have hx:=hLg i hlt
   have hfs:=fldR_succ hx
   have hlm2:=low_manC v0 ns L (i+1)
   obtain ⟨x,hxe⟩:∃x:PRef,x=⟨b.getD (2 * i) default,b.getD (2 * i+1) default,bytesL (d.getD i default)⟩:=⟨_,rfl⟩
   have hp0:=low_refP x
   refine wk ?_
   refine PW.loop (fun y:Nat=>((((((((bot.setb 0 nilR).setb 10006 (manC v0 ns (fldR L i))).setb 16012 (refP x y)).put 2 (.ptr 0 0)).put 6 (pints b)).put 9 (pstrs d)).put 12 (.ptr 10006 0)).put 13 (pint i)).put 14 (.ptr 16012 0) |>.put 15 (pint y)) (fun y=>y≤16) (fun y=>16 - y) 0 (by omega) ?_ ?_
   ·have hp:=low_refP x 0
    have hq:refP x 0 = [pint (b.getD (2 * i) default),pint (b.getD (2 * i+1) default),pbyte 0,pbyte 0,pbyte 0,pbyte 0,pbyte 0,pbyte 0,pbyte 0,pbyte 0,pbyte 0,pbyte 0,pbyte 0,pbyte 0,pbyte 0,pbyte 0,pbyte 0,pbyte 0]:=by rw [hxe];rfl
    dsimp only
    rw [hq]
    exact sb
   ·intro y hy
    by_cases hy2:y < 16
    ·have hst:=refP_step x hy2
     have hp:=low_refP x (y+1)
     have hxd:(bytesL (d.getD i default)).getD y 0=x.dig.getD y 0:=by rw [hxe]
     refine wk ?_
     refine PWops.idxSt rfl rfl rfl rfl rfl rfl rfl rfl rfl (by omega) hxd ?_
     refine wk ?_
     refine PWops.stB rfl rfl rfl rfl rfl rfl rfl rfl rfl ⟨rfl,by show 0+2+y * 1+1≤18;omega⟩ hst ?_
     refine wk ?_
     refine loopP (y+1) (by omega) (by omega) ?_
     exact sb
    ·obtain rfl:y=16:=by omega
     have hq:fldR L (i+1) = .sl (i+1) 18 ((L.take i).flatMap prefL ++ refP x 16) (some 42):=by rw [hfs,←hxe];rfl
     have hlm3:=hlm2
     rw [hq] at hlm3
     refine wk ?_
     refine loopP (i+1) ⟨by omega,fun j hj=>?_⟩ (by omega) ?_
     ·by_cases hj2:j=i
      ·subst hj2;exact g6
      ·exact hsu () j (by omega)
     try dsimp only
     rw [hq]
     exact sb
  ·obtain rfl:i=d.length:=by omega
   have hany:d.any (fun s=>decide (s.size≠16))=false:=by
    rw [List.any_eq_false]
    intro s hs'
    obtain ⟨j,hj,rfl⟩:=List.getElem_of_mem hs'
    have:=hs j hj
    rw [List.getD_eq_getElem?_getD,List.getElem?_eq_getElem hj] at this
    simpa using this
   have hdg:∀r∈L,r.dig.length=16∧∀c∈r.dig,0≤c∧c < 256:=by
    intro r hr
    obtain ⟨j,hj,rfl⟩:=List.getElem_of_mem hr
    have h4:=hLg j (by omega)
    rw [List.getElem?_eq_getElem hj,Option.some.injEq] at h4
    rw [h4]
    simp only
    exact ⟨by rw [bytesL_len];exact hs j (by omega),bytesL_byte _⟩
   have hD:=hDu ()
   rw [hany,if_neg (by simp)] at hD
   clear hany hs hLg hbad hDu t11 cs cg cg2
   simp only [List.length_cons] at t4
   have e0:L.take d.length=L:=List.take_of_length_le (by omega)
   have hm1:ns.length≤1000000000:=by omega
   have hm2:L.length≤1000000000:=by omega
   have hcod:checkM 2 3 ⟨v0,ns,L⟩=0↔checkM 1 2 ⟨v0,ns,L⟩=0:=by unfold checkM;repeat' split<;>simp
   have hD2:decM bs=if checkM 1 2 ⟨v0,ns,L⟩=0 then some ⟨v0,ns,L⟩ else none:=hD
   clear hD hdg
   have hlp:Low (pints ns):=(low_pints _).2 trivial
   have hlr:Low (prefs L):=(low_prefs _).2 trivial
   have hl3:=low_pmanL ⟨v0,ns,L⟩
   unfold fldR
   rw [e0,←hLl]
   have hck:=pw_rCheck ⟨v0,ns,L⟩ hm1 hm2
   by_cases z0:checkM 1 2 ⟨v0,ns,L⟩=0
   ·have z1:=hcod.2 z0
    rw [z1] at hck
    rw [hD2,if_pos z0]
    clear hD2 hcod
    refine wk ?_
    exact retP (r:=preadO (some ⟨v0,ns,L⟩)) rfl (low_preadO _) (Weak.refl _)
   ·have z1:checkM 2 3 ⟨v0,ns,L⟩≠0:=fun h=>z0 (hcod.1 h)
    rw [hD2,if_neg z0]
    clear hD2 hcod z0
    generalize checkM 2 3 ⟨v0,ns,L⟩=z at *
    refine wk ?_
    exact retP (r:=.agg nilR11) rfl low_r11 weak_r11
theorem decM_encIf {m:PMan} (n1:m.notes.length≤20) (n2:m.refs.length≤610) (f1:Fit (m.ver :: m.notes)) (f2:Fit (nosM m.refs)) (hd:DigsOK m):decM (encM m)=if checkM 1 2 m=0 then some m else none:=by
 have h1:getInts (encM m)=(m.ver :: m.notes,((intsB (m.ver :: m.notes)).length:Int),0):=getInts_rest _ _ f1 (by simp only [List.length_cons];omega)
 have h2:(encM m).drop (intsB (m.ver :: m.notes)).length=intsB (nosM m.refs) ++ strsB (digsM m.refs):=by rw [encM,List.drop_left]
 have h3:getInts (intsB (nosM m.refs) ++ strsB (digsM m.refs))=(nosM m.refs,((intsB (nosM m.refs)).length:Int),0):=getInts_rest _ _ f2 (by rw [nosM_len];omega)
 have h4:(encM m).drop ((intsB (m.ver :: m.notes)).length+(intsB (nosM m.refs)).length)=strsB (digsM m.refs) ++ []:=by rw [←List.drop_drop,h2,List.drop_left];simp
 have h5:=getStrs_rest (digsM m.refs) [] (digs_small hd) (by rw [digsM_len];omega)
 have hlen:(encM m).length=(intsB (m.ver :: m.notes)).length+((intsB (nosM m.refs)).length+(strsB (digsM m.refs)).length):=by simp [encM]
 unfold decM
 rw [h1]
 simp only [Int.toNat_natCast]
 rw [if_neg (by simp),h2,h3]
 simp only [Int.toNat_natCast]
 rw [if_neg (by simp),h4,h5]
 simp only
 rw [if_neg (by
  simp only [not_or,Classical.not_not]
  refine ⟨trivial,?_,?_⟩
  ·rw [hlen];omega
  ·rw [nosM_len,digsM_len]),if_neg (by
  rw [List.any_eq_true]
  rintro ⟨s,hs,h⟩
  obtain ⟨r,hr,rfl⟩:=List.mem_map.1 hs
  rw [strOf_size,(hd r hr).1] at h
  simp at h)]
 rw [refsOf_enc _ (fun r hr=>(hd r hr).2)]
 show (if checkM 1 2 ⟨m.ver,m.notes,m.refs⟩=0 then some (⟨m.ver,m.notes,m.refs⟩:PMan) else none)=_
 rw [show (⟨m.ver,m.notes,m.refs⟩:PMan)=m by cases m;rfl]
theorem encM_lenF {m:PMan} (n1:m.notes.length≤20) (n2:m.refs.length≤610) (f1:Fit (m.ver :: m.notes)) (f2:Fit (nosM m.refs)) (hd:DigsOK m):(encM m).length≤1000000000:=by
 have h1:=flat_len (m.ver :: m.notes) f1
 have h2:=flat_len (nosM m.refs) f2
 have h3:=digs_len m.refs (fun r hr=>(hd r hr).1)
 have l1:=intB_len ((m.ver :: m.notes).length:Nat) (by omega) (by simp only [List.length_cons];omega)
 have l2:=intB_len ((nosM m.refs).length:Nat) (by omega) (by rw [nosM_len];omega)
 have l3:=intB_len ((digsM m.refs).length:Nat) (by omega) (by rw [digsM_len];omega)
 have l4:=nosM_len m.refs
 simp only [List.length_cons] at h1
 unfold encM intsB strsB
 simp only [List.length_append]
 omega
set_option maxRecDepth 10000 in
set_option maxHeartbeats 4000000 in
theorem pw_lReads (m:PMan) (bs:List Int) (hF:Fit (m.ver :: m.notes)) (hF2:Fit (nosM m.refs)) (hd:DigsOK m) (hl1:m.notes.length≤1000000000000000) (hl2:m.refs.length≤1000000000000000) (hby:Byte bs) (hbl:bs.length≤1000000000000000) :
  PCalls Tryz.prog 3 [pman m,pbytes bs] (· = pbool true):=by
 have hsan:=pw_sanity32
 have hfew:=pw_few32 m hl1 hl2
 have hlm:=low_pmanL m
 refine pcalls_of_pw typeTab_ok Tryz.func3 rfl (by kernel_rfl) (by intro p hp;simp only [List.mem_cons,List.not_mem_nil,or_false] at hp;rcases hp with rfl|rfl;exact (low_pman m).2 trivial;exact .sl _ _ _ _ (low_map (fun _=>Low.val _) _)) (by simp [pman,pbytes,PV.ownB]) (Nat.le_of_ble_eq_true rfl) ?_
 by_cases g1:few32C m=true
 case neg=>
  rw [show few32C m=false by simpa using g1] at hfew
  refine wk ?_
  exact retP rfl (.val _) rfl
 rw [g1] at hfew
 by_cases g2:3000 < bs.length
 ·refine wk ?_
  exact retP rfl (.val _) rfl
 unfold few32C at g1
 simp only [Bool.and_eq_true,Bool.or_eq_true,decide_eq_true_eq] at g1
 have hE:EncM m:=⟨hF,hF2,hd,by omega,by omega⟩
 have k1:=pw_mCheck m (by omega) (by omega)
 have k2:=pw_mEncode m hE
 have k3:=pw_mDecode bs hby (by omega)
 have k4:=pw_rDecode bs hby (by omega)
 have k5:=pw_rCheck m (by omega) (by omega)
 have k6:=pw_rEncode m hE
 rw [decA_eq hby.all] at k3
 clear hE
 have hz:checkM 2 3 m=0∨checkM 2 3 m=2∨checkM 2 3 m=3:=by
  unfold checkM;split
  ·exact .inr (.inl rfl)
  ·split
   ·exact .inl rfl
   ·exact .inr (.inr rfl)
 obtain ⟨oe,hoe⟩:∃oe,oe=decM (encM m):=⟨_,rfl⟩
 have hel:=encM_lenF (m:=m) (by omega) (by omega) hF hF2 hd
 have k8:=pw_mDecode (encM m) (Byte.of (fun c hc=>encM_byte c hc)) hel
 rw [decA_eq (fun c hc=>encM_byte c hc),←hoe] at k8
 -- the own encoding is decoded to the manifest itself,if it is right,else to nothing
 have hown:(checkM 2 3 m=0→oe=some m)∧(checkM 2 3 m≠0→oe=none):=by
  have h:=decM_encIf (m:=m) (by omega) (by omega) hF hF2 hd
  rw [←hoe] at h
  have hi:checkM 1 2 m=0↔checkM 2 3 m=0:=(checkM_iff (by decide) (by decide)).trans (checkM_iff (by decide) (by decide)).symm
  exact ⟨fun h1=>by rw [h,if_pos (hi.2 h1)],fun h1=>by rw [h,if_neg (fun h2=>h1 (hi.1 h2))]⟩
 generalize checkM 2 3 m=z at *
 have hz1:(!(z == z))=false:=by simp
 have hz2:(z != z)=false:=by simp
 have hz3:(!decide (z=z))=false:=by simp
 have e1:(!((strI (encM m)).toList == (strI (encM m)).toList))=false:=by simp
 have k7:=pw_same zeroM zeroM (by decide) (by decide) (by decide) (by decide)
 have k9:=pw_same m m (by omega) (by omega) (fun r hr=>(hd r hr).1) (fun r hr=>(hd r hr).1)
 rw [decide_eq_true rfl] at k7 k9
 clear hF hF2 hd hel hoe g1
 by_cases hz0:z=0
 ·subst hz0
  rw [hown.1 rfl] at k8
  clear hown hz hz1 hz2 hz3
  cases ho:decM bs with
  |none=>
   rw [ho] at k3 k4
   refine wk ?_
   exact retP rfl (.val _) rfl
  |some x=>
   rw [ho] at k3 k4
   obtain ⟨x1,x2,x3⟩:=enc_decM hby.all ho
   have x4:checkM 2 3 x=0:=(checkM_iff (by decide) (by decide)).2 ((checkM_iff (by decide) (by decide)).1 x2)
   obtain ⟨⟨l1,l2⟩,-⟩:=(checkM_iff (by decide) (by decide)).1 x2
   have k10:=pw_mEncode x (okM x4 x3).1
   rw [x1] at k10
   have e2:(!((strI bs).toList == (strI bs).toList))=false:=by simp
   have k11:=pw_same x x (by omega) (by omega) (fun r hr=>(x3 r hr).1) (fun r hr=>(x3 r hr).1)
   rw [decide_eq_true rfl] at k11
   have hlx:=low_pmanL x
   clear x1 x2 x3 x4 ho
   refine wk ?_
   exact retP rfl (.val _) rfl
 ·rw [hown.2 hz0] at k8
  clear hown
  cases ho:decM bs with
  |none=>
   rw [ho] at k3 k4
   refine wk ?_
   exact retP rfl (.val _) rfl
  |some x=>
   rw [ho] at k3 k4
   obtain ⟨x1,x2,x3⟩:=enc_decM hby.all ho
   have x4:checkM 2 3 x=0:=(checkM_iff (by decide) (by decide)).2 ((checkM_iff (by decide) (by decide)).1 x2)
   obtain ⟨⟨l1,l2⟩,-⟩:=(checkM_iff (by decide) (by decide)).1 x2
   have k10:=pw_mEncode x (okM x4 x3).1
   rw [x1] at k10
   have e2:(!((strI bs).toList == (strI bs).toList))=false:=by simp
   have k11:=pw_same x x (by omega) (by omega) (fun r hr=>(x3 r hr).1) (fun r hr=>(x3 r hr).1)
   rw [decide_eq_true rfl] at k11
   have hlx:=low_pmanL x
   clear x1 x2 x3 x4 ho
   refine wk ?_
   exact retP rfl (.val _) rfl
end
end Go.Proofs.YtmeekbjhpidcgaaGreatDoor
